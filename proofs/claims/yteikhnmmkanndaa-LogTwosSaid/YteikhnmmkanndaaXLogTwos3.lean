/- Laid together by prune.py out of the texts that the row needs: the declarations that its theorem uses. -/
import Derived.Test.YteikhnmmkanndaaXLogTwos2
import Derived.Test.YteikhnmmkanndaaProg
import Derived.Below
import Derived.Deep.Draws
import Derived.Deep.AppendLies
import Derived.Maps.AppendAt
import Derived.OwnWalk
import Derived.Laws.BytesArg
import Derived.Laws.MakeOwn
import Derived.Laws.OwnMore
import Derived.Deep.OwnRows
import Derived.Tactics
import Derived.Lib.ConvBytes
import Derived.Laws.Slices
import Derived.WalkKit
import Derived.KernelRfl
import Derived.RowKit3
import Derived.Deep.LoopGhost
import Derived.Deep.QuietTactic
import Derived.BigQuiet
import Derived.WideLaws
import Derived.Deep.DeepCutAuto
import Derived.Deep.CutBlock
import Derived.Deep.RegionHeld3
import Derived.Laws.Rows
import Derived.Lib.AppendStr
import Derived.ArgAppend
import Derived.Laws.IdiomCopy
import Derived.OrdersHeld
import Derived.Laws.BitsLemmas
import Derived.RowKit
namespace Go.Proofs.Yteikhnmmkanndaa.PAll
open Go.RowKit Go.Proofs.YteikhnmmkanndaaW.PrintWords Go.Proofs.YteikhnmmkanndaaW.PrintLast Go.Proofs.YteikhnmmkanndaaW.PrintMore
attribute [local go_sem] max2_int min2_int max_two min_two max_three min_three max_four min_four   -- for this text's walks alone
set_option linter.unusedVariables false
set_option linter.unusedSimpArgs false
theorem info62 : (Try.prog.info? 62).map (fun i => (i.zero, i.size, i.bytes)) = some (some (.int .u64 0), 1, 8) := by kernel_rfl
theorem wrap_u64 (n : Int) : IntKind.u64.wrap n = n % 18446744073709551616 := by
  unfold IntKind.wrap
  rw [if_neg (by rw [show IntKind.u64.signed = false from rfl, Bool.false_and]; decide)]
  rfl
end Go.Proofs.Yteikhnmmkanndaa.PAll
namespace Go.Proofs.Yteikhnmmkanndaa.PAll
open Go.RowKit Go.Proofs.YteikhnmmkanndaaW.PrintWords Go.Proofs.YteikhnmmkanndaaW.PrintLast Go.Proofs.YteikhnmmkanndaaW.PrintMore
attribute [local go_sem] max2_int min2_int max_two min_two max_three min_three max_four min_four   -- for this text's walks alone
set_option linter.unusedVariables false
set_option linter.unusedSimpArgs false
def locutionref25_at.f (l0 : List Int) (a1 : Int) : Option (Int) := if a1 < 0 then (some 0) else (if a1 ≥ (l0.length : Int) then (some 0) else (if 0 ≤ a1 then (if a1 < (l0.length : Int) then (some (rd l0 a1)) else (none)) else (none)))
def locutionref25_Trim.l0 : Nat → List Int → Int → Option (List Int)
  | 0, _, _ => none
  | k + 1, x0, x3 => if x3 > 0 then (if 0 ≤ (wrap64 (x3 - 1)) then (if (wrap64 (x3 - 1)) < (x0.length : Int) then (if (rd x0 (wrap64 (x3 - 1))) = 0 then (locutionref25_Trim.l0 k x0 (wrap64 (x3 - 1))) else ((some (([] : List Int) : List Int)).bind fun y252 => (if 0 ≤ x3 then (if x3 ≤ (x0.length : Int) then (if y252.length + (x0.take (x3 : Int).toNat).length < 17592186044416 then (some (y252 ++ (x0.take (x3 : Int).toNat))) else (none)) else (none)) else (none)))) else (none)) else (none)) else ((some (([] : List Int) : List Int)).bind fun y259 => (if 0 ≤ x3 then (if x3 ≤ (x0.length : Int) then (if y259.length + (x0.take (x3 : Int).toNat).length < 17592186044416 then (some (y259 ++ (x0.take (x3 : Int).toNat))) else (none)) else (none)) else (none)))
def locutionref25_Trim.f (k : Nat) (l0 : List Int) : Option (List Int) := locutionref25_Trim.l0 k l0 (l0.length : Int)
theorem locutionref25_Trim.mono_l : ∀ k, (∀ y0 y1, LeO (locutionref25_Trim.l0 k y0 y1) (locutionref25_Trim.l0 (k + 1) y0 y1))
  | 0 => fun _ _ r h => by simp [locutionref25_Trim.l0] at h
  | k + 1 => by
    have ih0 := locutionref25_Trim.mono_l k
    · intro y0 y1
      unfold locutionref25_Trim.l0
      repeat' first
      | (with_reducible exact ih0 _ _)
      | (with_reducible exact LeO.refl _)
      | (with_reducible exact LeO.none _)
      | (with_reducible refine LeO.ite ?_ ?_)
      | (with_reducible refine LeO.bind ?_ (fun _ => ?_))
      | exact ih0 _ _
      | exact LeO.none _
      | refine LeO.ite ?_ ?_
      | refine LeO.bind ?_ (fun _ => ?_)
theorem locutionref25_Trim.mono : ∀ a0 k, LeO (locutionref25_Trim.f k a0) (locutionref25_Trim.f (k + 1) a0) := by
  intro a0 k
  have ih0 := locutionref25_Trim.mono_l k
  unfold locutionref25_Trim.f
  repeat' first
      | (with_reducible exact ih0 _ _)
      | (with_reducible exact LeO.refl _)
      | (with_reducible exact LeO.none _)
      | (with_reducible refine LeO.ite ?_ ?_)
      | (with_reducible refine LeO.bind ?_ (fun _ => ?_))
      | exact ih0 _ _
      | exact LeO.none _
      | refine LeO.ite ?_ ?_
      | refine LeO.bind ?_ (fun _ => ?_)
def locutionref25_Of.l0 : Nat → List Int → List Int → Int → Option (List Int)
  | 0, _, _, _ => none
  | k + 1, x0, x3, x4 => if x4 ≥ 0 then (if 0 ≤ x4 then (if x4 < (x0.length : Int) then (if x3.length < 17592186044416 then (locutionref25_Of.l0 k x0 (x3 ++ [wrap64 (rd x0 x4)]) (wrap64 (x4 - 1))) else (none)) else (none)) else (none)) else ((locutionref25_Trim.f k x3).bind fun t280 => (some t280))
def locutionref25_Of.f (k : Nat) (l0 : List Int) : Option (List Int) := locutionref25_Of.l0 k l0 ([] : List Int) (wrap64 ((l0.length : Int) - 1))
theorem locutionref25_Of.mono_l : ∀ k, (∀ y0 y1 y2, LeO (locutionref25_Of.l0 k y0 y1 y2) (locutionref25_Of.l0 (k + 1) y0 y1 y2))
  | 0 => fun _ _ _ r h => by simp [locutionref25_Of.l0] at h
  | k + 1 => by
    have ih0 := locutionref25_Of.mono_l k
    · intro y0 y1 y2
      unfold locutionref25_Of.l0
      repeat' first
      | (with_reducible exact ih0 _ _ _)
      | (with_reducible exact locutionref25_Trim.mono _ _)
      | (with_reducible exact LeO.refl _)
      | (with_reducible exact LeO.none _)
      | (with_reducible refine LeO.ite ?_ ?_)
      | (with_reducible refine LeO.bind ?_ (fun _ => ?_))
      | exact ih0 _ _ _
      | exact locutionref25_Trim.mono _ _
      | exact LeO.none _
      | refine LeO.ite ?_ ?_
      | refine LeO.bind ?_ (fun _ => ?_)
theorem locutionref25_Of.mono : ∀ a0 k, LeO (locutionref25_Of.f k a0) (locutionref25_Of.f (k + 1) a0) := by
  intro a0 k
  have ih0 := locutionref25_Of.mono_l k
  unfold locutionref25_Of.f
  repeat' first
      | (with_reducible exact ih0 _ _ _)
      | (with_reducible exact locutionref25_Trim.mono _ _)
      | (with_reducible exact LeO.refl _)
      | (with_reducible exact LeO.none _)
      | (with_reducible refine LeO.ite ?_ ?_)
      | (with_reducible refine LeO.bind ?_ (fun _ => ?_))
      | exact ih0 _ _ _
      | exact locutionref25_Trim.mono _ _
      | exact LeO.none _
      | refine LeO.ite ?_ ?_
      | refine LeO.bind ?_ (fun _ => ?_)
def locutionref25_Cmp.l0 : Nat → List Int → List Int → Int → Option (Int)
  | 0, _, _, _ => none
  | k + 1, x0, x1, x5 => if x5 ≥ 0 then (if 0 ≤ x5 then (if x5 < (x0.length : Int) then (if x5 < (x1.length : Int) then (if (rd x0 x5) < (rd x1 x5) then (some (-1)) else (if (rd x0 x5) > (rd x1 x5) then (some 1) else (locutionref25_Cmp.l0 k x0 x1 (wrap64 (x5 - 1))))) else (none)) else (none)) else (none)) else (some 0)
def locutionref25_Cmp.f (k : Nat) (l0 : List Int) (l1 : List Int) : Option (Int) := if (l0.length : Int) = (l1.length : Int) then (locutionref25_Cmp.l0 k l0 l1 (wrap64 ((l0.length : Int) - 1))) else (if (l0.length : Int) < (l1.length : Int) then (some (-1)) else (some 1))
theorem locutionref25_Cmp.mono_l : ∀ k, (∀ y0 y1 y2, LeO (locutionref25_Cmp.l0 k y0 y1 y2) (locutionref25_Cmp.l0 (k + 1) y0 y1 y2))
  | 0 => fun _ _ _ r h => by simp [locutionref25_Cmp.l0] at h
  | k + 1 => by
    have ih0 := locutionref25_Cmp.mono_l k
    · intro y0 y1 y2
      unfold locutionref25_Cmp.l0
      repeat' first
      | (with_reducible exact ih0 _ _ _)
      | (with_reducible exact LeO.refl _)
      | (with_reducible exact LeO.none _)
      | (with_reducible refine LeO.ite ?_ ?_)
      | (with_reducible refine LeO.bind ?_ (fun _ => ?_))
      | exact ih0 _ _ _
      | exact LeO.none _
      | refine LeO.ite ?_ ?_
      | refine LeO.bind ?_ (fun _ => ?_)
theorem locutionref25_Cmp.mono : ∀ a0 a1 k, LeO (locutionref25_Cmp.f k a0 a1) (locutionref25_Cmp.f (k + 1) a0 a1) := by
  intro a0 a1 k
  have ih0 := locutionref25_Cmp.mono_l k
  unfold locutionref25_Cmp.f
  repeat' first
      | (with_reducible exact ih0 _ _ _)
      | (with_reducible exact LeO.refl _)
      | (with_reducible exact LeO.none _)
      | (with_reducible refine LeO.ite ?_ ?_)
      | (with_reducible refine LeO.bind ?_ (fun _ => ?_))
      | exact ih0 _ _ _
      | exact LeO.none _
      | refine LeO.ite ?_ ?_
      | refine LeO.bind ?_ (fun _ => ?_)
def locutionref25_Sub.l0 : Nat → List Int → List Int → List Int → Int → Int → Option (List Int)
  | 0, _, _, _, _, _ => none
  | k + 1, x0, x1, x5, x6, x7 => if x7 < (x0.length : Int) then ((locutionref25_at.f x0 x7).bind fun t287 => ((locutionref25_at.f x1 x7).bind fun t288 => (if x5.length < 17592186044416 then (locutionref25_Sub.l0 k x0 x1 (x5 ++ [Int.tmod (wrap64 ((wrap64 ((wrap64 (256 + t287)) - t288)) - x6)) 256]) (wrap64 (1 - (wrap64 (Int.tdiv (wrap64 ((wrap64 ((wrap64 (256 + t287)) - t288)) - x6)) 256)))) (wrap64 (x7 + 1))) else (none)))) else ((locutionref25_Trim.f k x5).bind fun t292 => (some t292))
def locutionref25_Sub.f (k : Nat) (l0 : List Int) (l1 : List Int) : Option (List Int) := locutionref25_Sub.l0 k l0 l1 ([] : List Int) 0 0
theorem locutionref25_Sub.mono_l : ∀ k, (∀ y0 y1 y2 y3 y4, LeO (locutionref25_Sub.l0 k y0 y1 y2 y3 y4) (locutionref25_Sub.l0 (k + 1) y0 y1 y2 y3 y4))
  | 0 => fun _ _ _ _ _ r h => by simp [locutionref25_Sub.l0] at h
  | k + 1 => by
    have ih0 := locutionref25_Sub.mono_l k
    · intro y0 y1 y2 y3 y4
      unfold locutionref25_Sub.l0
      repeat' first
      | (with_reducible exact ih0 _ _ _ _ _)
      | (with_reducible exact locutionref25_Trim.mono _ _)
      | (with_reducible exact LeO.refl _)
      | (with_reducible exact LeO.none _)
      | (with_reducible refine LeO.ite ?_ ?_)
      | (with_reducible refine LeO.bind ?_ (fun _ => ?_))
      | exact ih0 _ _ _ _ _
      | exact locutionref25_Trim.mono _ _
      | exact LeO.none _
      | refine LeO.ite ?_ ?_
      | refine LeO.bind ?_ (fun _ => ?_)
theorem locutionref25_Sub.mono : ∀ a0 a1 k, LeO (locutionref25_Sub.f k a0 a1) (locutionref25_Sub.f (k + 1) a0 a1) := by
  intro a0 a1 k
  have ih0 := locutionref25_Sub.mono_l k
  unfold locutionref25_Sub.f
  repeat' first
      | (with_reducible exact ih0 _ _ _ _ _)
      | (with_reducible exact locutionref25_Trim.mono _ _)
      | (with_reducible exact LeO.refl _)
      | (with_reducible exact LeO.none _)
      | (with_reducible refine LeO.ite ?_ ?_)
      | (with_reducible refine LeO.bind ?_ (fun _ => ?_))
      | exact ih0 _ _ _ _ _
      | exact locutionref25_Trim.mono _ _
      | exact LeO.none _
      | refine LeO.ite ?_ ?_
      | refine LeO.bind ?_ (fun _ => ?_)
def locutionref25_Add.l0 : Nat → List Int → List Int → List Int → Int → Int → Option (List Int)
  | 0, _, _, _, _, _ => none
  | k + 1, x0, x1, x5, x6, x7 => if x7 ≤ (mx (x0.length : Int) (x1.length : Int)) then ((locutionref25_at.f x0 x7).bind fun t317 => ((locutionref25_at.f x1 x7).bind fun t318 => (if x5.length < 17592186044416 then (locutionref25_Add.l0 k x0 x1 (x5 ++ [Int.tmod (wrap64 ((wrap64 (t317 + t318)) + x6)) 256]) (wrap64 (Int.tdiv (wrap64 ((wrap64 (t317 + t318)) + x6)) 256)) (wrap64 (x7 + 1))) else (none)))) else ((locutionref25_Trim.f k x5).bind fun t322 => (some t322))
def locutionref25_Add.f (k : Nat) (l0 : List Int) (l1 : List Int) : Option (List Int) := locutionref25_Add.l0 k l0 l1 ([] : List Int) 0 0
theorem locutionref25_Add.mono_l : ∀ k, (∀ y0 y1 y2 y3 y4, LeO (locutionref25_Add.l0 k y0 y1 y2 y3 y4) (locutionref25_Add.l0 (k + 1) y0 y1 y2 y3 y4))
  | 0 => fun _ _ _ _ _ r h => by simp [locutionref25_Add.l0] at h
  | k + 1 => by
    have ih0 := locutionref25_Add.mono_l k
    · intro y0 y1 y2 y3 y4
      unfold locutionref25_Add.l0
      repeat' first
      | (with_reducible exact ih0 _ _ _ _ _)
      | (with_reducible exact locutionref25_Trim.mono _ _)
      | (with_reducible exact LeO.refl _)
      | (with_reducible exact LeO.none _)
      | (with_reducible refine LeO.ite ?_ ?_)
      | (with_reducible refine LeO.bind ?_ (fun _ => ?_))
      | exact ih0 _ _ _ _ _
      | exact locutionref25_Trim.mono _ _
      | exact LeO.none _
      | refine LeO.ite ?_ ?_
      | refine LeO.bind ?_ (fun _ => ?_)
theorem locutionref25_Add.mono : ∀ a0 a1 k, LeO (locutionref25_Add.f k a0 a1) (locutionref25_Add.f (k + 1) a0 a1) := by
  intro a0 a1 k
  have ih0 := locutionref25_Add.mono_l k
  unfold locutionref25_Add.f
  repeat' first
      | (with_reducible exact ih0 _ _ _ _ _)
      | (with_reducible exact locutionref25_Trim.mono _ _)
      | (with_reducible exact LeO.refl _)
      | (with_reducible exact LeO.none _)
      | (with_reducible refine LeO.ite ?_ ?_)
      | (with_reducible refine LeO.bind ?_ (fun _ => ?_))
      | exact ih0 _ _ _ _ _
      | exact locutionref25_Trim.mono _ _
      | exact LeO.none _
      | refine LeO.ite ?_ ?_
      | refine LeO.bind ?_ (fun _ => ?_)
end Go.Proofs.Yteikhnmmkanndaa.PAll
namespace Go.Proofs.Yteikhnmmkanndaa.PAll
open Go.RowKit Go.Proofs.YteikhnmmkanndaaW.PrintWords Go.Proofs.YteikhnmmkanndaaW.PrintLast Go.Proofs.YteikhnmmkanndaaW.PrintMore
attribute [local go_sem] max2_int min2_int max_two min_two max_three min_three max_four min_four   -- for this text's walks alone
set_option linter.unusedVariables false
set_option linter.unusedSimpArgs false
mutual
def locutionref25_Mul.l0 : Nat → List Int → List Int → List Int → Int → Option (List Int)
  | 0, _, _, _, _ => none
  | k + 1, x0, x1, x5, x6 => if x6 < (x0.length : Int) then (locutionref25_Mul.l1 k x0 x1 x5 x6 0 0) else ((locutionref25_Trim.f k x5).bind fun t269 => (some t269))
def locutionref25_Mul.l1 : Nat → List Int → List Int → List Int → Int → Int → Int → Option (List Int)
  | 0, _, _, _, _, _, _ => none
  | k + 1, x0, x1, x5, x6, x7, x8 => if x8 ≤ (x1.length : Int) then (if 0 ≤ (wrap64 (x6 + x8)) then (if (wrap64 (x6 + x8)) < (x5.length : Int) then (if 0 ≤ x6 then (if x6 < (x0.length : Int) then ((locutionref25_at.f x1 x8).bind fun t274 => (locutionref25_Mul.l1 k x0 x1 (x5.set ((wrap64 (x6 + x8)) : Int).toNat (Int.tmod (wrap64 ((wrap64 ((rd x5 (wrap64 (x6 + x8))) + (wrap64 ((rd x0 x6) * t274)))) + x7)) 256)) x6 (wrap64 (Int.tdiv (wrap64 ((wrap64 ((rd x5 (wrap64 (x6 + x8))) + (wrap64 ((rd x0 x6) * t274)))) + x7)) 256)) (wrap64 (x8 + 1)))) else (none)) else (none)) else (none)) else (none)) else (locutionref25_Mul.l0 k x0 x1 x5 (wrap64 (x6 + 1)))
end
def locutionref25_Mul.f (k : Nat) (l0 : List Int) (l1 : List Int) : Option (List Int) := if 0 ≤ (wrap64 ((wrap64 ((l0.length : Int) + (l1.length : Int))) + 1)) then (if (wrap64 ((wrap64 ((l0.length : Int) + (l1.length : Int))) + 1) : Int).toNat ≤ 35184372088832 then (locutionref25_Mul.l0 k l0 l1 (List.replicate (wrap64 ((wrap64 ((l0.length : Int) + (l1.length : Int))) + 1) : Int).toNat 0) 0) else (none)) else (none)
theorem locutionref25_Mul.mono_l : ∀ k, (∀ y0 y1 y2 y3, LeO (locutionref25_Mul.l0 k y0 y1 y2 y3) (locutionref25_Mul.l0 (k + 1) y0 y1 y2 y3)) ∧ (∀ y0 y1 y2 y3 y4 y5, LeO (locutionref25_Mul.l1 k y0 y1 y2 y3 y4 y5) (locutionref25_Mul.l1 (k + 1) y0 y1 y2 y3 y4 y5))
  | 0 => ⟨fun _ _ _ _ r h => by simp [locutionref25_Mul.l0] at h, fun _ _ _ _ _ _ r h => by simp [locutionref25_Mul.l1] at h⟩
  | k + 1 => by
    obtain ⟨ih0, ih1⟩ := locutionref25_Mul.mono_l k
    refine ⟨?_, ?_⟩
    · intro y0 y1 y2 y3
      unfold locutionref25_Mul.l0
      repeat' first
      | (with_reducible exact ih0 _ _ _ _)
      | (with_reducible exact ih1 _ _ _ _ _ _)
      | (with_reducible exact locutionref25_Trim.mono _ _)
      | (with_reducible exact LeO.refl _)
      | (with_reducible exact LeO.none _)
      | (with_reducible refine LeO.ite ?_ ?_)
      | (with_reducible refine LeO.bind ?_ (fun _ => ?_))
      | exact ih0 _ _ _ _
      | exact ih1 _ _ _ _ _ _
      | exact locutionref25_Trim.mono _ _
      | exact LeO.none _
      | refine LeO.ite ?_ ?_
      | refine LeO.bind ?_ (fun _ => ?_)
    · intro y0 y1 y2 y3 y4 y5
      unfold locutionref25_Mul.l1
      repeat' first
      | (with_reducible exact ih0 _ _ _ _)
      | (with_reducible exact ih1 _ _ _ _ _ _)
      | (with_reducible exact locutionref25_Trim.mono _ _)
      | (with_reducible exact LeO.refl _)
      | (with_reducible exact LeO.none _)
      | (with_reducible refine LeO.ite ?_ ?_)
      | (with_reducible refine LeO.bind ?_ (fun _ => ?_))
      | exact ih0 _ _ _ _
      | exact ih1 _ _ _ _ _ _
      | exact locutionref25_Trim.mono _ _
      | exact LeO.none _
      | refine LeO.ite ?_ ?_
      | refine LeO.bind ?_ (fun _ => ?_)
theorem locutionref25_Mul.mono : ∀ a0 a1 k, LeO (locutionref25_Mul.f k a0 a1) (locutionref25_Mul.f (k + 1) a0 a1) := by
  intro a0 a1 k
  obtain ⟨ih0, ih1⟩ := locutionref25_Mul.mono_l k
  unfold locutionref25_Mul.f
  repeat' first
      | (with_reducible exact ih0 _ _ _ _)
      | (with_reducible exact ih1 _ _ _ _ _ _)
      | (with_reducible exact locutionref25_Trim.mono _ _)
      | (with_reducible exact LeO.refl _)
      | (with_reducible exact LeO.none _)
      | (with_reducible refine LeO.ite ?_ ?_)
      | (with_reducible refine LeO.bind ?_ (fun _ => ?_))
      | exact ih0 _ _ _ _
      | exact ih1 _ _ _ _ _ _
      | exact locutionref25_Trim.mono _ _
      | exact LeO.none _
      | refine LeO.ite ?_ ?_
      | refine LeO.bind ?_ (fun _ => ?_)
mutual
def locutionref25_Div.l0 : Nat → List Int → List Int → List Int → List Int → Int → Option (List Int × List Int)
  | 0, _, _, _, _, _ => none
  | k + 1, x0, x1, x6, x7, x8 => if x8 ≥ 0 then (if 0 ≤ x8 then (if x8 < (x0.length : Int) then ((some (([rd x0 x8] : List Int) : List Int)).bind fun y302 => (if y302.length + x7.length < 17592186044416 then ((locutionref25_Trim.f k (y302 ++ x7)).bind fun t308 => (locutionref25_Div.l1 k x0 x1 x6 t308 x8)) else (none))) else (none)) else (none)) else ((locutionref25_Trim.f k x6).bind fun t298 => (some (t298, x7)))
def locutionref25_Div.l1 : Nat → List Int → List Int → List Int → List Int → Int → Option (List Int × List Int)
  | 0, _, _, _, _, _ => none
  | k + 1, x0, x1, x6, x7, x8 => (locutionref25_Cmp.f k x7 x1).bind fun t311 => (if t311 ≥ 0 then ((locutionref25_Sub.f k x7 x1).bind fun t312 => (if 0 ≤ x8 then (if x8 < (x6.length : Int) then (locutionref25_Div.l1 k x0 x1 (x6.set (x8 : Int).toNat (wrap64 ((rd x6 x8) + 1))) t312 x8) else (none)) else (none))) else (locutionref25_Div.l0 k x0 x1 x6 x7 (wrap64 (x8 - 1))))
end
def locutionref25_Div.f (k : Nat) (l0 : List Int) (l1 : List Int) : Option (List Int × List Int) := if 0 ≤ (l0.length : Int) then (if ((l0.length : Int) : Int).toNat ≤ 35184372088832 then (locutionref25_Div.l0 k l0 l1 (List.replicate ((l0.length : Int) : Int).toNat 0) ([] : List Int) (wrap64 ((l0.length : Int) - 1))) else (none)) else (none)
theorem locutionref25_Div.mono_l : ∀ k, (∀ y0 y1 y2 y3 y4, LeO (locutionref25_Div.l0 k y0 y1 y2 y3 y4) (locutionref25_Div.l0 (k + 1) y0 y1 y2 y3 y4)) ∧ (∀ y0 y1 y2 y3 y4, LeO (locutionref25_Div.l1 k y0 y1 y2 y3 y4) (locutionref25_Div.l1 (k + 1) y0 y1 y2 y3 y4))
  | 0 => ⟨fun _ _ _ _ _ r h => by simp [locutionref25_Div.l0] at h, fun _ _ _ _ _ r h => by simp [locutionref25_Div.l1] at h⟩
  | k + 1 => by
    obtain ⟨ih0, ih1⟩ := locutionref25_Div.mono_l k
    refine ⟨?_, ?_⟩
    · intro y0 y1 y2 y3 y4
      unfold locutionref25_Div.l0
      repeat' first
      | (with_reducible exact ih0 _ _ _ _ _)
      | (with_reducible exact ih1 _ _ _ _ _)
      | (with_reducible exact locutionref25_Cmp.mono _ _ _)
      | (with_reducible exact locutionref25_Sub.mono _ _ _)
      | (with_reducible exact locutionref25_Trim.mono _ _)
      | (with_reducible exact LeO.refl _)
      | (with_reducible exact LeO.none _)
      | (with_reducible refine LeO.ite ?_ ?_)
      | (with_reducible refine LeO.bind ?_ (fun _ => ?_))
      | exact ih0 _ _ _ _ _
      | exact ih1 _ _ _ _ _
      | exact locutionref25_Cmp.mono _ _ _
      | exact locutionref25_Sub.mono _ _ _
      | exact locutionref25_Trim.mono _ _
      | exact LeO.none _
      | refine LeO.ite ?_ ?_
      | refine LeO.bind ?_ (fun _ => ?_)
    · intro y0 y1 y2 y3 y4
      unfold locutionref25_Div.l1
      repeat' first
      | (with_reducible exact ih0 _ _ _ _ _)
      | (with_reducible exact ih1 _ _ _ _ _)
      | (with_reducible exact locutionref25_Cmp.mono _ _ _)
      | (with_reducible exact locutionref25_Sub.mono _ _ _)
      | (with_reducible exact locutionref25_Trim.mono _ _)
      | (with_reducible exact LeO.refl _)
      | (with_reducible exact LeO.none _)
      | (with_reducible refine LeO.ite ?_ ?_)
      | (with_reducible refine LeO.bind ?_ (fun _ => ?_))
      | exact ih0 _ _ _ _ _
      | exact ih1 _ _ _ _ _
      | exact locutionref25_Cmp.mono _ _ _
      | exact locutionref25_Sub.mono _ _ _
      | exact locutionref25_Trim.mono _ _
      | exact LeO.none _
      | refine LeO.ite ?_ ?_
      | refine LeO.bind ?_ (fun _ => ?_)
theorem locutionref25_Div.mono : ∀ a0 a1 k, LeO (locutionref25_Div.f k a0 a1) (locutionref25_Div.f (k + 1) a0 a1) := by
  intro a0 a1 k
  obtain ⟨ih0, ih1⟩ := locutionref25_Div.mono_l k
  unfold locutionref25_Div.f
  repeat' first
      | (with_reducible exact ih0 _ _ _ _ _)
      | (with_reducible exact ih1 _ _ _ _ _)
      | (with_reducible exact locutionref25_Cmp.mono _ _ _)
      | (with_reducible exact locutionref25_Sub.mono _ _ _)
      | (with_reducible exact locutionref25_Trim.mono _ _)
      | (with_reducible exact LeO.refl _)
      | (with_reducible exact LeO.none _)
      | (with_reducible refine LeO.ite ?_ ?_)
      | (with_reducible refine LeO.bind ?_ (fun _ => ?_))
      | exact ih0 _ _ _ _ _
      | exact ih1 _ _ _ _ _
      | exact locutionref25_Cmp.mono _ _ _
      | exact locutionref25_Sub.mono _ _ _
      | exact locutionref25_Trim.mono _ _
      | exact LeO.none _
      | refine LeO.ite ?_ ?_
      | refine LeO.bind ?_ (fun _ => ?_)
end Go.Proofs.Yteikhnmmkanndaa.PAll
namespace Go.Proofs.Yteikhnmmkanndaa.PAll
open Go.RowKit Go.Proofs.YteikhnmmkanndaaW.PrintWords Go.Proofs.YteikhnmmkanndaaW.PrintLast Go.Proofs.YteikhnmmkanndaaW.PrintMore
attribute [local go_sem] max2_int min2_int max_two min_two max_three min_three max_four min_four   -- for this text's walks alone
set_option linter.unusedVariables false
set_option linter.unusedSimpArgs false
def locutionref25_GCD.l0 : Nat → List Int → List Int → Option (List Int)
  | 0, _, _ => none
  | k + 1, x0, x1 => if (x1.length : Int) > 0 then ((locutionref25_Div.f k x0 x1).bind fun bt500 => (locutionref25_GCD.l0 k x1 bt500.2)) else (some x0)
def locutionref25_GCD.f (k : Nat) (l0 : List Int) (l1 : List Int) : Option (List Int) := locutionref25_GCD.l0 k l0 l1
theorem locutionref25_GCD.mono_l : ∀ k, (∀ y0 y1, LeO (locutionref25_GCD.l0 k y0 y1) (locutionref25_GCD.l0 (k + 1) y0 y1))
  | 0 => fun _ _ r h => by simp [locutionref25_GCD.l0] at h
  | k + 1 => by
    have ih0 := locutionref25_GCD.mono_l k
    · intro y0 y1
      unfold locutionref25_GCD.l0
      repeat' first
      | (with_reducible exact ih0 _ _)
      | (with_reducible exact locutionref25_Div.mono _ _ _)
      | (with_reducible exact LeO.refl _)
      | (with_reducible exact LeO.none _)
      | (with_reducible refine LeO.ite ?_ ?_)
      | (with_reducible refine LeO.bind ?_ (fun _ => ?_))
      | exact ih0 _ _
      | exact locutionref25_Div.mono _ _ _
      | exact LeO.none _
      | refine LeO.ite ?_ ?_
      | refine LeO.bind ?_ (fun _ => ?_)
theorem locutionref25_GCD.mono : ∀ a0 a1 k, LeO (locutionref25_GCD.f k a0 a1) (locutionref25_GCD.f (k + 1) a0 a1) := by
  intro a0 a1 k
  have ih0 := locutionref25_GCD.mono_l k
  unfold locutionref25_GCD.f
  repeat' first
      | (with_reducible exact ih0 _ _)
      | (with_reducible exact locutionref25_Div.mono _ _ _)
      | (with_reducible exact LeO.refl _)
      | (with_reducible exact LeO.none _)
      | (with_reducible refine LeO.ite ?_ ?_)
      | (with_reducible refine LeO.bind ?_ (fun _ => ?_))
      | exact ih0 _ _
      | exact locutionref25_Div.mono _ _ _
      | exact LeO.none _
      | refine LeO.ite ?_ ?_
      | refine LeO.bind ?_ (fun _ => ?_)
def locutionref25_Pow.l0 : Nat → List Int → Int → List Int → Int → Option (List Int)
  | 0, _, _, _, _ => none
  | k + 1, x0, x1, x5, x6 => if x6 < x1 then ((locutionref25_Mul.f k x5 x0).bind fun t647 => (locutionref25_Pow.l0 k x0 x1 t647 (wrap64 (x6 + 1)))) else (some x5)
def locutionref25_Pow.f (k : Nat) (l0 : List Int) (a1 : Int) : Option (List Int) := locutionref25_Pow.l0 k l0 a1 (([1] : List Int)) 0
theorem locutionref25_Pow.mono_l : ∀ k, (∀ y0 y1 y2 y3, LeO (locutionref25_Pow.l0 k y0 y1 y2 y3) (locutionref25_Pow.l0 (k + 1) y0 y1 y2 y3))
  | 0 => fun _ _ _ _ r h => by simp [locutionref25_Pow.l0] at h
  | k + 1 => by
    have ih0 := locutionref25_Pow.mono_l k
    · intro y0 y1 y2 y3
      unfold locutionref25_Pow.l0
      repeat' first
      | (with_reducible exact ih0 _ _ _ _)
      | (with_reducible exact locutionref25_Mul.mono _ _ _)
      | (with_reducible exact LeO.refl _)
      | (with_reducible exact LeO.none _)
      | (with_reducible refine LeO.ite ?_ ?_)
      | (with_reducible refine LeO.bind ?_ (fun _ => ?_))
      | exact ih0 _ _ _ _
      | exact locutionref25_Mul.mono _ _ _
      | exact LeO.none _
      | refine LeO.ite ?_ ?_
      | refine LeO.bind ?_ (fun _ => ?_)
theorem locutionref25_Pow.mono : ∀ a0 a1 k, LeO (locutionref25_Pow.f k a0 a1) (locutionref25_Pow.f (k + 1) a0 a1) := by
  intro a0 a1 k
  have ih0 := locutionref25_Pow.mono_l k
  unfold locutionref25_Pow.f
  repeat' first
      | (with_reducible exact ih0 _ _ _ _)
      | (with_reducible exact locutionref25_Mul.mono _ _ _)
      | (with_reducible exact LeO.refl _)
      | (with_reducible exact LeO.none _)
      | (with_reducible refine LeO.ite ?_ ?_)
      | (with_reducible refine LeO.bind ?_ (fun _ => ?_))
      | exact ih0 _ _ _ _
      | exact locutionref25_Mul.mono _ _ _
      | exact LeO.none _
      | refine LeO.ite ?_ ?_
      | refine LeO.bind ?_ (fun _ => ?_)
end Go.Proofs.Yteikhnmmkanndaa.PAll
namespace Go.Proofs.Yteikhnmmkanndaa.PAll
open Go.RowKit Go.Proofs.YteikhnmmkanndaaW.PrintWords Go.Proofs.YteikhnmmkanndaaW.PrintLast Go.Proofs.YteikhnmmkanndaaW.PrintMore
attribute [local go_sem] max2_int min2_int max_two min_two max_three min_three max_four min_four   -- for this text's walks alone
set_option linter.unusedVariables false
set_option linter.unusedSimpArgs false
mutual
def locutionref25_Up.l0 : Nat → Int → List Int → Int → Option (List Int)
  | 0, _, _, _ => none
  | k + 1, x1, x5, x6 => if x6 < (wrap64 (Int.tdiv x1 8)) then ((some (([0] : List Int) : List Int)).bind fun y331 => (if y331.length + x5.length < 17592186044416 then (locutionref25_Up.l0 k x1 (y331 ++ x5) (wrap64 (x6 + 1))) else (none))) else (locutionref25_Up.l1 k x1 x5 0)
def locutionref25_Up.l1 : Nat → Int → List Int → Int → Option (List Int)
  | 0, _, _, _ => none
  | k + 1, x1, x5, x7 => if x7 < (Int.tmod x1 8) then ((locutionref25_Add.f k x5 x5).bind fun t337 => (locutionref25_Up.l1 k x1 t337 (wrap64 (x7 + 1)))) else ((locutionref25_Trim.f k x5).bind fun t340 => (some t340))
end
def locutionref25_Up.f (k : Nat) (l0 : List Int) (a1 : Int) : Option (List Int) := (some (([] : List Int) : List Int)).bind fun y325 => (if y325.length + l0.length < 17592186044416 then (locutionref25_Up.l0 k a1 (y325 ++ l0) 0) else (none))
theorem locutionref25_Up.mono_l : ∀ k, (∀ y0 y1 y2, LeO (locutionref25_Up.l0 k y0 y1 y2) (locutionref25_Up.l0 (k + 1) y0 y1 y2)) ∧ (∀ y0 y1 y2, LeO (locutionref25_Up.l1 k y0 y1 y2) (locutionref25_Up.l1 (k + 1) y0 y1 y2))
  | 0 => ⟨fun _ _ _ r h => by simp [locutionref25_Up.l0] at h, fun _ _ _ r h => by simp [locutionref25_Up.l1] at h⟩
  | k + 1 => by
    obtain ⟨ih0, ih1⟩ := locutionref25_Up.mono_l k
    refine ⟨?_, ?_⟩
    · intro y0 y1 y2
      unfold locutionref25_Up.l0
      repeat' first
      | (with_reducible exact ih0 _ _ _)
      | (with_reducible exact ih1 _ _ _)
      | (with_reducible exact locutionref25_Add.mono _ _ _)
      | (with_reducible exact locutionref25_Trim.mono _ _)
      | (with_reducible exact LeO.refl _)
      | (with_reducible exact LeO.none _)
      | (with_reducible refine LeO.ite ?_ ?_)
      | (with_reducible refine LeO.bind ?_ (fun _ => ?_))
      | exact ih0 _ _ _
      | exact ih1 _ _ _
      | exact locutionref25_Add.mono _ _ _
      | exact locutionref25_Trim.mono _ _
      | exact LeO.none _
      | refine LeO.ite ?_ ?_
      | refine LeO.bind ?_ (fun _ => ?_)
    · intro y0 y1 y2
      unfold locutionref25_Up.l1
      repeat' first
      | (with_reducible exact ih0 _ _ _)
      | (with_reducible exact ih1 _ _ _)
      | (with_reducible exact locutionref25_Add.mono _ _ _)
      | (with_reducible exact locutionref25_Trim.mono _ _)
      | (with_reducible exact LeO.refl _)
      | (with_reducible exact LeO.none _)
      | (with_reducible refine LeO.ite ?_ ?_)
      | (with_reducible refine LeO.bind ?_ (fun _ => ?_))
      | exact ih0 _ _ _
      | exact ih1 _ _ _
      | exact locutionref25_Add.mono _ _ _
      | exact locutionref25_Trim.mono _ _
      | exact LeO.none _
      | refine LeO.ite ?_ ?_
      | refine LeO.bind ?_ (fun _ => ?_)
theorem locutionref25_Up.mono : ∀ a0 a1 k, LeO (locutionref25_Up.f k a0 a1) (locutionref25_Up.f (k + 1) a0 a1) := by
  intro a0 a1 k
  obtain ⟨ih0, ih1⟩ := locutionref25_Up.mono_l k
  unfold locutionref25_Up.f
  repeat' first
      | (with_reducible exact ih0 _ _ _)
      | (with_reducible exact ih1 _ _ _)
      | (with_reducible exact locutionref25_Add.mono _ _ _)
      | (with_reducible exact locutionref25_Trim.mono _ _)
      | (with_reducible exact LeO.refl _)
      | (with_reducible exact LeO.none _)
      | (with_reducible refine LeO.ite ?_ ?_)
      | (with_reducible refine LeO.bind ?_ (fun _ => ?_))
      | exact ih0 _ _ _
      | exact ih1 _ _ _
      | exact locutionref25_Add.mono _ _ _
      | exact locutionref25_Trim.mono _ _
      | exact LeO.none _
      | refine LeO.ite ?_ ?_
      | refine LeO.bind ?_ (fun _ => ?_)
def locutionref25_Down.l0 : Nat → Int → List Int → Int → Option (List Int)
  | 0, _, _, _ => none
  | k + 1, x1, x5, x6 => if x6 < (Int.tmod x1 8) then ((locutionref25_Div.f k x5 (([2] : List Int))).bind fun bt357 => (locutionref25_Down.l0 k x1 bt357.1 (wrap64 (x6 + 1)))) else ((locutionref25_Trim.f k x5).bind fun t363 => (some t363))
def locutionref25_Down.f (k : Nat) (l0 : List Int) (a1 : Int) : Option (List Int) := if a1 < 1 then (some l0) else (if (wrap64 (Int.tdiv a1 8)) ≥ (l0.length : Int) then (some ([] : List Int)) else ((some (([] : List Int) : List Int)).bind fun y343 => (if 0 ≤ (wrap64 (Int.tdiv a1 8)) then (if (wrap64 (Int.tdiv a1 8)) ≤ (l0.length : Int) then ((some (l0.drop ((wrap64 (Int.tdiv a1 8)) : Int).toNat : List Int)).bind fun y346 => (if y343.length + y346.length < 17592186044416 then (locutionref25_Down.l0 k a1 (y343 ++ y346) 0) else (none))) else (none)) else (none))))
theorem locutionref25_Down.mono_l : ∀ k, (∀ y0 y1 y2, LeO (locutionref25_Down.l0 k y0 y1 y2) (locutionref25_Down.l0 (k + 1) y0 y1 y2))
  | 0 => fun _ _ _ r h => by simp [locutionref25_Down.l0] at h
  | k + 1 => by
    have ih0 := locutionref25_Down.mono_l k
    · intro y0 y1 y2
      unfold locutionref25_Down.l0
      repeat' first
      | (with_reducible exact ih0 _ _ _)
      | (with_reducible exact locutionref25_Div.mono _ _ _)
      | (with_reducible exact locutionref25_Trim.mono _ _)
      | (with_reducible exact LeO.refl _)
      | (with_reducible exact LeO.none _)
      | (with_reducible refine LeO.ite ?_ ?_)
      | (with_reducible refine LeO.bind ?_ (fun _ => ?_))
      | exact ih0 _ _ _
      | exact locutionref25_Div.mono _ _ _
      | exact locutionref25_Trim.mono _ _
      | exact LeO.none _
      | refine LeO.ite ?_ ?_
      | refine LeO.bind ?_ (fun _ => ?_)
theorem locutionref25_Down.mono : ∀ a0 a1 k, LeO (locutionref25_Down.f k a0 a1) (locutionref25_Down.f (k + 1) a0 a1) := by
  intro a0 a1 k
  have ih0 := locutionref25_Down.mono_l k
  unfold locutionref25_Down.f
  repeat' first
      | (with_reducible exact ih0 _ _ _)
      | (with_reducible exact locutionref25_Div.mono _ _ _)
      | (with_reducible exact locutionref25_Trim.mono _ _)
      | (with_reducible exact LeO.refl _)
      | (with_reducible exact LeO.none _)
      | (with_reducible refine LeO.ite ?_ ?_)
      | (with_reducible refine LeO.bind ?_ (fun _ => ?_))
      | exact ih0 _ _ _
      | exact locutionref25_Div.mono _ _ _
      | exact locutionref25_Trim.mono _ _
      | exact LeO.none _
      | refine LeO.ite ?_ ?_
      | refine LeO.bind ?_ (fun _ => ?_)
end Go.Proofs.Yteikhnmmkanndaa.PAll
namespace Go.Proofs.Yteikhnmmkanndaa.PAll
open Go.RowKit Go.Proofs.YteikhnmmkanndaaW.PrintWords Go.Proofs.YteikhnmmkanndaaW.PrintLast Go.Proofs.YteikhnmmkanndaaW.PrintMore
attribute [local go_sem] max2_int min2_int max_two min_two max_three min_three max_four min_four   -- for this text's walks alone
set_option linter.unusedVariables false
set_option linter.unusedSimpArgs false
def locutionref25_Text.l0 : Nat → List Int → ByteArray → Option (ByteArray)
  | 0, _, _ => none
  | k + 1, x0, x3 => if (x0.length : Int) > 0 then ((locutionref25_Div.f k x0 (([10] : List Int))).bind fun bt613 => ((locutionref25_at.f bt613.2 0).bind fun t619 => ((some (([(wrap64 (48 + t619)) % 256] : List Int) : List Int)).bind fun y620 => (if (strOfNums y620).size + x3.size ≤ 9223372036854775807 then (locutionref25_Text.l0 k bt613.1 ((strOfNums y620) ++ x3)) else (none))))) else (if x3.toList = ([] : List UInt8) then (some (⟨#[48]⟩ : ByteArray)) else (some x3))
def locutionref25_Text.f (k : Nat) (l0 : List Int) : Option (ByteArray) := locutionref25_Text.l0 k l0 (⟨#[]⟩ : ByteArray)
theorem locutionref25_Text.mono_l : ∀ k, (∀ y0 y1, LeO (locutionref25_Text.l0 k y0 y1) (locutionref25_Text.l0 (k + 1) y0 y1))
  | 0 => fun _ _ r h => by simp [locutionref25_Text.l0] at h
  | k + 1 => by
    have ih0 := locutionref25_Text.mono_l k
    · intro y0 y1
      unfold locutionref25_Text.l0
      repeat' first
      | (with_reducible exact ih0 _ _)
      | (with_reducible exact locutionref25_Div.mono _ _ _)
      | (with_reducible exact LeO.refl _)
      | (with_reducible exact LeO.none _)
      | (with_reducible refine LeO.ite ?_ ?_)
      | (with_reducible refine LeO.bind ?_ (fun _ => ?_))
      | exact ih0 _ _
      | exact locutionref25_Div.mono _ _ _
      | exact LeO.none _
      | refine LeO.ite ?_ ?_
      | refine LeO.bind ?_ (fun _ => ?_)
theorem locutionref25_Text.mono : ∀ a0 k, LeO (locutionref25_Text.f k a0) (locutionref25_Text.f (k + 1) a0) := by
  intro a0 k
  have ih0 := locutionref25_Text.mono_l k
  unfold locutionref25_Text.f
  repeat' first
      | (with_reducible exact ih0 _ _)
      | (with_reducible exact locutionref25_Div.mono _ _ _)
      | (with_reducible exact LeO.refl _)
      | (with_reducible exact LeO.none _)
      | (with_reducible refine LeO.ite ?_ ?_)
      | (with_reducible refine LeO.bind ?_ (fun _ => ?_))
      | exact ih0 _ _
      | exact locutionref25_Div.mono _ _ _
      | exact LeO.none _
      | refine LeO.ite ?_ ?_
      | refine LeO.bind ?_ (fun _ => ?_)
def locutionref25_Small.l0 : Nat → Int → List Int → Option (List Int)
  | 0, _, _ => none
  | k + 1, x0, x3 => if x0 > 0 then (if x3.length < 17592186044416 then (locutionref25_Small.l0 k (IntKind.u64.wrap (Int.tdiv x0 256)) (x3 ++ [wrap64 (Int.tmod x0 256)])) else (none)) else (some x3)
def locutionref25_Small.f (k : Nat) (a0 : Int) : Option (List Int) := locutionref25_Small.l0 k a0 ([] : List Int)
theorem locutionref25_Small.mono_l : ∀ k, (∀ y0 y1, LeO (locutionref25_Small.l0 k y0 y1) (locutionref25_Small.l0 (k + 1) y0 y1))
  | 0 => fun _ _ r h => by simp [locutionref25_Small.l0] at h
  | k + 1 => by
    have ih0 := locutionref25_Small.mono_l k
    · intro y0 y1
      unfold locutionref25_Small.l0
      repeat' first
      | (with_reducible exact ih0 _ _)
      | (with_reducible exact LeO.refl _)
      | (with_reducible exact LeO.none _)
      | (with_reducible refine LeO.ite ?_ ?_)
      | (with_reducible refine LeO.bind ?_ (fun _ => ?_))
      | exact ih0 _ _
      | exact LeO.none _
      | refine LeO.ite ?_ ?_
      | refine LeO.bind ?_ (fun _ => ?_)
theorem locutionref25_Small.mono : ∀ a0 k, LeO (locutionref25_Small.f k a0) (locutionref25_Small.f (k + 1) a0) := by
  intro a0 k
  have ih0 := locutionref25_Small.mono_l k
  unfold locutionref25_Small.f
  repeat' first
      | (with_reducible exact ih0 _ _)
      | (with_reducible exact LeO.refl _)
      | (with_reducible exact LeO.none _)
      | (with_reducible refine LeO.ite ?_ ?_)
      | (with_reducible refine LeO.bind ?_ (fun _ => ?_))
      | exact ih0 _ _
      | exact LeO.none _
      | refine LeO.ite ?_ ?_
      | refine LeO.bind ?_ (fun _ => ?_)
mutual
def locutionref25_Parse.l0 : Nat → ByteArray → List Int → Int → Option (List Int × Bool)
  | 0, _, _, _ => none
  | k + 1, x0, x4, x5 => if x5 < (x0.size : Int) then (if 0 ≤ x5 then (if (bt x0 x5) < 48 then (locutionref25_Parse.j1 k x0 x4 x5 true) else (locutionref25_Parse.j1 k x0 x4 x5 (decide ((bt x0 x5) > 57)))) else (none)) else (if x0.toList = ([] : List UInt8) then (some (x4, false)) else (if 0 < (x0.size : Int) then (if (bt x0 0) = 48 then (some (x4, (x0.toList == ([48] : List UInt8)))) else (some (x4, true))) else (none)))
def locutionref25_Parse.j1 : Nat → ByteArray → List Int → Int → Bool → Option (List Int × Bool)
  | 0, _, _, _, _ => none
  | k + 1, x0, x4, x5, x21 => if x21 = true then (some (([] : List Int), false)) else ((locutionref25_Mul.f k x4 (([10] : List Int))).bind fun t629 => (if 0 ≤ x5 then (if x5 < (x0.size : Int) then ((locutionref25_Small.f k (((bt x0 x5) - 48) % 256)).bind fun t632 => ((locutionref25_Add.f k t629 t632).bind fun t635 => (locutionref25_Parse.l0 k x0 t635 (wrap64 (x5 + 1))))) else (none)) else (none)))
end
def locutionref25_Parse.f (k : Nat) (a0 : ByteArray) : Option (List Int × Bool) := locutionref25_Parse.l0 k a0 ([] : List Int) 0
theorem locutionref25_Parse.mono_l : ∀ k, (∀ y0 y1 y2, LeO (locutionref25_Parse.l0 k y0 y1 y2) (locutionref25_Parse.l0 (k + 1) y0 y1 y2)) ∧ (∀ y0 y1 y2 y3, LeO (locutionref25_Parse.j1 k y0 y1 y2 y3) (locutionref25_Parse.j1 (k + 1) y0 y1 y2 y3))
  | 0 => ⟨fun _ _ _ r h => by simp [locutionref25_Parse.l0] at h, fun _ _ _ _ r h => by simp [locutionref25_Parse.j1] at h⟩
  | k + 1 => by
    obtain ⟨ih0, ih1⟩ := locutionref25_Parse.mono_l k
    refine ⟨?_, ?_⟩
    · intro y0 y1 y2
      unfold locutionref25_Parse.l0
      repeat' first
      | (with_reducible exact ih0 _ _ _)
      | (with_reducible exact ih1 _ _ _ _)
      | (with_reducible exact locutionref25_Add.mono _ _ _)
      | (with_reducible exact locutionref25_Mul.mono _ _ _)
      | (with_reducible exact locutionref25_Small.mono _ _)
      | (with_reducible exact LeO.refl _)
      | (with_reducible exact LeO.none _)
      | (with_reducible refine LeO.ite ?_ ?_)
      | (with_reducible refine LeO.bind ?_ (fun _ => ?_))
      | exact ih0 _ _ _
      | exact ih1 _ _ _ _
      | exact locutionref25_Add.mono _ _ _
      | exact locutionref25_Mul.mono _ _ _
      | exact locutionref25_Small.mono _ _
      | exact LeO.none _
      | refine LeO.ite ?_ ?_
      | refine LeO.bind ?_ (fun _ => ?_)
    · intro y0 y1 y2 y3
      unfold locutionref25_Parse.j1
      repeat' first
      | (with_reducible exact ih0 _ _ _)
      | (with_reducible exact ih1 _ _ _ _)
      | (with_reducible exact locutionref25_Add.mono _ _ _)
      | (with_reducible exact locutionref25_Mul.mono _ _ _)
      | (with_reducible exact locutionref25_Small.mono _ _)
      | (with_reducible exact LeO.refl _)
      | (with_reducible exact LeO.none _)
      | (with_reducible refine LeO.ite ?_ ?_)
      | (with_reducible refine LeO.bind ?_ (fun _ => ?_))
      | exact ih0 _ _ _
      | exact ih1 _ _ _ _
      | exact locutionref25_Add.mono _ _ _
      | exact locutionref25_Mul.mono _ _ _
      | exact locutionref25_Small.mono _ _
      | exact LeO.none _
      | refine LeO.ite ?_ ?_
      | refine LeO.bind ?_ (fun _ => ?_)
theorem locutionref25_Parse.mono : ∀ a0 k, LeO (locutionref25_Parse.f k a0) (locutionref25_Parse.f (k + 1) a0) := by
  intro a0 k
  obtain ⟨ih0, ih1⟩ := locutionref25_Parse.mono_l k
  unfold locutionref25_Parse.f
  repeat' first
      | (with_reducible exact ih0 _ _ _)
      | (with_reducible exact ih1 _ _ _ _)
      | (with_reducible exact locutionref25_Add.mono _ _ _)
      | (with_reducible exact locutionref25_Mul.mono _ _ _)
      | (with_reducible exact locutionref25_Small.mono _ _)
      | (with_reducible exact LeO.refl _)
      | (with_reducible exact LeO.none _)
      | (with_reducible refine LeO.ite ?_ ?_)
      | (with_reducible refine LeO.bind ?_ (fun _ => ?_))
      | exact ih0 _ _ _
      | exact ih1 _ _ _ _
      | exact locutionref25_Add.mono _ _ _
      | exact locutionref25_Mul.mono _ _ _
      | exact locutionref25_Small.mono _ _
      | exact LeO.none _
      | refine LeO.ite ?_ ?_
      | refine LeO.bind ?_ (fun _ => ?_)
end Go.Proofs.Yteikhnmmkanndaa.PAll
namespace Go.Proofs.Yteikhnmmkanndaa.PAll
open Go.RowKit Go.Proofs.YteikhnmmkanndaaW.PrintWords Go.Proofs.YteikhnmmkanndaaW.PrintLast Go.Proofs.YteikhnmmkanndaaW.PrintMore
attribute [local go_sem] max2_int min2_int max_two min_two max_three min_three max_four min_four   -- for this text's walks alone
set_option linter.unusedVariables false
set_option linter.unusedSimpArgs false
def locutionref25_Bits.l0 : Nat → Int → Int → Option (Int)
  | 0, _, _ => none
  | k + 1, x3, x4 => if x4 > 0 then (locutionref25_Bits.l0 k (wrap64 (x3 + 1)) (wrap64 (Int.tdiv x4 2))) else (some x3)
def locutionref25_Bits.f (k : Nat) (l0 : List Int) : Option (Int) := if (l0.length : Int) = 0 then (some 0) else (if 0 ≤ (wrap64 ((l0.length : Int) - 1)) then (if (wrap64 ((l0.length : Int) - 1)) < (l0.length : Int) then (locutionref25_Bits.l0 k (wrap64 (8 * (wrap64 ((l0.length : Int) - 1)))) (rd l0 (wrap64 ((l0.length : Int) - 1)))) else (none)) else (none))
theorem locutionref25_Bits.mono_l : ∀ k, (∀ y0 y1, LeO (locutionref25_Bits.l0 k y0 y1) (locutionref25_Bits.l0 (k + 1) y0 y1))
  | 0 => fun _ _ r h => by simp [locutionref25_Bits.l0] at h
  | k + 1 => by
    have ih0 := locutionref25_Bits.mono_l k
    · intro y0 y1
      unfold locutionref25_Bits.l0
      repeat' first
      | (with_reducible exact ih0 _ _)
      | (with_reducible exact LeO.refl _)
      | (with_reducible exact LeO.none _)
      | (with_reducible refine LeO.ite ?_ ?_)
      | (with_reducible refine LeO.bind ?_ (fun _ => ?_))
      | exact ih0 _ _
      | exact LeO.none _
      | refine LeO.ite ?_ ?_
      | refine LeO.bind ?_ (fun _ => ?_)
theorem locutionref25_Bits.mono : ∀ a0 k, LeO (locutionref25_Bits.f k a0) (locutionref25_Bits.f (k + 1) a0) := by
  intro a0 k
  have ih0 := locutionref25_Bits.mono_l k
  unfold locutionref25_Bits.f
  repeat' first
      | (with_reducible exact ih0 _ _)
      | (with_reducible exact LeO.refl _)
      | (with_reducible exact LeO.none _)
      | (with_reducible refine LeO.ite ?_ ?_)
      | (with_reducible refine LeO.bind ?_ (fun _ => ?_))
      | exact ih0 _ _
      | exact LeO.none _
      | refine LeO.ite ?_ ?_
      | refine LeO.bind ?_ (fun _ => ?_)
def locutionref27_Down.l0 : Nat → Int → Int → Int → Option (Int)
  | 0, _, _, _ => none
  | k + 1, x0, x1, x5 => if x5 < x1 then (if x0 < 0 then (if (Int.tmod x0 2) = 0 then (locutionref27_Down.l0 k (wrap64 (Int.tdiv x0 2)) x1 (wrap64 (x5 + 1))) else (locutionref27_Down.l0 k (wrap64 (Int.tdiv (wrap64 (x0 - 1)) 2)) x1 (wrap64 (x5 + 1)))) else (locutionref27_Down.l0 k (wrap64 (Int.tdiv x0 2)) x1 (wrap64 (x5 + 1)))) else (some x0)
def locutionref27_Down.f (k : Nat) (a0 : Int) (a1 : Int) : Option (Int) := locutionref27_Down.l0 k a0 a1 0
theorem locutionref27_Down.mono_l : ∀ k, (∀ y0 y1 y2, LeO (locutionref27_Down.l0 k y0 y1 y2) (locutionref27_Down.l0 (k + 1) y0 y1 y2))
  | 0 => fun _ _ _ r h => by simp [locutionref27_Down.l0] at h
  | k + 1 => by
    have ih0 := locutionref27_Down.mono_l k
    · intro y0 y1 y2
      unfold locutionref27_Down.l0
      repeat' first
      | (with_reducible exact ih0 _ _ _)
      | (with_reducible exact LeO.refl _)
      | (with_reducible exact LeO.none _)
      | (with_reducible refine LeO.ite ?_ ?_)
      | (with_reducible refine LeO.bind ?_ (fun _ => ?_))
      | exact ih0 _ _ _
      | exact LeO.none _
      | refine LeO.ite ?_ ?_
      | refine LeO.bind ?_ (fun _ => ?_)
theorem locutionref27_Down.mono : ∀ a0 a1 k, LeO (locutionref27_Down.f k a0 a1) (locutionref27_Down.f (k + 1) a0 a1) := by
  intro a0 a1 k
  have ih0 := locutionref27_Down.mono_l k
  unfold locutionref27_Down.f
  repeat' first
      | (with_reducible exact ih0 _ _ _)
      | (with_reducible exact LeO.refl _)
      | (with_reducible exact LeO.none _)
      | (with_reducible refine LeO.ite ?_ ?_)
      | (with_reducible refine LeO.bind ?_ (fun _ => ?_))
      | exact ih0 _ _ _
      | exact LeO.none _
      | refine LeO.ite ?_ ?_
      | refine LeO.bind ?_ (fun _ => ?_)
end Go.Proofs.Yteikhnmmkanndaa.PAll
namespace Go.Proofs.Yteikhnmmkanndaa.PAll
open Go.RowKit Go.Proofs.YteikhnmmkanndaaW.PrintWords Go.Proofs.YteikhnmmkanndaaW.PrintLast Go.Proofs.YteikhnmmkanndaaW.PrintMore
attribute [local go_sem] max2_int min2_int max_two min_two max_three min_three max_four min_four   -- for this text's walks alone
set_option linter.unusedVariables false
set_option linter.unusedSimpArgs false
def locutionref25_Bytes.l0 : Nat → List Int → List Int → Int → Option (List Int)
  | 0, _, _, _ => none
  | k + 1, x0, x3, x4 => if x4 ≥ 0 then (if 0 ≤ x4 then (if x4 < (x0.length : Int) then (if x3.length < 140737488355328 then (locutionref25_Bytes.l0 k x0 (x3 ++ [(rd x0 x4) % 256]) (wrap64 (x4 - 1))) else (none)) else (none)) else (none)) else (some x3)
def locutionref25_Bytes.f (k : Nat) (l0 : List Int) : Option (List Int) := locutionref25_Bytes.l0 k l0 ([] : List Int) (wrap64 ((l0.length : Int) - 1))
theorem locutionref25_Bytes.mono_l : ∀ k, (∀ y0 y1 y2, LeO (locutionref25_Bytes.l0 k y0 y1 y2) (locutionref25_Bytes.l0 (k + 1) y0 y1 y2))
  | 0 => fun _ _ _ r h => by simp [locutionref25_Bytes.l0] at h
  | k + 1 => by
    have ih0 := locutionref25_Bytes.mono_l k
    · intro y0 y1 y2
      unfold locutionref25_Bytes.l0
      repeat' first
      | (with_reducible exact ih0 _ _ _)
      | (with_reducible exact LeO.refl _)
      | (with_reducible exact LeO.none _)
      | (with_reducible refine LeO.ite ?_ ?_)
      | (with_reducible refine LeO.bind ?_ (fun _ => ?_))
      | exact ih0 _ _ _
      | exact LeO.none _
      | refine LeO.ite ?_ ?_
      | refine LeO.bind ?_ (fun _ => ?_)
theorem locutionref25_Bytes.mono : ∀ a0 k, LeO (locutionref25_Bytes.f k a0) (locutionref25_Bytes.f (k + 1) a0) := by
  intro a0 k
  have ih0 := locutionref25_Bytes.mono_l k
  unfold locutionref25_Bytes.f
  repeat' first
      | (with_reducible exact ih0 _ _ _)
      | (with_reducible exact LeO.refl _)
      | (with_reducible exact LeO.none _)
      | (with_reducible refine LeO.ite ?_ ?_)
      | (with_reducible refine LeO.bind ?_ (fun _ => ?_))
      | exact ih0 _ _ _
      | exact LeO.none _
      | refine LeO.ite ?_ ?_
      | refine LeO.bind ?_ (fun _ => ?_)
end Go.Proofs.Yteikhnmmkanndaa.PAll
namespace Go.Proofs.Yteikhnmmkanndaa.PAll
open Go.RowKit Go.Proofs.YteikhnmmkanndaaW.PrintWords Go.Proofs.YteikhnmmkanndaaW.PrintLast Go.Proofs.YteikhnmmkanndaaW.PrintMore
attribute [local go_sem] max2_int min2_int max_two min_two max_three min_three max_four min_four   -- for this text's walks alone
set_option linter.unusedVariables false
set_option linter.unusedSimpArgs false
def slices_Reverse_byte_byte_131.l0 : Nat → List Int → Int → Int → Option (List Int)
  | 0, _, _, _ => none
  | k + 1, x0, x2, x3 => if x2 < x3 then (if 0 ≤ x3 then (if x3 < (x0.length : Int) then (if 0 ≤ x2 then (if x2 < (x0.length : Int) then (slices_Reverse_byte_byte_131.l0 k ((x0.set (x2 : Int).toNat (rd x0 x3)).set (x3 : Int).toNat (rd x0 x2)) (wrap64 (x2 + 1)) (wrap64 (x3 - 1))) else (none)) else (none)) else (none)) else (none)) else (some x0)
def slices_Reverse_byte_byte_131.f (k : Nat) (l0 : List Int) : Option (List Int) := slices_Reverse_byte_byte_131.l0 k l0 0 (wrap64 ((l0.length : Int) - 1))
theorem slices_Reverse_byte_byte_131.mono_l : ∀ k, (∀ y0 y1 y2, LeO (slices_Reverse_byte_byte_131.l0 k y0 y1 y2) (slices_Reverse_byte_byte_131.l0 (k + 1) y0 y1 y2))
  | 0 => fun _ _ _ r h => by simp [slices_Reverse_byte_byte_131.l0] at h
  | k + 1 => by
    have ih0 := slices_Reverse_byte_byte_131.mono_l k
    · intro y0 y1 y2
      unfold slices_Reverse_byte_byte_131.l0
      repeat' first
      | (with_reducible exact ih0 _ _ _)
      | (with_reducible exact LeO.refl _)
      | (with_reducible exact LeO.none _)
      | (with_reducible refine LeO.ite ?_ ?_)
      | (with_reducible refine LeO.bind ?_ (fun _ => ?_))
      | exact ih0 _ _ _
      | exact LeO.none _
      | refine LeO.ite ?_ ?_
      | refine LeO.bind ?_ (fun _ => ?_)
theorem slices_Reverse_byte_byte_131.mono : ∀ a0 k, LeO (slices_Reverse_byte_byte_131.f k a0) (slices_Reverse_byte_byte_131.f (k + 1) a0) := by
  intro a0 k
  have ih0 := slices_Reverse_byte_byte_131.mono_l k
  unfold slices_Reverse_byte_byte_131.f
  repeat' first
      | (with_reducible exact ih0 _ _ _)
      | (with_reducible exact LeO.refl _)
      | (with_reducible exact LeO.none _)
      | (with_reducible refine LeO.ite ?_ ?_)
      | (with_reducible refine LeO.bind ?_ (fun _ => ?_))
      | exact ih0 _ _ _
      | exact LeO.none _
      | refine LeO.ite ?_ ?_
      | refine LeO.bind ?_ (fun _ => ?_)
def nat_digits.l0 : Nat → Int → Int → List Int → Option (List Int)
  | 0, _, _, _ => none
  | k + 1, x0, x1, x5 => if x0 > 0 then (if x5.length < 140737488355328 then (nat_digits.l0 k (IntKind.u64.wrap (Int.tdiv x0 10)) x1 (x5 ++ [(IntKind.u64.wrap (48 + (Int.tmod x0 10))) % 256])) else (none)) else (if (x5.length : Int) < x1 then (if x5.length < 140737488355328 then (nat_digits.l0 k (IntKind.u64.wrap (Int.tdiv x0 10)) x1 (x5 ++ [(IntKind.u64.wrap (48 + (Int.tmod x0 10))) % 256])) else (none)) else ((slices_Reverse_byte_byte_131.f k x5).bind fun t188 => (some t188)))
def nat_digits.f (k : Nat) (a0 : Int) (a1 : Int) : Option (List Int) := nat_digits.l0 k a0 a1 ([] : List Int)
theorem nat_digits.mono_l : ∀ k, (∀ y0 y1 y2, LeO (nat_digits.l0 k y0 y1 y2) (nat_digits.l0 (k + 1) y0 y1 y2))
  | 0 => fun _ _ _ r h => by simp [nat_digits.l0] at h
  | k + 1 => by
    have ih0 := nat_digits.mono_l k
    · intro y0 y1 y2
      unfold nat_digits.l0
      repeat' first
      | (with_reducible exact ih0 _ _ _)
      | (with_reducible exact slices_Reverse_byte_byte_131.mono _ _)
      | (with_reducible exact LeO.refl _)
      | (with_reducible exact LeO.none _)
      | (with_reducible refine LeO.ite ?_ ?_)
      | (with_reducible refine LeO.bind ?_ (fun _ => ?_))
      | exact ih0 _ _ _
      | exact slices_Reverse_byte_byte_131.mono _ _
      | exact LeO.none _
      | refine LeO.ite ?_ ?_
      | refine LeO.bind ?_ (fun _ => ?_)
theorem nat_digits.mono : ∀ a0 a1 k, LeO (nat_digits.f k a0 a1) (nat_digits.f (k + 1) a0 a1) := by
  intro a0 a1 k
  have ih0 := nat_digits.mono_l k
  unfold nat_digits.f
  repeat' first
      | (with_reducible exact ih0 _ _ _)
      | (with_reducible exact slices_Reverse_byte_byte_131.mono _ _)
      | (with_reducible exact LeO.refl _)
      | (with_reducible exact LeO.none _)
      | (with_reducible refine LeO.ite ?_ ?_)
      | (with_reducible refine LeO.bind ?_ (fun _ => ?_))
      | exact ih0 _ _ _
      | exact slices_Reverse_byte_byte_131.mono _ _
      | exact LeO.none _
      | refine LeO.ite ?_ ?_
      | refine LeO.bind ?_ (fun _ => ?_)
end Go.Proofs.Yteikhnmmkanndaa.PAll
namespace Go.Proofs.Yteikhnmmkanndaa.PAll
open Go.RowKit Go.Proofs.YteikhnmmkanndaaW.PrintWords Go.Proofs.YteikhnmmkanndaaW.PrintLast Go.Proofs.YteikhnmmkanndaaW.PrintMore
attribute [local go_sem] max2_int min2_int max_two min_two max_three min_three max_four min_four   -- for this text's walks alone
set_option linter.unusedVariables false
set_option linter.unusedSimpArgs false
def locutionlaw27_short.l0 : Nat → Int → Int → Int → List Int → List Int → Option (Bool)
  | 0, _, _, _, _, _ => none
  | k + 1, x1, x5, x6, x552000, x552001 => if x6 < x1 then (locutionlaw27_short.l0 k x1 (wrap64 (Int.tdiv x5 2)) (wrap64 (x6 + 1)) x552000 x552001) else (if (x552000.length : Int) ≤ x5 then (some (decide ((x552001.length : Int) ≤ x5))) else (some false))
def locutionlaw27_short.f (k : Nat) (l0_0 : List Int) (l0_1 : List Int) (a1 : Int) : Option (Bool) := locutionlaw27_short.l0 k a1 1024 0 l0_0 l0_1
theorem locutionlaw27_short.mono_l : ∀ k, (∀ y0 y1 y2 y3 y4, LeO (locutionlaw27_short.l0 k y0 y1 y2 y3 y4) (locutionlaw27_short.l0 (k + 1) y0 y1 y2 y3 y4))
  | 0 => fun _ _ _ _ _ r h => by simp [locutionlaw27_short.l0] at h
  | k + 1 => by
    have ih0 := locutionlaw27_short.mono_l k
    · intro y0 y1 y2 y3 y4
      unfold locutionlaw27_short.l0
      repeat' first
      | (with_reducible exact ih0 _ _ _ _ _)
      | (with_reducible exact LeO.refl _)
      | (with_reducible exact LeO.none _)
      | (with_reducible refine LeO.ite ?_ ?_)
      | (with_reducible refine LeO.bind ?_ (fun _ => ?_))
      | exact ih0 _ _ _ _ _
      | exact LeO.none _
      | refine LeO.ite ?_ ?_
      | refine LeO.bind ?_ (fun _ => ?_)
theorem locutionlaw27_short.mono : ∀ a0 a1 a2 k, LeO (locutionlaw27_short.f k a0 a1 a2) (locutionlaw27_short.f (k + 1) a0 a1 a2) := by
  intro a0 a1 a2 k
  have ih0 := locutionlaw27_short.mono_l k
  unfold locutionlaw27_short.f
  repeat' first
      | (with_reducible exact ih0 _ _ _ _ _)
      | (with_reducible exact LeO.refl _)
      | (with_reducible exact LeO.none _)
      | (with_reducible refine LeO.ite ?_ ?_)
      | (with_reducible refine LeO.bind ?_ (fun _ => ?_))
      | exact ih0 _ _ _ _ _
      | exact LeO.none _
      | refine LeO.ite ?_ ?_
      | refine LeO.bind ?_ (fun _ => ?_)
end Go.Proofs.Yteikhnmmkanndaa.PAll
