/- Printed by print.py out of the translation, laid into groups by split.py: what functions answer, as functions of lists, and that their code does. -/
import Derived.Test.YteikhnmmkanndaaProg
import Derived.Below
import Derived.Deep.Draws
import Derived.Deep.AppendLies
import Derived.Maps.AppendAt
import Derived.OwnWalk
import Derived.Laws.BytesArg
import Derived.Laws.MakeOwn
import Derived.Laws.OwnMore
import Derived.Deep.OwnRows
import Derived.Tactics
import Derived.Lib.ConvBytes
import Derived.Laws.Slices
import Derived.WalkKit
import Derived.KernelRfl
import Derived.RowKit3
import Derived.Deep.LoopGhost
import Derived.Deep.QuietTactic
import Derived.BigQuiet
import Derived.WideLaws
import Derived.Deep.DeepCutAuto
import Derived.Deep.CutBlock
import Derived.Deep.RegionHeld3
import Derived.Laws.Rows
import Derived.Lib.AppendStr
import Derived.ArgAppend
import Derived.Laws.IdiomCopy
import Derived.OrdersHeld
import Derived.Laws.BitsLemmas
import Derived.RowKit
import Derived.Test.YteikhnmmkanndaaWWords
import Derived.Test.YteikhnmmkanndaaWLast
import Derived.Test.YteikhnmmkanndaaWTab
import Derived.Test.YteikhnmmkanndaaWFour
import Derived.Test.YteikhnmmkanndaaWQPut
import Derived.Test.YteikhnmmkanndaaWApart
import Derived.Test.YteikhnmmkanndaaWArr
import Derived.Test.YteikhnmmkanndaaWZeros
import Derived.Test.YteikhnmmkanndaaWFoot
import Derived.Test.YteikhnmmkanndaaWKept
import Derived.Test.YteikhnmmkanndaaWShare
import Derived.Test.YteikhnmmkanndaaWN
import Derived.Test.YteikhnmmkanndaaWFootNe
import Derived.Test.YteikhnmmkanndaaWAt
import Derived.Test.YteikhnmmkanndaaWEqStruct
import Derived.Test.YteikhnmmkanndaaWRepsOne
import Derived.Test.YteikhnmmkanndaaWInv
import Derived.Test.YteikhnmmkanndaaWInvWords
import Derived.Test.YteikhnmmkanndaaWGuard
import Derived.Test.YteikhnmmkanndaaWNEv
import Derived.Test.YteikhnmmkanndaaWMore
namespace Go.Proofs.Yteikhnmmkanndaa.PAll
open Go.RowKit Go.Proofs.YteikhnmmkanndaaW.PrintWords Go.Proofs.YteikhnmmkanndaaW.PrintLast Go.Proofs.YteikhnmmkanndaaW.PrintMore
attribute [local go_sem] max2_int min2_int max_two min_two max_three min_three max_four min_four   -- for this text's walks alone
set_option linter.unusedVariables false
set_option linter.unusedSimpArgs false




def errW : Option Int → Value
  | none => .nilIface
  | some c => .iface 0 (.int .i64 c)
theorem errW_none : errW none = .nilIface := rfl
theorem errW_some (c : Int) : errW (some c) = .iface 0 (.int .i64 c) := rfl

theorem info3 : (Try.prog.info? 3).map (fun i => (i.zero, i.size, i.bytes)) = some (some (.int .i64 0), 1, 8) := by kernel_rfl
theorem info5 : (Try.prog.info? 5).map (fun i => (i.zero, i.size, i.bytes)) = some (some (.int .u8 0), 1, 1) := by kernel_rfl
theorem info62 : (Try.prog.info? 62).map (fun i => (i.zero, i.size, i.bytes)) = some (some (.int .u64 0), 1, 8) := by kernel_rfl
-- the values' own types
def rd_L2 (xs : List (List Int)) (i : Int) : (List Int) := xs.getD i.toNat ([] : List Int)
theorem at_L2 {w : World} {A : Option Addr} {n : Nat} {xs : List (List Int)} (h : Kd.C (Kd.slice 5 (Kd.int .u8)) w A n xs) (i : Int) (h0 : 0 ≤ i) (h1 : i < n) : ∃ ad A0 c0, A = some ad ∧ w.cell? (ad.add i.toNat) = some (.slice A0 (rd_L2 xs i).length c0) ∧ (rd_L2 xs i).length ≤ c0 ∧ (Kd.int .u8).C w A0 (rd_L2 xs i).length (rd_L2 xs i) := by
  obtain ⟨ad, c, e, _, hK, hc0⟩ := Kd.C_get h ([] : List Int) i h0 h1
  have hc : ∀ j u, c[j]? = some u → w.cell? (ad.add (i.toNat * 1 + j)) = some u := hc0
  obtain ⟨A0, c0, rfl, l0, g0⟩ := hK
  exact ⟨ad, A0, c0, e, by have hq := hc 0 _ rfl; rwa [Nat.mul_one, Nat.add_zero] at hq, l0, g0⟩

def rd_L4 (xs : List (List Int)) (i : Int) : (List Int) := xs.getD i.toNat ([] : List Int)
theorem at_L4 {w : World} {A : Option Addr} {n : Nat} {xs : List (List Int)} (h : Kd.C (Kd.slice 62 (Kd.int .u64)) w A n xs) (i : Int) (h0 : 0 ≤ i) (h1 : i < n) : ∃ ad A0 c0, A = some ad ∧ w.cell? (ad.add i.toNat) = some (.slice A0 (rd_L4 xs i).length c0) ∧ (rd_L4 xs i).length ≤ c0 ∧ (Kd.int .u64).C w A0 (rd_L4 xs i).length (rd_L4 xs i) := by
  obtain ⟨ad, c, e, _, hK, hc0⟩ := Kd.C_get h ([] : List Int) i h0 h1
  have hc : ∀ j u, c[j]? = some u → w.cell? (ad.add (i.toNat * 1 + j)) = some u := hc0
  obtain ⟨A0, c0, rfl, l0, g0⟩ := hK
  exact ⟨ad, A0, c0, e, by have hq := hc 0 _ rfl; rwa [Nat.mul_one, Nat.add_zero] at hq, l0, g0⟩

theorem len_to {α : Type} {R : α → List Value → Prop} {size : Nat} {w : World} {A : Option Addr} {n m : Nat} {xs : List α} (h : n = m) (hc : ReadsRow R size w A n xs) : ReadsRow R size w A m xs := h ▸ hc
theorem wrap_u8 (n : Int) : IntKind.u8.wrap n = n % 256 := by
  unfold IntKind.wrap
  rw [if_neg (by rw [show IntKind.u8.signed = false from rfl, Bool.false_and]; decide)]
  rfl
theorem wrap_u64 (n : Int) : IntKind.u64.wrap n = n % 18446744073709551616 := by
  unfold IntKind.wrap
  rw [if_neg (by rw [show IntKind.u64.signed = false from rfl, Bool.false_and]; decide)]
  rfl
theorem wrap_u64_u8 (n : Int) : IntKind.u64.wrap (IntKind.u8.wrap n) = n % 256 := by
  rw [wrap_u8, wrap_u64]; omega
end Go.Proofs.Yteikhnmmkanndaa.PAll
