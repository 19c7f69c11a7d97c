/- Words for lists of numbers and of n-grams that lie in memory, and for a block known whole; plain laws of how they are kept. -/
import Derived.Test.YtokcnblonbcpeaaRows
import Derived.WalkKit
import Derived.WalkSpells
import Derived.WalkLawsBesides
import Derived.Deep.OwnRows
import Derived.Deep.WholeRow
import Derived.Lib.Hide
import Derived.Outline
import Derived.Deep.Draws
import Derived.Deep.AppendLies
import Derived.Maps.AppendAt
import Derived.OwnWalk
import Derived.Laws.MakeOwn
import Derived.Laws.OwnMore
import Derived.Laws.Slices
import Derived.Deep.LoopGhost
import Derived.Deep.QuietTactic
import Derived.BigQuiet
import Derived.WideLaws
import Derived.Deep.DeepCutAuto
import Derived.Deep.CutBlock
import Derived.Deep.RegionHeld3
import Derived.OrdersHeld
namespace Go.Proofs.Ytokcnblonbcpeaa
open Go.RowKit

/-! Chains of worlds, each of which has the former's memory as it was. -/
theorem cbt {a b c : World} (h1 : Below a.heap.size a b) (h2 : Below b.heap.size b c) : Below a.heap.size a c := h1.trans (h2.mono h1.size)
theorem cba {a b : World} (h : Below a.heap.size a b) (o : Obj) : Below a.heap.size a (b.alloc o) := h.alloc h.size o

/-- the numbers g lie at A. -/
def IntsAt (w : World) (A : Option Addr) (g : List Int) : Prop :=
  ∀ i (h : i < g.length), ∃ b o, A = some ⟨b, o, none⟩ ∧ b < w.heap.size ∧ w.cell? ⟨b, o + i, none⟩ = some (.int .i64 g[i])
theorem IntsAt.below {w w' : World} {A : Option Addr} {g : List Int} (h : IntsAt w A g) (hb : Below w.heap.size w w') : IntsAt w' A g := by
  intro i hi
  obtain ⟨b, o, hA, hlt, hc⟩ := h i hi
  exact ⟨b, o, hA, Nat.lt_of_lt_of_le hlt hb.size, (hb.cell (p := ⟨b, o + i, none⟩) hlt).trans hc⟩
theorem IntsAt.nil (w : World) (A : Option Addr) : IntsAt w A [] := fun i h => absurd h (by simp)
/-- an n-gram, and how often it is there. -/
structure Cnt where
  g : List Int
  n : Int
/-- a value that is the slice g. -/
def IsInts (w : World) (v : Value) (g : List Int) : Prop := ∃ A cap, v = .slice A g.length cap ∧ g.length ≤ cap ∧ cap ≤ maxLen ∧ IntsAt w A g
theorem IsInts.below {w w' : World} {v : Value} {g : List Int} (h : IsInts w v g) (hb : Below w.heap.size w w') : IsInts w' v g := by
  obtain ⟨A, cap, hv, hl, hm, hi⟩ := h
  exact ⟨A, cap, hv, hl, hm, hi.below hb⟩
/-- the n-grams L lie at A. -/
def CntsAt (w : World) (A : Option Addr) (L : List Cnt) : Prop :=
  ∀ i (h : i < L.length), ∃ b o v, A = some ⟨b, o, none⟩ ∧ b < w.heap.size ∧ w.cell? ⟨b, o + i * 2, none⟩ = some v ∧ w.cell? ⟨b, o + i * 2 + 1, none⟩ = some (.int .i64 L[i].n) ∧ IsInts w v L[i].g ∧ -9223372036854775808 ≤ L[i].n ∧ L[i].n ≤ 9223372036854775807
theorem CntsAt.below {w w' : World} {A : Option Addr} {L : List Cnt} (h : CntsAt w A L) (hb : Below w.heap.size w w') : CntsAt w' A L := by
  intro i hi
  obtain ⟨b, o, v, hA, hlt, hc, hd, hv, hr⟩ := h i hi
  exact ⟨b, o, v, hA, Nat.lt_of_lt_of_le hlt hb.size, (hb.cell (p := ⟨b, o + i * 2, none⟩) hlt).trans hc, (hb.cell (p := ⟨b, o + i * 2 + 1, none⟩) hlt).trans hd, hv.below hb, hr⟩

/-- block g is just the cells cs. -/
def Blk (w : World) (g : Nat) (t : TypeId) (cs : Array Value) : Prop := w.heap[g]? = some (.cells cs t (0, 0))
section
variable {w w' : World} {g : Nat} {t : TypeId} {cs : Array Value}
theorem Blk.lt (h : Blk w g t cs) : g < w.heap.size := by
  rcases Nat.lt_or_ge g w.heap.size with hlt | hge
  · exact hlt
  · unfold Blk at h; rw [Array.getElem?_eq_none hge] at h; cases h
theorem Blk.cell (h : Blk w g t cs) (i : Nat) : w.cell? ⟨g, i, none⟩ = cs[i]? := cell_of_row w g i cs t (0, 0) h
theorem Blk.frozen (h : Blk w g t cs) (i : Nat) : w.frozen? ⟨g, i, none⟩ = false := by
  unfold Blk at h
  simp [World.frozen?, h]
theorem Blk.new (w : World) (t : TypeId) (cs : Array Value) : Blk (w.alloc (.cells cs t)) w.heap.size t cs := heap_alloc_new w _
theorem Blk.drew (h : Blk w g t cs) : Blk w.drew g t cs := h
theorem Blk.drewN (h : Blk w g t cs) (n : Nat) : Blk (w.drewN n) g t cs := h
theorem Blk.alloc (h : Blk w g t cs) (o : Obj) : Blk (w.alloc o) g t cs := (Below.heap_alloc w o g h.lt).trans h
theorem Blk.set_ (h : Blk w g t cs) (i : Nat) (u : Value) : Blk (w.setCell ⟨g, i, none⟩ u) g t (cs.setIfInBounds i u) := by
  unfold Blk at h ⊢
  simp [World.setCell, Array.getElem?_modify, h]
theorem Blk.far (h : Blk w g t cs) {p : Addr} (hp : g ≠ p.block) (u : Value) : Blk (w.setCell p u) g t cs := (Below.heap_setCell w p u g hp).trans h
theorem Blk.below {B : Nat} (h : Blk w g t cs) (hb : Below B w w') (hg : g < B) : Blk w' g t cs := (hb.block g hg).trans h
theorem Blk.grown {row : Option Nat} (h : Blk w g t cs) (hb : w.grownBy w' row) (hg : some g ≠ row) : Blk w' g t cs := (hb.block g h.lt hg).trans h
end
theorem only_drewN {a w : World} {row : Option Nat} (h : a.grownBy w row) (n : Nat) : a.grownBy (w.drewN n) row := ⟨h.os, h.tape, h.output, h.size, h.block⟩
theorem only_drew {a w : World} {row : Option Nat} (h : a.grownBy w row) : a.grownBy w.drew row := ⟨h.os, h.tape, h.output, h.size, h.block⟩
theorem only_alloc {a w : World} {row : Option Nat} (h : a.grownBy w row) (o : Obj) : a.grownBy (w.alloc o) row :=
  ⟨h.os, h.tape, h.output, Nat.le_trans h.size (by simp), fun i hi hne => (Below.heap_alloc w o i (Nat.lt_of_lt_of_le hi h.size)).trans (h.block i hi hne)⟩
theorem only_setCell {a w : World} {g : Nat} (h : a.grownBy w (some g)) {p : Addr} (hp : p.block = g ∨ a.heap.size ≤ p.block) (u : Value) : a.grownBy (w.setCell p u) (some g) :=
  ⟨h.os, h.tape, h.output, by simpa [World.setCell] using h.size, fun i hi hne => (Below.heap_setCell w p u i (by
    rintro rfl
    rcases hp with hp | hp
    · exact hne (by rw [hp])
    · omega)).trans (h.block i hi hne)⟩

/-! The census. -/
structure Cen where
  ty : Int
  tot : Int
  n1 : Int
  n2 : Int
  n3 : Int
  n4 : Int
def Cen.zero : Cen := ⟨0, 0, 0, 0, 0, 0⟩
/-- is an n-gram left out? -/
def outB (x : Cnt) : Bool := decide (x.n < 1) || decide (x.g = [1])
def Cen.add (s : Cen) (x : Cnt) : Cen :=
  if outB x = true then s else
    ⟨s.ty + 1, s.tot + x.n, if x.n = 1 then s.n1 + 1 else s.n1, if x.n = 2 then s.n2 + 1 else s.n2, if x.n = 3 then s.n3 + 1 else s.n3, if x.n = 4 then s.n4 + 1 else s.n4⟩
def cenOf (L : List Cnt) : Cen := L.foldl Cen.add Cen.zero
theorem cenOf_snoc (L : List Cnt) (x : Cnt) : cenOf (L ++ [x]) = (cenOf L).add x := by simp [cenOf]
theorem cenOf_take (L : List Cnt) (k : Nat) (h : k < L.length) : cenOf (L.take (k + 1)) = (cenOf (L.take k)).add L[k] := by
  rw [List.take_succ_eq_append_getElem h, cenOf_snoc]
/-- a census's seven cells. -/
def Cen.cells (s : Cen) : Array Value := #[.int .i64 s.ty, .int .i64 s.tot, .int .i64 0, .int .i64 s.n1, .int .i64 s.n2, .int .i64 s.n3, .int .i64 s.n4]
/-- the document's six numbers. -/
def Cen.row (s : Cen) : Array Value := #[.int .i64 s.ty, .int .i64 s.tot, .int .i64 s.n1, .int .i64 s.n2, .int .i64 s.n3, .int .i64 s.n4]
/-- numbers that can be counted on. -/
def Cen.ok (s : Cen) (k : Nat) : Prop := 0 ≤ s.ty ∧ s.ty ≤ k ∧ 0 ≤ s.n1 ∧ s.n1 ≤ k ∧ 0 ≤ s.n2 ∧ s.n2 ≤ k ∧ 0 ≤ s.n3 ∧ s.n3 ≤ k ∧ 0 ≤ s.n4 ∧ s.n4 ≤ k
theorem Cen.ok_add {s : Cen} {k : Nat} (h : s.ok k) (x : Cnt) : (s.add x).ok (k + 1) := by
  unfold Cen.add
  unfold Cen.ok at h ⊢
  split
  · omega
  · dsimp only
    split <;> split <;> split <;> split <;> omega
theorem Cen.ok_of (L : List Cnt) (k : Nat) (h : k ≤ L.length) : (cenOf (L.take k)).ok k := by
  induction k with
  | zero => simp [cenOf, Cen.ok, Cen.zero]
  | succ k ih => rw [cenOf_take L k h]; exact Cen.ok_add (ih (by omega)) _

/-! Are the numbers few enough? -/
def mayL : List Cnt → Int → Bool
  | [], _ => true
  | x :: L, left => if left < x.n then false else mayL L (left - max x.n 0)
def mayB (L : List Cnt) : Bool := mayL L 4611686018427387904
/-- all that is counted. -/
def posSum : List Cnt → Int
  | [] => 0
  | x :: L => max x.n 0 + posSum L
theorem posSum_nonneg (L : List Cnt) : 0 ≤ posSum L := by
  induction L with
  | nil => simp [posSum]
  | cons x L ih => unfold posSum; omega
theorem mayL_sum (L : List Cnt) (left : Int) (h0 : 0 ≤ left) (h : mayL L left = true) : posSum L ≤ left := by
  induction L generalizing left with
  | nil => simpa [posSum] using h0
  | cons x L ih =>
    unfold mayL at h
    unfold posSum
    by_cases hx : left < x.n
    · rw [if_pos hx] at h; simp at h
    · rw [if_neg hx] at h
      have := ih (left - max x.n 0) (by omega) h
      omega
theorem posSum_append (L M : List Cnt) : posSum (L ++ M) = posSum L + posSum M := by
  induction L with
  | nil => simp [posSum]
  | cons x L ih => rw [List.cons_append, posSum, posSum, ih]; omega
theorem posSum_take_le (L : List Cnt) (k : Nat) : posSum (L.take k) ≤ posSum L := by
  conv => rhs; rw [← List.take_append_drop k L]
  rw [posSum_append]
  have := posSum_nonneg (L.drop k)
  omega
theorem cen_tot (L : List Cnt) : 0 ≤ (cenOf L).tot ∧ (cenOf L).tot ≤ posSum L := by
  rcases List.eq_nil_or_concat L with rfl | ⟨M, x, rfl⟩
  · simp [cenOf, Cen.zero, posSum]
  · rw [List.concat_eq_append, cenOf_snoc, posSum_append]
    have ih := cen_tot M
    unfold Cen.add
    have hp : posSum [x] = max x.n 0 := by simp [posSum]
    rw [hp]
    by_cases ho : outB x = true
    · rw [if_pos ho]; omega
    · rw [if_neg ho]
      have : 1 ≤ x.n := by
        unfold outB at ho
        simp at ho
        omega
      dsimp only
      omega
termination_by L.length
end Go.Proofs.Ytokcnblonbcpeaa
