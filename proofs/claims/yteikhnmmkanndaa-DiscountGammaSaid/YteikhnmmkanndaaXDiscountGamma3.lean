/- Laid together by prune.py out of the texts that the row needs: the declarations that its theorem uses. -/
import Derived.Test.YteikhnmmkanndaaXDiscountGamma2
import Derived.Test.YteikhnmmkanndaaRows
import Derived.WalkKit
import Derived.WalkSpells
import Derived.WalkLawsBesides
import Derived.Deep.OwnRows
import Derived.Deep.WholeRow
import Derived.Lib.Hide
import Derived.Outline
import Derived.Deep.Draws
import Derived.Deep.AppendLies
import Derived.Maps.AppendAt
import Derived.OwnWalk
import Derived.Laws.MakeOwn
import Derived.Laws.OwnMore
import Derived.Laws.Slices
import Derived.Deep.LoopGhost
import Derived.Deep.QuietTactic
import Derived.BigQuiet
import Derived.WideLaws
import Derived.Deep.DeepCutAuto
import Derived.Deep.CutBlock
import Derived.Deep.RegionHeld3
import Derived.OrdersHeld
import Derived.Shelf.Spec.BitsCarry
import Derived.Shelf.Bits.Mul64
import Derived.Lib.Mul64
import Derived.Lib.BitFns
import Derived.Lib.ItoaNum
import Derived.Lib.Strings
import Derived.Lib.Slices
import Derived.Lib.Small
import Derived.Lib.Walk
import Derived.Laws.Externs
import Derived.IntWalk
import Derived.Laws.BitsLemmas
import Derived.StillTailTactics
import Derived.Laws.CopyOwn
namespace Go.Proofs.Yteikhnmmkanndaa
def bl (x : Nat) : Nat := if x = 0 then 0 else Nat.log2 x + 1
theorem bl_le (x m : Nat) : bl x ≤ m ↔ x < 2 ^ m := by
  unfold bl
  by_cases h : x = 0
  · rw [if_pos h]
    subst h
    exact ⟨fun _ => Nat.two_pow_pos m, fun _ => Nat.zero_le _⟩
  · rw [if_neg h, ← Nat.log2_lt h]
    exact Nat.succ_le_iff
theorem lt_bl (x m : Nat) : m < bl x ↔ 2 ^ m ≤ x := by
  have := bl_le x m
  omega
theorem bl_eq_zero {x : Nat} : bl x = 0 ↔ x = 0 := by
  have := bl_le x 0
  rw [Nat.pow_zero] at this
  omega
theorem bl_div (x m : Nat) : bl (x / 2 ^ m) = bl x - m := by
  have key : ∀ n, bl (x / 2 ^ m) ≤ n ↔ bl x ≤ n + m := by
    intro n
    rw [bl_le, bl_le, Nat.div_lt_iff_lt_mul (Nat.two_pow_pos m), ← Nat.pow_add]
  have h1 := (key (bl x - m)).2 (by omega)
  have h2 := (key (bl (x / 2 ^ m))).1 (Nat.le_refl _)
  omega
def wl (k x : Nat) : Nat := (bl x + (k - 1)) / k
theorem wl_le {k : Nat} (hk : 0 < k) (x n : Nat) : wl k x ≤ n ↔ x < 2 ^ (k * n) := by
  rw [← bl_le]
  unfold wl
  rw [Nat.div_le_iff_le_mul_add_pred hk]
  omega
theorem lt_wl {k : Nat} (hk : 0 < k) (x n : Nat) : n < wl k x ↔ 2 ^ (k * n) ≤ x := by
  have := wl_le hk x n
  omega
theorem wl_zero {k : Nat} (hk : 0 < k) : wl k 0 = 0 := Nat.le_zero.1 ((wl_le hk 0 0).2 (Nat.two_pow_pos _))
theorem wl_eq_zero {k : Nat} (hk : 0 < k) {x : Nat} : wl k x = 0 ↔ x = 0 := by
  have := wl_le hk x 0
  rw [Nat.mul_zero, Nat.pow_zero] at this
  omega
theorem wl_lt {k : Nat} (hk : 0 < k) (x : Nat) : x < 2 ^ (k * wl k x) := (wl_le hk x _).1 (Nat.le_refl _)
theorem wl_eq {k : Nat} (hk : 0 < k) {x n : Nat} (h1 : x < 2 ^ (k * n)) (h2 : n = 0 ∨ 2 ^ (k * (n - 1)) ≤ x) : wl k x = n := by
  have a := (wl_le hk x n).2 h1
  rcases h2 with h | h
  · omega
  · have b := (lt_wl hk x (n - 1)).2 h
    omega
theorem wl_mono {k : Nat} (hk : 0 < k) {x y : Nat} (h : x ≤ y) : wl k x ≤ wl k y := (wl_le hk x _).2 (Nat.lt_of_le_of_lt h (wl_lt hk y))
theorem bl_le_wl {k : Nat} (hk : 0 < k) (x : Nat) : bl x ≤ k * wl k x := (bl_le x _).2 (wl_lt hk x)
def dig (k x i : Nat) : Nat := x / 2 ^ (k * i) % 2 ^ k
theorem dig_lt (k x i : Nat) : dig k x i < 2 ^ k := Nat.mod_lt _ (Nat.two_pow_pos k)
theorem pow_succ_mul (k i : Nat) : 2 ^ (k * (i + 1)) = 2 ^ (k * i) * 2 ^ k := by rw [Nat.mul_add, Nat.mul_one, Nat.pow_add]
theorem mod_succ (k x i : Nat) : x % 2 ^ (k * (i + 1)) = x % 2 ^ (k * i) + 2 ^ (k * i) * dig k x i := by
  rw [pow_succ_mul, Nat.mod_mul]
  rfl
theorem dig_zero_of_lt {k x i : Nat} (h : x < 2 ^ (k * i)) : dig k x i = 0 := by
  unfold dig
  rw [Nat.div_eq_of_lt h]
  exact Nat.zero_mod _
theorem lt_of_dig_zero {k x i : Nat} (h : x < 2 ^ (k * (i + 1))) (h0 : dig k x i = 0) : x < 2 ^ (k * i) := by
  have h1 := mod_succ k x i
  rw [h0, Nat.mul_zero, Nat.add_zero, Nat.mod_eq_of_lt h] at h1
  rw [h1]
  exact Nat.mod_lt _ (Nat.two_pow_pos _)
theorem dig_top {k x i : Nat} (h : x < 2 ^ (k * (i + 1))) : dig k x i = x / 2 ^ (k * i) := by
  unfold dig
  refine Nat.mod_eq_of_lt ?_
  rw [Nat.div_lt_iff_lt_mul (Nat.two_pow_pos _), Nat.mul_comm, ← pow_succ_mul]
  exact h
theorem bl_top {k x j : Nat} (hk : 0 < k) (h : wl k x = j + 1) : bl x = k * j + bl (dig k x j) := by
  have h1 := wl_lt hk x
  rw [h] at h1
  rw [dig_top h1, bl_div]
  have h2 := (lt_bl x (k * j)).2 ((lt_wl hk x j).1 (by omega))
  omega
theorem dig_mod {k x i n : Nat} (h : i < n) : dig k (x % 2 ^ (k * n)) i = dig k x i := by
  unfold dig
  obtain ⟨m, rfl⟩ : ∃ m, n = i + 1 + m := ⟨n - (i + 1), by omega⟩
  rw [Nat.mul_add, Nat.pow_add, pow_succ_mul, Nat.mul_assoc, Nat.mod_mul_right_div_self, Nat.mod_mul_right_mod]
theorem dig_div (k x i m : Nat) : dig k (x / 2 ^ (k * m)) i = dig k x (m + i) := by
  unfold dig
  rw [Nat.div_div_eq_div_mul, ← Nat.pow_add, Nat.mul_add]
theorem dig_ext {k : Nat} (n : Nat) {x y : Nat} (hx : x < 2 ^ (k * n)) (hy : y < 2 ^ (k * n)) (h : ∀ i, i < n → dig k x i = dig k y i) : x = y := by
  have key : ∀ j, j ≤ n → x % 2 ^ (k * j) = y % 2 ^ (k * j) := by
    intro j
    induction j with
    | zero => intro _; rw [Nat.mul_zero, Nat.pow_zero, Nat.mod_one, Nat.mod_one]
    | succ j ih =>
      intro hj
      rw [mod_succ, mod_succ, ih (by omega), h j (by omega)]
  have := key n (Nat.le_refl _)
  rwa [Nat.mod_eq_of_lt hx, Nat.mod_eq_of_lt hy] at this
def num (k : Nat) (f : Nat → Nat) : Nat → Nat
  | 0 => 0
  | n + 1 => num k f n + 2 ^ (k * n) * f n
theorem num_lt {k : Nat} {f : Nat → Nat} (hf : ∀ i, f i < 2 ^ k) (n : Nat) : num k f n < 2 ^ (k * n) := by
  induction n with
  | zero => exact Nat.two_pow_pos _
  | succ n ih =>
    rw [pow_succ_mul]
    unfold num
    calc num k f n + 2 ^ (k * n) * f n < 2 ^ (k * n) + 2 ^ (k * n) * f n := Nat.add_lt_add_right ih _
      _ = 2 ^ (k * n) * (f n + 1) := by rw [Nat.mul_add, Nat.mul_one, Nat.add_comm]
      _ ≤ 2 ^ (k * n) * 2 ^ k := Nat.mul_le_mul_left _ (hf n)
theorem dig_num {k : Nat} {f : Nat → Nat} (hf : ∀ i, f i < 2 ^ k) (n i : Nat) (hi : i < n) : dig k (num k f n) i = f i := by
  induction n with
  | zero => omega
  | succ n ih =>
    by_cases h : i = n
    · subst h
      unfold dig num
      rw [Nat.add_mul_div_left _ _ (Nat.two_pow_pos _), Nat.div_eq_of_lt (num_lt hf i), Nat.zero_add]
      exact Nat.mod_eq_of_lt (hf i)
    · rw [← dig_mod (show i < n by omega)]
      unfold num
      rw [Nat.add_mul_mod_self_left, Nat.mod_eq_of_lt (num_lt hf n)]
      exact ih (by omega)
def carryOf (k x y i : Nat) : Nat := (x % 2 ^ (k * i) + y % 2 ^ (k * i)) / 2 ^ (k * i)
theorem carry_zero (k x y : Nat) : carryOf k x y 0 = 0 := by unfold carryOf; rw [Nat.mul_zero, Nat.pow_zero, Nat.mod_one, Nat.mod_one]
theorem carry_le (k x y i : Nat) : carryOf k x y i ≤ 1 := by
  unfold carryOf
  have h1 := Nat.mod_lt x (Nat.two_pow_pos (k * i))
  have h2 := Nat.mod_lt y (Nat.two_pow_pos (k * i))
  have : (x % 2 ^ (k * i) + y % 2 ^ (k * i)) / 2 ^ (k * i) < 2 := (Nat.div_lt_iff_lt_mul (Nat.two_pow_pos _)).2 (by omega)
  omega
theorem sum_div (k x y i : Nat) : (x + y) / 2 ^ (k * i) = x / 2 ^ (k * i) + y / 2 ^ (k * i) + carryOf k x y i := Nat.add_div (Nat.two_pow_pos _) |>.trans (by
  unfold carryOf
  have h1 := Nat.mod_lt x (Nat.two_pow_pos (k * i))
  have h2 := Nat.mod_lt y (Nat.two_pow_pos (k * i))
  congr 1
  split
  · rename_i h
    have h3 : (x % 2 ^ (k * i) + y % 2 ^ (k * i)) / 2 ^ (k * i) < 2 := (Nat.div_lt_iff_lt_mul (Nat.two_pow_pos _)).2 (by omega)
    have h4 : 0 < (x % 2 ^ (k * i) + y % 2 ^ (k * i)) / 2 ^ (k * i) := Nat.div_pos h (Nat.two_pow_pos _)
    omega
  · rename_i h
    rw [Nat.div_eq_of_lt (by omega)])
theorem sum_dig (k x y i : Nat) : dig k (x + y) i = (dig k x i + dig k y i + carryOf k x y i) % 2 ^ k := by
  unfold dig
  rw [sum_div, Nat.add_mod (x / 2 ^ (k * i) % 2 ^ k + y / 2 ^ (k * i) % 2 ^ k), ← Nat.add_mod (x / 2 ^ (k * i)), ← Nat.add_mod]
theorem carry_succ (k x y i : Nat) : carryOf k x y (i + 1) = (dig k x i + dig k y i + carryOf k x y i) / 2 ^ k := by
  unfold carryOf
  rw [mod_succ, mod_succ, pow_succ_mul, ← Nat.div_div_eq_div_mul]
  rw [show x % 2 ^ (k * i) + 2 ^ (k * i) * dig k x i + (y % 2 ^ (k * i) + 2 ^ (k * i) * dig k y i) = x % 2 ^ (k * i) + y % 2 ^ (k * i) + 2 ^ (k * i) * (dig k x i + dig k y i) by rw [Nat.mul_add]; omega]
  rw [Nat.add_mul_div_left _ _ (Nat.two_pow_pos _), Nat.add_comm]
end Go.Proofs.Yteikhnmmkanndaa
namespace Go.Proofs.Yteikhnmmkanndaa
open Go.RowKit
theorem cbt {a b c : World} (h1 : Below a.heap.size a b) (h2 : Below b.heap.size b c) : Below a.heap.size a c := h1.trans (h2.mono h1.size)
theorem cba {a b : World} (h : Below a.heap.size a b) (o : Obj) : Below a.heap.size a (b.alloc o) := h.alloc h.size o
def Digs (w : World) (A : Option Addr) (kd : IntKind) (k x n : Nat) : Prop :=
  ∀ i, i < n → ∃ b o, A = some ⟨b, o, none⟩ ∧ b < w.heap.size ∧ w.cell? ⟨b, o + i, none⟩ = some (.int kd (dig k x i : Nat))
theorem Digs.below {w w' : World} {A : Option Addr} {kd : IntKind} {k x n : Nat} (h : Digs w A kd k x n) (hb : Below w.heap.size w w') : Digs w' A kd k x n := by
  intro i hi
  obtain ⟨b, o, hA, hlt, hc⟩ := h i hi
  exact ⟨b, o, hA, Nat.lt_of_lt_of_le hlt hb.size, (hb.cell (p := ⟨b, o + i, none⟩) hlt).trans hc⟩
theorem Digs.le {w : World} {A : Option Addr} {kd : IntKind} {k x n m : Nat} (h : Digs w A kd k x n) (hm : m ≤ n) : Digs w A kd k x m := fun i hi => h i (by omega)
theorem Digs.nil (w : World) (A : Option Addr) (kd : IntKind) (k x : Nat) : Digs w A kd k x 0 := fun i h => absurd h (by omega)
def N64 (w : World) (v : Value) (x : Nat) : Prop := ∃ A cap, v = .agg #[.slice A (wl 64 x) cap] ∧ wl 64 x ≤ cap ∧ cap ≤ maxLen ∧ Digs w A .u64 64 x (wl 64 x)
theorem N64.below {w w' : World} {v : Value} {x : Nat} (h : N64 w v x) (hb : Below w.heap.size w w') : N64 w' v x := by
  obtain ⟨A, cap, hv, hl, hm, hd⟩ := h
  exact ⟨A, cap, hv, hl, hm, hd.below hb⟩
theorem N64.zero (w : World) : N64 w (.agg #[.slice none 0 0]) 0 := ⟨none, 0, by rw [wl_zero (by decide)], by rw [wl_zero (by decide)]; exact Nat.le_refl _, by decide, by rw [wl_zero (by decide)]; exact Digs.nil _ _ _ _ _⟩
theorem below_drewN {B : Nat} {a w : World} (h : Below B a w) (n : Nat) : Below B a (w.drewN n) := ⟨h.os, h.tape, h.output, h.size, h.block⟩
theorem World.rowIs.drewN {w : World} {b : Nat} {t : TypeId} {n : Nat} {f : Nat → Value} (h : w.rowIs b t n f) (m : Nat) : (w.drewN m).rowIs b t n f := h
theorem Digs.of_row {w : World} {g : Nat} {t : TypeId} {m : Nat} {f : Nat → Value} {kd : IntKind} {k V n : Nat} (h : w.rowIs g t m f) (hn : n ≤ m) (hf : ∀ i, i < n → f i = .int kd (dig k V i : Nat)) : Digs w (some ⟨g, 0, none⟩) kd k V n := by
  intro i hi
  refine ⟨g, 0, rfl, h.lt, ?_⟩
  rw [Nat.zero_add, h.cell (by omega), hf i hi]
def Drew (a b : World) : Prop := ∃ m, b = a.drewN m
theorem Drew.refl (a : World) : Drew a a := ⟨0, rfl⟩
theorem Drew.more {a b : World} (h : Drew a b) (n : Nat) : Drew a (b.drewN n) := by
  obtain ⟨m, rfl⟩ := h
  exact ⟨m + n, World.drewN_drewN _ _ _⟩
theorem Drew.trans {a b c : World} (h : Drew a b) (k : Drew b c) : Drew a c := by
  obtain ⟨m, rfl⟩ := k
  exact h.more m
theorem Drew.cell {a b : World} (h : Drew a b) (p : Addr) : b.cell? p = a.cell? p := by
  obtain ⟨m, rfl⟩ := h
  rfl
theorem Drew.below {a b : World} (h : Drew a b) : Below a.heap.size a b := by
  obtain ⟨m, rfl⟩ := h
  exact below_drewN (Below.refl _ _) m
theorem quiet_drew {P : Program} {f : FuncId} {args : Array Value} {w : World} {n : Nat} {v : Value}
    (h : Calls P f args (w.drewN n) fun e w' => e = .returned v ∧ Drew (w.drewN n) w') : Calls P f args (w.drewN n) fun e w'' => e = .returned v ∧ ∃ m, w'' = w.drewN m :=
  h.mono fun _ _ ⟨he, hm⟩ => ⟨he, by
    obtain ⟨m, rfl⟩ := hm
    exact ⟨n + m, World.drewN_drewN _ _ _⟩⟩
theorem quiet_same {P : Program} {f : FuncId} {args : Array Value} {w : World} {n : Nat} {v : Value}
    (h : Calls P f args (w.drewN n) fun e w' => e = .returned v ∧ w' = w.drewN n) : Calls P f args (w.drewN n) fun e w'' => e = .returned v ∧ ∃ m, w'' = w.drewN m :=
  h.mono fun _ _ ⟨he, hm⟩ => ⟨he, n, hm⟩
def Blk (w : World) (g : Nat) (t : TypeId) (cs : Array Value) : Prop := w.heap[g]? = some (.cells cs t (0, 0))
section
variable {w w' : World} {g : Nat} {t : TypeId} {cs : Array Value}
theorem Blk.lt (h : Blk w g t cs) : g < w.heap.size := by
  rcases Nat.lt_or_ge g w.heap.size with hlt | hge
  · exact hlt
  · unfold Blk at h; rw [Array.getElem?_eq_none hge] at h; cases h
theorem Blk.cell (h : Blk w g t cs) (i : Nat) : w.cell? ⟨g, i, none⟩ = cs[i]? := cell_of_row w g i cs t (0, 0) h
theorem Blk.frozen (h : Blk w g t cs) (i : Nat) : w.frozen? ⟨g, i, none⟩ = false := by
  unfold Blk at h
  simp [World.frozen?, h]
theorem Blk.new (w : World) (t : TypeId) (cs : Array Value) : Blk (w.alloc (.cells cs t)) w.heap.size t cs := heap_alloc_new w _
theorem Blk.drew (h : Blk w g t cs) : Blk w.drew g t cs := h
theorem Blk.alloc (h : Blk w g t cs) (o : Obj) : Blk (w.alloc o) g t cs := (Below.heap_alloc w o g h.lt).trans h
theorem Blk.set_ (h : Blk w g t cs) (i : Nat) (u : Value) : Blk (w.setCell ⟨g, i, none⟩ u) g t (cs.setIfInBounds i u) := by
  unfold Blk at h ⊢
  simp [World.setCell, Array.getElem?_modify, h]
theorem Blk.far (h : Blk w g t cs) {p : Addr} (hp : g ≠ p.block) (u : Value) : Blk (w.setCell p u) g t cs := (Below.heap_setCell w p u g hp).trans h
theorem Blk.below {B : Nat} (h : Blk w g t cs) (hb : Below B w w') (hg : g < B) : Blk w' g t cs := (hb.block g hg).trans h
theorem Blk.grown {row : Option Nat} (h : Blk w g t cs) (hb : w.grownBy w' row) (hg : some g ≠ row) : Blk w' g t cs := (hb.block g h.lt hg).trans h
end
theorem only_drew {a w : World} {row : Option Nat} (h : a.grownBy w row) : a.grownBy w.drew row := ⟨h.os, h.tape, h.output, h.size, h.block⟩
theorem only_alloc {a w : World} {row : Option Nat} (h : a.grownBy w row) (o : Obj) : a.grownBy (w.alloc o) row :=
  ⟨h.os, h.tape, h.output, Nat.le_trans h.size (by simp), fun i hi hne => (Below.heap_alloc w o i (Nat.lt_of_lt_of_le hi h.size)).trans (h.block i hi hne)⟩
theorem only_setCell {a w : World} {g : Nat} (h : a.grownBy w (some g)) {p : Addr} (hp : p.block = g ∨ a.heap.size ≤ p.block) (u : Value) : a.grownBy (w.setCell p u) (some g) :=
  ⟨h.os, h.tape, h.output, by simpa [World.setCell] using h.size, fun i hi hne => (Below.heap_setCell w p u i (by
    rintro rfl
    rcases hp with hp | hp
    · exact hne (by rw [hp])
    · omega)).trans (h.block i hi hne)⟩
end Go.Proofs.Yteikhnmmkanndaa
namespace Go.Proofs.Yteikhnmmkanndaa
open Go.RowKit Go.Shelf
theorem add64_run (x y c : Nat) (hc : c ≤ 1) (w : World) : (callFunc 102 #[.int .u64 (x : Nat), .int .u64 (y : Nat), .int .u64 (c : Nat)]).run Try.prog w =
    .ok (.value (.tuple #[.int .u64 (((x + y + c) % 2 ^ 64 : Nat) : Int), .int .u64 (((x + y + c) / 2 ^ 64 : Nat) : Int)])) w := by
  rw [run_callFunc_extern Try.func102 (by kernel_rfl) (by kernel_rfl) (by kernel_rfl) (e := add64Entry) (by kernel_rfl), run_add64 x y c (by omega) (by omega) (by omega) (by omega)]
  simp only [Result.andThen]
  congr 5 <;> omega
theorem sub64_run (x y b : Nat) (hb : b ≤ 1) (w : World) : (callFunc 119 #[.int .u64 (x : Nat), .int .u64 (y : Nat), .int .u64 (b : Nat)]).run Try.prog w =
    .ok (.value (.tuple #[.int .u64 (((x + 2 ^ 64 - y - b) % 2 ^ 64 : Nat) : Int), .int .u64 ((if x < y + b then 1 else 0 : Nat) : Int)])) w := by
  rw [run_callFunc_extern Try.func119 (by kernel_rfl) (by kernel_rfl) (by kernel_rfl) (e := sub64Entry) (by kernel_rfl), run_sub64 x y b hb]
  rfl
theorem bl_lib (x : Nat) (h : x < 2 ^ 64) : Lib.bitLen x = bl x := by
  by_cases h0 : x = 0
  · subst h0; decide
  · obtain ⟨h1, h2, h3⟩ := Lib.bitLenAux_bounds 64 x h h0
    have a := (bl_le x (Lib.bitLen x)).2 h3
    have b := (lt_bl x (Lib.bitLen x - 1)).2 h2
    have c : 1 ≤ Lib.bitLen x := h1
    omega
theorem tab_len : ∀ n : Fin 256, ((Lib.len8tab[n.val]'(by rw [Lib.len8tab_size]; exact n.isLt)).toNat) = Lib.bitLen n.val := by decide +kernel
theorem tab_at (i : Nat) (h : i < Lib.len8tab.size) : (Lib.len8tab[i]).toNat = Lib.bitLen i := tab_len ⟨i, by rw [Lib.len8tab_size] at h; exact h⟩
theorem len_shift (k x : Nat) (h : 2 ^ k ≤ x) (hx : x < 2 ^ 64) (e y : Int) (he : e = k) (hy : y.toNat = x / 2 ^ k) (hl : y.toNat < 256) : wrap64 (e + wrap64 ((Lib.bitLen y.toNat : Nat) : Int)) = ((Lib.bitLen x : Nat) : Int) := by
  have h1 := Lib.bitLen_shift k x h hx
  have h2 := Lib.bitLen_le8 ⟨y.toNat, hl⟩
  have h3 : k < 64 := by
    rcases Nat.lt_or_ge k 64 with h | h'
    · exact h
    · have := Nat.pow_le_pow_right (show 0 < 2 by decide) h'
      omega
  rw [← hy] at h1
  rw [h1]
  have h2' : Lib.bitLen y.toNat ≤ 8 := h2
  unfold wrap64
  omega
set_option maxHeartbeats 4000000 in
set_option maxRecDepth 100000 in
theorem len64_int (x : Int) (w : World) (h0 : 0 ≤ x) (h1 : x ≤ 18446744073709551615) :
    Calls Try.prog 117 #[.int .u64 x] w fun e w' => e = .returned (.int .i64 (Lib.bitLen x.toNat)) ∧ w' = w := by
  have hs : (Lib.len8tab.size : Int) = 256 := by decide +kernel
  have hs2 : Lib.len8tab.size = 256 := by decide +kernel
  go_enter Try.func117, Try.ntmps117
  go_wp2
  all_goals simp only [tab_at]
  all_goals refine bodyPost_ret (v := .int .i64 (Lib.bitLen x.toNat)) ?_ rfl ⟨rfl, rfl⟩
  all_goals simp [results, Try.results117, go_sem]
  · exact len_shift 56 x.toNat (by omega) (by omega) 56 _ rfl (by omega) (by omega)
  · exact len_shift 48 x.toNat (by omega) (by omega) 48 _ rfl (by omega) (by omega)
  · exact len_shift 40 x.toNat (by omega) (by omega) 40 _ rfl (by omega) (by omega)
  · exact len_shift 32 x.toNat (by omega) (by omega) 32 _ rfl (by omega) (by omega)
  · exact len_shift 24 x.toNat (by omega) (by omega) 24 _ rfl (by omega) (by omega)
  · exact len_shift 16 x.toNat (by omega) (by omega) 16 _ rfl (by omega) (by omega)
  · exact len_shift 8 x.toNat (by omega) (by omega) 8 _ rfl (by omega) (by omega)
  · have h2 : Lib.bitLen x.toNat ≤ 8 := Lib.bitLen_le8 ⟨x.toNat, by omega⟩
    unfold wrap64
    omega
theorem len64_any (x : Nat) (hx : x < 2 ^ 64) (w : World) :
    Calls Try.prog 117 #[.int .u64 (x : Nat)] w fun e w' => e = .returned (.int .i64 ((bl x : Nat) : Int)) ∧ w' = w := by
  have h := len64_int (x : Int) w (by omega) (by omega)
  rwa [Int.toNat_natCast, bl_lib x hx] at h
set_option maxHeartbeats 1000000 in
theorem lead64_any (x : Nat) (hx : x < 2 ^ 64) (w : World) :
    Calls Try.prog 96 #[.int .u64 (x : Nat)] w fun e w' => e = .returned (.int .i64 ((64 - bl x : Nat) : Int)) ∧ w' = w := by
  have hb : bl x ≤ 64 := (bl_le x 64).2 hx
  go_enter Try.func96, Try.ntmps96
  go_wp2_with fail
  refine (len64_any x hx _).mono ?_
  rintro e w1 ⟨rfl, rfl⟩
  go_wp2
  go_ret
  exact ⟨congrArg Ending.returned (congrArg (Value.int IntKind.i64) (by omega)), rfl⟩
set_option maxHeartbeats 1000000 in
theorem mul64_any (x y : Nat) (hx : x < 2 ^ 64) (hy : y < 2 ^ 64) (w : World) :
    Calls Try.prog 130 #[.int .u64 (x : Nat), .int .u64 (y : Nat)] w fun e w' => e = .returned (.tuple #[.int .u64 ((x * y / 2 ^ 64 : Nat) : Int), .int .u64 ((x * y % 2 ^ 64 : Nat) : Int)]) ∧ w' = w := by
  have hx : x < 18446744073709551616 := hx
  have hy : y < 18446744073709551616 := hy
  rw [show (2 : Nat) ^ 64 = 18446744073709551616 from rfl]
  obtain ⟨bd, bt, bw, hhi⟩ := Lib.mul64_hi x y hx hy
  have ba := Lib.half_mul_le (a := x / 4294967296) (b := y / 4294967296) (by omega) (by omega)
  have bb := Lib.half_mul_le (a := x / 4294967296) (b := y % 4294967296) (by omega) (by omega)
  have bc := Lib.half_mul_le (a := x % 4294967296) (b := y / 4294967296) (by omega) (by omega)
  have ba' : x / 4294967296 * (y / 4294967296) < 18446744073709551616 := by omega
  have bb' : x / 4294967296 * (y % 4294967296) < 18446744073709551616 := by omega
  have bc' : x % 4294967296 * (y / 4294967296) < 18446744073709551616 := by omega
  have bh1 : x / 4294967296 * (y / 4294967296) + (x / 4294967296 * (y % 4294967296) + x % 4294967296 * (y % 4294967296) / 4294967296) / 4294967296 < 18446744073709551616 := by omega
  have bh : x / 4294967296 * (y / 4294967296) + (x / 4294967296 * (y % 4294967296) + x % 4294967296 * (y % 4294967296) / 4294967296) / 4294967296 + ((x / 4294967296 * (y % 4294967296) + x % 4294967296 * (y % 4294967296) / 4294967296) % 4294967296 + x % 4294967296 * (y / 4294967296)) / 4294967296 < 18446744073709551616 := by omega
  go_enter Try.func130, Try.ntmps130
  go_wp2
  simp only [Mul64.maskN x hx, Mul64.maskN y hy, Mul64.divN, Mul64.mulN, Mul64.addN, Mul64.wrapN _ bd, Mul64.wrapN _ bb', Mul64.wrapN _ bt, Mul64.maskN _ bt, Mul64.wrapN _ bc', Mul64.wrapN _ bw, Mul64.wrapN _ ba', Mul64.wrapN _ bh1, Mul64.wrapN _ bh, Mul64.wrapM (x * y)]
  rw [hhi]
  go_ret2
  exact ⟨rfl, rfl⟩
end Go.Proofs.Yteikhnmmkanndaa
namespace Go.Proofs.Yteikhnmmkanndaa
open Go.RowKit
def lenOf : Value → Nat | .slice _ n _ => n | _ => 0
set_option maxHeartbeats 1000000 in
theorem trim_any (A : Option Addr) (n cap V : Nat) (w : World) (hn : n ≤ cap) (hc : cap ≤ maxLen) (hd : Digs w A .u64 64 V n) (hV : V < 2 ^ (64 * n)) :
    Calls Try.prog 92 #[.slice A n cap] w fun e w' => ∃ v, e = .returned v ∧ N64 w' v V ∧ Below w.heap.size w w' := by
  have Hd := Lib.hid hd
  have HV := Lib.hid hV
  have HC := Lib.hid hc
  clear hd hV
  unfold maxLen at hc
  go_enter Try.func92, Try.ntmps92
  go_wp2
  go_loopw [0] (fun v0 wr => ∃ m : Nat, m ≤ n ∧ v0 = .slice A m cap ∧ Hid (V < 2 ^ (64 * m)) ∧ wr = w.alloc (.cells #[.slice none 0 0] 26)) (fun v0 _ => lenOf v0)
  case atStart => exact ⟨n, Nat.le_refl _, rfl, HV, rfl⟩
  case round =>
    obtain ⟨m, hm, rfl, hVm, rfl⟩ := hrel
    have hbw := cba (Below.refl _ w) (.cells #[.slice none 0 0] 26)
    rcases Nat.eq_zero_or_pos m with h0 | h0
    · subst h0
      have hw0 : wl 64 V = 0 := Nat.le_zero.1 ((wl_le (by decide) V 0).2 hVm.out)
      have HW := Lib.hid hw0
      clear hw0
      go_wp2
      exact bodyPost_ret (v := .agg #[.slice A 0 cap]) (by simp [results, Try.results92, go_sem]) rfl ⟨_, rfl, ⟨A, cap, by rw [HW.out], by rw [HW.out]; exact Nat.zero_le _, HC.out, by rw [HW.out]; exact Digs.nil _ _ _ _ _⟩, cba (Below.refl _ _) _⟩
    · obtain ⟨j, rfl⟩ : ∃ j, m = j + 1 := ⟨m - 1, by omega⟩
      obtain ⟨b, o, rfl, hlt, hcell⟩ := Hd.out j (by omega)
      have g0 : (w.alloc (.cells #[.slice none 0 0] 26)).cell? ⟨b, o + j, none⟩ = some (.int .u64 (dig 64 V j : Nat)) := (hbw.cell (p := ⟨b, o + j, none⟩) hlt).trans hcell
      clear hcell
      by_cases hz : dig 64 V j = 0
      · have hlt' := lt_of_dig_zero hVm.out hz
        rw [hz] at g0
        have HL := Lib.hid hlt'
        clear hlt' hz
        go_wp2
        go_roundw
        case rel => exact ⟨j, by omega, rfl, HL, trivial⟩
        case measure => simp [lenOf]
      · have hwl : wl 64 V = j + 1 := by
          refine wl_eq (by decide) hVm.out (.inr ?_)
          rw [Nat.add_sub_cancel]
          exact Nat.le_of_not_lt (fun h => hz (dig_zero_of_lt h))
        have HW := Lib.hid hwl
        clear hwl
        have hzb : (((dig 64 V j : Nat) : Int) == 0) = false := by rw [beq_eq_false_iff_ne]; omega
        obtain ⟨d, hd⟩ : ∃ d, dig 64 V j = d := ⟨_, rfl⟩
        rw [hd] at g0 hzb
        clear hd hz
        go_wp2
        exact bodyPost_ret (v := .agg #[.slice (some ⟨b, o, none⟩) (j + 1) cap]) (by simp [results, Try.results92, go_sem]) rfl ⟨_, rfl, ⟨some ⟨b, o, none⟩, cap, by rw [HW.out], by rw [HW.out]; omega, HC.out, by rw [HW.out]; exact (Hd.out.le hm).below (cba (Below.refl _ _) _)⟩, cba (Below.refl _ _) _⟩
theorem Try.info62 : (Try.prog.info? 62).map (fun i => (i.zero, i.size, i.bytes)) = some (some (.int .u64 0), 1, 8) := by kernel_rfl
theorem Blk.slice_ne {w : World} {r : Nat} {t : TypeId} {A : Option Addr} {n c : Nat} (h : Blk w r t #[.slice A n c]) {b o : Nat} {kd : IntKind} {z : Int} (hc : w.cell? ⟨b, o, none⟩ = some (.int kd z)) : b ≠ r := by
  rintro rfl
  rw [h.cell] at hc
  cases o with
  | zero => cases hc
  | succ o => simp at hc
theorem Digs.put {w : World} {A : Option Addr} {kd : IntKind} {k x n : Nat} (h : Digs w A kd k x n) {r : Nat} {t : TypeId} {B : Option Addr} {m c : Nat} (hb : Blk w r t #[.slice B m c]) (v : Value) : Digs (w.setCell ⟨r, 0, none⟩ v) A kd k x n := by
  intro i hi
  obtain ⟨b, o, hA, hlt, hc⟩ := h i hi
  exact ⟨b, o, hA, by simpa [World.setCell] using hlt, (World.cell?_of_block (Below.heap_setCell w _ v b (hb.slice_ne hc))).trans hc⟩
set_option maxHeartbeats 1000000 in
theorem of_any (x : Nat) (hx : x < 2 ^ 64) (w : World) :
    Calls Try.prog 50 #[.int .u64 (x : Nat)] w fun e w' => ∃ v, e = .returned v ∧ N64 w' v x ∧ Below w.heap.size w w' := by
  have HX := Lib.hid hx
  clear hx
  go_enter Try.func50, Try.ntmps50
  go_wp2_with fail
  have hb0 := Blk.new w 26 #[.slice none 0 0]
  have hb1 := (Blk.new (w.alloc (.cells #[.slice none 0 0] 26)) 62 #[.int .u64 (x : Nat)])
  rw [World.size_alloc] at hb1
  refine (trim_any (some ⟨w.heap.size + 1, 0, none⟩) 1 1 x _ (Nat.le_refl _) (by decide) ?_ HX.out).mono ?_
  · intro i hi
    obtain rfl : i = 0 := by omega
    refine ⟨_, _, rfl, hb1.lt, ?_⟩
    have h0 : dig 64 x 0 = x := by unfold dig; rw [Nat.mul_zero, Nat.pow_zero, Nat.div_one, Nat.mod_eq_of_lt HX.out]
    rw [h0]
    exact hb1.cell 0
  · rintro e w1 ⟨v, rfl, ⟨A, cap, rfl, hl, hm, hd⟩, hbl⟩
    have hblk := (hb0.alloc (.cells #[.int .u64 (x : Nat)] 62)).below hbl (by simp; omega)
    have k0 : w1.cell? ⟨w.heap.size, 0, none⟩ = some (.slice none 0 0) := hblk.cell 0
    have f0 := hblk.frozen 0
    have HD := Lib.hid (hd.put hblk (.slice A (wl 64 x) cap))
    have hbb := cbt (cba (cba (Below.refl _ w) (.cells #[.slice none 0 0] 26)) (.cells #[.int .u64 (x : Nat)] 62)) hbl
    clear hd
    go_wp2
    exact bodyPost_ret (v := .agg #[.slice A (wl 64 x) cap]) (by simp [results, Try.results50, go_sem, k0]) rfl ⟨_, rfl, ⟨A, cap, rfl, hl, hm, HD.out⟩, hbb.setCell (p := ⟨w.heap.size, 0, none⟩) (Nat.le_refl _) _⟩
set_option maxHeartbeats 1000000 in
theorem zero_any (v : Value) (x : Nat) (w : World) (h : N64 w v x) :
    Calls Try.prog 29 #[v] w fun e w' => e = .returned (.bool (decide (x = 0))) ∧ Below w.heap.size w w' := by
  obtain ⟨A, cap, rfl, hl, hm, hd⟩ := h
  have hw := wl_eq_zero (k := 64) (by decide) (x := x)
  unfold maxLen at hm
  clear hd
  obtain ⟨n, hn⟩ : ∃ n, wl 64 x = n := ⟨_, rfl⟩
  rw [hn] at hl hw ⊢
  have HW := Lib.hid hw
  clear hn hw
  go_enter Try.func29, Try.ntmps29
  go_wp2
  go_ret
  refine ⟨congrArg Ending.returned (congrArg Value.bool ?_), cba (Below.refl _ _) _⟩
  rw [Bool.eq_iff_iff, beq_iff_eq, decide_eq_true_iff, ← HW.out]
  omega
set_option maxHeartbeats 1000000 in
theorem bits_any (v : Value) (x : Nat) (w : World) (h : N64 w v x) (hx : wl 64 x ≤ 1099511627776) :
    Calls Try.prog 48 #[v] w fun e w' => e = .returned (.int .i64 (bl x : Nat)) ∧ Below w.heap.size w w' := by
  obtain ⟨A, cap, rfl, hl, hm, hd⟩ := h
  unfold maxLen at hm
  rcases Nat.eq_zero_or_pos (wl 64 x) with h0 | h0
  · have hx0 := (wl_eq_zero (k := 64) (by decide) (x := x)).1 h0
    subst hx0
    rw [h0]
    go_enter Try.func48, Try.ntmps48
    go_wp2
    go_ret
    exact ⟨rfl, cba (Below.refl _ _) _⟩
  · obtain ⟨j, hj⟩ : ∃ j, wl 64 x = j + 1 := ⟨wl 64 x - 1, by omega⟩
    obtain ⟨b, o, rfl, hlt, hc⟩ := hd j (by omega)
    have hbl := bl_top (k := 64) (by decide) hj
    have hdl := dig_lt 64 x j
    have HB := Lib.hid hbl
    rw [hj] at hl hx ⊢
    clear hj hbl h0 hd
    obtain ⟨d, hdd⟩ : ∃ d, dig 64 x j = d := ⟨_, rfl⟩
    rw [hdd] at hc hdl HB
    clear hdd
    have HDL := Lib.hid hdl
    clear hdl
    have hd64 : bl d ≤ 64 := (bl_le d 64).2 HDL.out
    have c0 : (w.alloc (.cells #[.slice (some ⟨b, o, none⟩) (j + 1) cap] 26)).cell? ⟨b, o + j, none⟩ = some (.int .u64 (d : Nat)) := ((cba (Below.refl _ w) (.cells #[.slice (some ⟨b, o, none⟩) (j + 1) cap] 26)).cell (p := ⟨b, o + j, none⟩) hlt).trans hc
    clear hc
    have hj1 : ((j : Int) + 1 == 0) = false := by rw [beq_eq_false_iff_ne]; omega
    go_enter Try.func48, Try.ntmps48
    go_wp2_with fail
    have q0 : IntKind.i64.wrap (j : Int) = j := IntWalk.i64_in _ (by omega)
    have q1 : IntKind.i64.wrap (64 * (j : Int)) = 64 * j := IntWalk.i64_in _ (by omega)
    have q2 : IntKind.i64.wrap (64 * (j : Int) + (bl d : Nat)) = 64 * j + (bl d : Nat) := IntWalk.i64_in _ (by omega)
    go_quiet ((go_at_call 117; exact quiet_same (len64_any d HDL.out _)))
    go_wp2
    go_ret
    exact ⟨by rw [HB.out]; rfl, below_drewN (cba (Below.refl _ _) _) _⟩
end Go.Proofs.Yteikhnmmkanndaa
namespace Go.Proofs.Yteikhnmmkanndaa
open Go.RowKit
def cmpI (a b : Int) : Int := if a < b then -1 else if b < a then 1 else 0
def cmpN (a b : Nat) : Int := if a < b then -1 else if b < a then 1 else 0
theorem cmpI_cast (a b : Nat) : cmpI a b = cmpN a b := by
  unfold cmpI cmpN
  by_cases h1 : a < b
  · rw [if_pos h1, if_pos (by omega)]
  · rw [if_neg h1, if_neg (by omega)]
    by_cases h2 : b < a
    · rw [if_pos h2, if_pos (by omega)]
    · rw [if_neg h2, if_neg (by omega)]
theorem nan3 (a : Int) (w : World) : Calls Try.prog 127 #[.int .i64 a] w fun e w' => e = .returned (.bool false) ∧ w' = w := by
  go_enter Try.func127, Try.ntmps127
  go_wp2
  go_ret
  exact ⟨by simp, rfl⟩
theorem nan62 (a : Int) (w : World) : Calls Try.prog 128 #[.int .u64 a] w fun e w' => e = .returned (.bool false) ∧ w' = w := by
  go_enter Try.func128, Try.ntmps128
  go_wp2
  go_ret
  exact ⟨by simp, rfl⟩
set_option maxHeartbeats 1000000 in
theorem cmp3_any (a b : Int) (w : World) :
    Calls Try.prog 93 #[.int .i64 a, .int .i64 b] w fun e w' => e = .returned (.int .i64 (cmpI a b)) ∧ w' = w := by
  have HC := Lib.hid (show cmpI a b = if a < b then -1 else if b < a then 1 else 0 from rfl)
  go_enter Try.func93, Try.ntmps93
  go_wp2_with fail
  refine (nan3 a _).mono ?_
  rintro e w1 ⟨rfl, rfl⟩
  go_wp2_with fail
  refine (nan3 b _).mono ?_
  rintro e w1 ⟨rfl, rfl⟩
  go_wp2
  · go_ret
    exact ⟨by rw [HC.out, if_pos (by assumption)]; rfl, rfl⟩
  · go_ret
    exact ⟨by rw [HC.out, if_neg (by omega), if_pos (by omega)]; rfl, rfl⟩
  · go_ret
    exact ⟨by rw [HC.out, if_neg (by omega), if_neg (by omega)]; rfl, rfl⟩
set_option maxHeartbeats 1000000 in
theorem cmp62_any (a b : Int) (w : World) :
    Calls Try.prog 94 #[.int .u64 a, .int .u64 b] w fun e w' => e = .returned (.int .i64 (cmpI a b)) ∧ w' = w := by
  have HC := Lib.hid (show cmpI a b = if a < b then -1 else if b < a then 1 else 0 from rfl)
  go_enter Try.func94, Try.ntmps94
  go_wp2_with fail
  refine (nan62 a _).mono ?_
  rintro e w1 ⟨rfl, rfl⟩
  go_wp2_with fail
  refine (nan62 b _).mono ?_
  rintro e w1 ⟨rfl, rfl⟩
  go_wp2
  · go_ret
    exact ⟨by rw [HC.out, if_pos (by assumption)]; rfl, rfl⟩
  · go_ret
    exact ⟨by rw [HC.out, if_neg (by omega), if_pos (by omega)]; rfl, rfl⟩
  · go_ret
    exact ⟨by rw [HC.out, if_neg (by omega), if_neg (by omega)]; rfl, rfl⟩
theorem cmpN_lt {x y : Nat} (h : x < y) : cmpN x y = -1 := if_pos h
theorem cmpN_gt {x y : Nat} (h : y < x) : cmpN x y = 1 := by unfold cmpN; rw [if_neg (by omega), if_pos h]
theorem cmpN_self (x : Nat) : cmpN x x = 0 := by unfold cmpN; rw [if_neg (by omega), if_neg (by omega)]
theorem cmpN_eq_zero {x y : Nat} (h : cmpN x y = 0) : x = y := by
  unfold cmpN at h
  split at h
  · omega
  · split at h <;> omega
theorem lt_of_wl {k : Nat} (hk : 0 < k) {x y : Nat} (h : wl k x < wl k y) : x < y := by
  rcases Nat.lt_or_ge x y with h1 | h1
  · exact h1
  · have := wl_mono hk h1
    omega
theorem cmpN_wl {k : Nat} (hk : 0 < k) {x y : Nat} (h : cmpN (wl k x) (wl k y) ≠ 0) : cmpN (wl k x) (wl k y) = cmpN x y := by
  unfold cmpN at h
  by_cases h1 : wl k x < wl k y
  · rw [cmpN_lt h1, cmpN_lt (lt_of_wl hk h1)]
  · rw [if_neg h1] at h
    by_cases h2 : wl k y < wl k x
    · rw [cmpN_gt h2, cmpN_gt (lt_of_wl hk h2)]
    · rw [if_neg h2] at h
      exact absurd rfl h
theorem div_succ (k x i : Nat) : x / 2 ^ (k * i) = x / 2 ^ (k * (i + 1)) * 2 ^ k + dig k x i := by
  unfold dig
  rw [pow_succ_mul, ← Nat.div_div_eq_div_mul]
  have := Nat.div_add_mod (x / 2 ^ (k * i)) (2 ^ k)
  rw [Nat.mul_comm] at this
  exact this.symm
theorem lt_of_dig {k x y i : Nat} (h : x / 2 ^ (k * (i + 1)) = y / 2 ^ (k * (i + 1))) (hd : dig k x i < dig k y i) : x < y := by
  have h1 := div_succ k x i
  have h2 := div_succ k y i
  rw [h] at h1
  rcases Nat.lt_or_ge x y with h3 | h3
  · exact h3
  · have := Nat.div_le_div_right (c := 2 ^ (k * i)) h3
    omega
theorem cmpN_dig {k x y i : Nat} (h : x / 2 ^ (k * (i + 1)) = y / 2 ^ (k * (i + 1))) (hd : cmpN (dig k x i) (dig k y i) ≠ 0) : cmpN (dig k x i) (dig k y i) = cmpN x y := by
  unfold cmpN at hd
  by_cases h1 : dig k x i < dig k y i
  · rw [cmpN_lt h1, cmpN_lt (lt_of_dig h h1)]
  · rw [if_neg h1] at hd
    by_cases h2 : dig k y i < dig k x i
    · rw [cmpN_gt h2, cmpN_gt (lt_of_dig h.symm h2)]
    · rw [if_neg h2] at hd
      exact absurd rfl hd
theorem div_dig {k x y i : Nat} (h : x / 2 ^ (k * (i + 1)) = y / 2 ^ (k * (i + 1))) (hd : cmpN (dig k x i) (dig k y i) = 0) : x / 2 ^ (k * i) = y / 2 ^ (k * i) := by
  rw [div_succ k x i, div_succ k y i, h, cmpN_eq_zero hd]
set_option maxHeartbeats 2000000 in
theorem ncmp_any (va vb : Value) (x y : Nat) (w : World) (ha : N64 w va x) (hb : N64 w vb y) :
    Calls Try.prog 22 #[va, vb] w fun e w' => e = .returned (.int .i64 (cmpN x y)) ∧ Below w.heap.size w w' := by
  obtain ⟨A, ca, rfl, hla, hma, hda⟩ := ha
  obtain ⟨B, cb, rfl, hlb, hmb, hdb⟩ := hb
  unfold maxLen at hma hmb
  have HA := Lib.hid hda
  have HB := Lib.hid hdb
  clear hda hdb
  have hbw := cba (cba (Below.refl _ w) (.cells #[.slice A (wl 64 x) ca] 26)) (.cells #[.slice B (wl 64 y) cb] 26)
  by_cases hc : cmpN (wl 64 x) (wl 64 y) = 0
  · have hn := cmpN_eq_zero hc
    have HC := Lib.hid ((cmpI_cast _ _).trans hc)
    have HX := Lib.hid (wl_lt (k := 64) (by decide) x)
    have HY := Lib.hid (wl_lt (k := 64) (by decide) y)
    rw [← hn] at hlb HB hbw ⊢
    rw [← hn] at HC HY
    clear hc hn
    obtain ⟨n, hn⟩ : ∃ n, wl 64 x = n := ⟨_, rfl⟩
    rw [hn] at HA HB HC HX HY hla hlb hbw ⊢
    clear hn
    go_enter Try.func22, Try.ntmps22
    go_wp2_with fail
    refine (cmp3_any _ _ _).mono ?_
    rintro e w1 ⟨rfl, rfl⟩
    rw [HC.out]
    go_wp2_with fail
    go_loopw [6] (fun v6 wr => ∃ m : Nat, m ≤ n ∧ v6 = .int .i64 ((m : Int) - 1) ∧ Hid (x / 2 ^ (64 * m) = y / 2 ^ (64 * m)) ∧ Drew ((w.alloc (.cells #[.slice A n ca] 26)).alloc (.cells #[.slice B n cb] 26)) wr) (fun v6 _ => (intOf v6 + 1).toNat)
    case atStart =>
      exact ⟨n, Nat.le_refl _, by go_num, Lib.hid (by rw [Nat.div_eq_of_lt HX.out, Nat.div_eq_of_lt HY.out]), Drew.refl _⟩
    case round =>
      obtain ⟨m, hm, rfl, hdiv, hdr⟩ := hrel
      rcases Nat.eq_zero_or_pos m with h0 | h0
      · subst h0
        have hxy : x = y := by
          have := hdiv.out
          rwa [Nat.mul_zero, Nat.pow_zero, Nat.div_one, Nat.div_one] at this
        subst hxy
        have HZ := Lib.hid (cmpN_self x)
        go_wp2
        go_ret
        exact ⟨by rw [HZ.out]; rfl, cbt hbw hdr.below⟩
      · obtain ⟨j, rfl⟩ : ∃ j, m = j + 1 := ⟨m - 1, by omega⟩
        rw [show (((j + 1 : Nat) : Int) - 1) = (j : Int) by omega]
        obtain ⟨bA, oA, rfl, hltA, hcA⟩ := HA.out j (by omega)
        obtain ⟨bB, oB, rfl, hltB, hcB⟩ := HB.out j (by omega)
        have gA : wr.cell? ⟨bA, oA + j, none⟩ = some (.int .u64 (dig 64 x j : Nat)) := (hdr.cell _).trans ((hbw.cell (p := ⟨bA, oA + j, none⟩) hltA).trans hcA)
        have gB : wr.cell? ⟨bB, oB + j, none⟩ = some (.int .u64 (dig 64 y j : Nat)) := (hdr.cell _).trans ((hbw.cell (p := ⟨bB, oB + j, none⟩) hltB).trans hcB)
        have k0 : wr.cell? ⟨w.heap.size, 0, none⟩ = some (.slice (some ⟨bA, oA, none⟩) n ca) := (hdr.cell _).trans (((Blk.new w 26 #[.slice (some ⟨bA, oA, none⟩) n ca]).alloc _).cell 0)
        have k1 : wr.cell? ⟨w.heap.size + 1, 0, none⟩ = some (.slice (some ⟨bB, oB, none⟩) n cb) := (hdr.cell _).trans (by
          have := (Blk.new (w.alloc (.cells #[.slice (some ⟨bA, oA, none⟩) n ca] 26)) 26 #[.slice (some ⟨bB, oB, none⟩) n cb]).cell 0
          rwa [World.size_alloc] at this)
        clear hcA hcB
        have i0 : (0 : Int) ≤ (j : Int) := by omega
        have i1 : (j : Int) < (n : Int) := by omega
        by_cases hd : cmpN (dig 64 x j) (dig 64 y j) = 0
        · have HDV := Lib.hid (div_dig hdiv.out hd)
          have HD := Lib.hid ((cmpI_cast _ _).trans hd)
          clear hd
          obtain ⟨d, hd⟩ : ∃ d, dig 64 x j = d := ⟨_, rfl⟩
          obtain ⟨f, hf⟩ : ∃ f, dig 64 y j = f := ⟨_, rfl⟩
          rw [hd] at gA HD
          rw [hf] at gB HD
          clear hd hf
          go_wp2_with fail
          go_quiet ((go_at_call 94; exact quiet_same (cmp62_any _ _ _)))
          rw [HD.out]
          go_wp2
          go_roundw
          case rel => exact ⟨j, by omega, by go_num, HDV, hdr.more _⟩
          case measure => simp [intOf]
        · have HD := Lib.hid ((cmpI_cast _ _).trans (cmpN_dig hdiv.out hd))
          have hne : ((cmpI (dig 64 x j : Nat) (dig 64 y j : Nat)) != 0) = true := by rw [cmpI_cast, bne_iff_ne]; exact hd
          clear hd
          obtain ⟨d, hd⟩ : ∃ d, dig 64 x j = d := ⟨_, rfl⟩
          obtain ⟨f, hf⟩ : ∃ f, dig 64 y j = f := ⟨_, rfl⟩
          rw [hd] at gA HD hne
          rw [hf] at gB HD hne
          clear hd hf
          go_wp2_with fail
          go_quiet ((go_at_call 94; exact quiet_same (cmp62_any _ _ _)))
          go_wp2
          go_ret
          exact ⟨by rw [← HD.out]; rfl, below_drewN (cbt hbw hdr.below) _⟩
  · have hn := (cmpN_wl (k := 64) (by decide) hc)
    have hne : ((cmpI (wl 64 x : Nat) (wl 64 y : Nat)) != 0) = true := by rw [cmpI_cast, bne_iff_ne]; exact hc
    have HC := Lib.hid ((cmpI_cast _ _).trans hn)
    clear hc hn
    obtain ⟨n, hn⟩ : ∃ n, wl 64 x = n := ⟨_, rfl⟩
    obtain ⟨m, hm⟩ : ∃ m, wl 64 y = m := ⟨_, rfl⟩
    rw [hn, hm] at hne HC
    rw [hn] at hla hbw ⊢
    rw [hm] at hlb hbw ⊢
    clear hn hm HA HB
    go_enter Try.func22, Try.ntmps22
    go_wp2_with fail
    refine (cmp3_any _ _ _).mono ?_
    rintro e w1 ⟨rfl, rfl⟩
    go_wp2_with fail
    go_ret
    exact ⟨by rw [← HC.out]; rfl, hbw⟩
end Go.Proofs.Yteikhnmmkanndaa
namespace Go.Proofs.Yteikhnmmkanndaa
open Go.RowKit
theorem blk_below {w w' : World} {g : Nat} {t : TypeId} {cs : Array Value} (h : Blk w g t cs) (hb : Below w.heap.size w w') : Blk w' g t cs := h.below hb h.lt
theorem pair_cells {w : World} {g h : Nat} {v v' : Value} (a : Blk w g 26 #[v]) (b : Blk w h 26 #[v']) : w.cell? ⟨g, 0, none⟩ = some v ∧ w.cell? ⟨h, 0, none⟩ = some v' := ⟨a.cell 0, b.cell 0⟩
set_option maxRecDepth 100000 in
set_option maxHeartbeats 4000000 in
theorem longer_any (va vb : Value) (x y : Nat) (w : World) (ha : N64 w va x) (hb : N64 w vb y) (hx : wl 64 x ≤ 1099511627776) (hy : wl 64 y ≤ 1099511627776) :
    Calls Try.prog 101 #[.func (.func 48) #[] #[], va, vb] w fun e w' => e = .returned (.tuple (if bl x < bl y then #[vb, va] else #[va, vb])) ∧ Below w.heap.size w w' := by
  have ha' := ha
  have hb' := hb
  obtain ⟨A, ca, rfl, hla, hma, hda⟩ := ha
  obtain ⟨B, cb, rfl, hlb, hmb, hdb⟩ := hb
  have HA := Lib.hid ha'
  have HB := Lib.hid hb'
  clear hda hdb ha' hb'
  unfold maxLen at hma hmb
  have hbx : bl x ≤ 70368744177664 := Nat.le_trans (bl_le_wl (k := 64) (by decide) x) (by omega)
  have hby : bl y ≤ 70368744177664 := Nat.le_trans (bl_le_wl (k := 64) (by decide) y) (by omega)
  have e0 := (((Blk.new w 26 #[.slice A (wl 64 x) ca]).alloc (.cells #[.slice B (wl 64 y) cb] 26)).alloc (.cells #[.slice none 0 0] 26)).alloc (.cells #[.slice none 0 0] 26)
  have e1 := ((Blk.new (w.alloc (.cells #[.slice A (wl 64 x) ca] 26)) 26 #[.slice B (wl 64 y) cb]).alloc (.cells #[.slice none 0 0] 26)).alloc (.cells #[.slice none 0 0] 26)
  have e2 := (Blk.new ((w.alloc (.cells #[.slice A (wl 64 x) ca] 26)).alloc (.cells #[.slice B (wl 64 y) cb] 26)) 26 #[.slice none 0 0]).alloc (.cells #[.slice none 0 0] 26)
  have e3 := Blk.new (((w.alloc (.cells #[.slice A (wl 64 x) ca] 26)).alloc (.cells #[.slice B (wl 64 y) cb] 26)).alloc (.cells #[.slice none 0 0] 26)) 26 #[.slice none 0 0]
  simp only [World.size_alloc] at e1 e2 e3
  have hb0 := cba (cba (cba (cba (Below.refl _ w) (.cells #[.slice A (wl 64 x) ca] 26)) (.cells #[.slice B (wl 64 y) cb] 26)) (.cells #[.slice none 0 0] 26)) (.cells #[.slice none 0 0] 26)
  have HAX := Lib.hid (fun W => bits_any (.agg #[.slice A (wl 64 x) ca]) x W)
  have HBX := Lib.hid (fun W => bits_any (.agg #[.slice B (wl 64 y) cb]) y W)
  obtain ⟨n, hn⟩ : ∃ n, wl 64 x = n := ⟨_, rfl⟩
  obtain ⟨m, hm⟩ : ∃ m, wl 64 y = m := ⟨_, rfl⟩
  rw [hn] at HA HAX hla hx e0 e1 e2 e3 hb0 ⊢
  rw [hm] at HB HBX hlb hy e0 e1 e2 e3 hb0 ⊢
  clear hn hm
  obtain ⟨p, hp⟩ : ∃ p, bl x = p := ⟨_, rfl⟩
  obtain ⟨q, hq⟩ : ∃ q, bl y = q := ⟨_, rfl⟩
  rw [hp] at HAX hbx ⊢
  rw [hq] at HBX hby ⊢
  clear hp hq
  by_cases hpq : p < q
  · rw [if_pos hpq]
    have hpb : decide ((p : Int) < (q : Int)) = true := by rw [decide_eq_true_iff]; omega
    have hpb' : decide (p < q) = true := by rw [decide_eq_true_iff]; omega
    clear hpq
    go_enter Try.func101, Try.ntmps101
    go_wp2_with fail
    obtain ⟨X, hX⟩ : ∃ X, (((w.alloc (.cells #[.slice A n ca] 26)).alloc (.cells #[.slice B m cb] 26)).alloc (.cells #[.slice none 0 0] 26)).alloc (.cells #[.slice none 0 0] 26) = X := ⟨_, rfl⟩
    rw [hX] at e0 e1 e2 e3 hb0 ⊢
    clear hX
    have k0 : X.cell? ⟨w.heap.size, 0, none⟩ = some (.slice A n ca) := e0.cell 0
    have k1 : X.cell? ⟨w.heap.size + 1, 0, none⟩ = some (.slice B m cb) := e1.cell 0
    have E0 := Lib.hid e0
    have E1 := Lib.hid e1
    have E2 := Lib.hid e2
    have E3 := Lib.hid e3
    clear e0 e1 e2 e3
    go_region_held3 (fun w' => w'.cell? ⟨w.heap.size, 0, none⟩ = some (.slice A n ca) ∧ w'.cell? ⟨w.heap.size + 1, 0, none⟩ = some (.slice B m cb)) ((refine pair_cells ?_ ?_ <;> with_reducible (first | exact E0.out.drew | exact E1.out.drew | exact a2 | exact b2 | exact a3 | exact b3)))
      (first | (go_at_call 48; (with_reducible refine (HAX.out _ ?_ hx).mono ?_); (exact HA.out.below (hb0.drew)); rintro e w2 ⟨rfl, hb2⟩; have a2 := blk_below E0.out.drew hb2; have b2 := blk_below E1.out.drew hb2) | (go_at_call 48; (with_reducible refine (HBX.out _ ?_ hy).mono ?_); (exact HB.out.below (cbt hb0.drew hb2)); rintro e w3 ⟨rfl, hb3⟩; have a3 := blk_below a2 hb3; have b3 := blk_below b2 hb3))
    have e2 := blk_below (blk_below E2.out.drew hb2) hb3
    have e3 := blk_below (blk_below E3.out.drew hb2) hb3
    have hbb := cbt (cbt hb0.drew hb2) hb3
    have k4 : w3.cell? ⟨w.heap.size, 0, none⟩ = some (.slice A n ca) := a3.cell 0
    have k5 : w3.cell? ⟨w.heap.size + 1, 0, none⟩ = some (.slice B m cb) := b3.cell 0
    have k6 : w3.cell? ⟨w.heap.size + 1 + 1, 0, none⟩ = some (.slice none 0 0) := e2.cell 0
    have k7 : w3.cell? ⟨w.heap.size + 1 + 1 + 1, 0, none⟩ = some (.slice none 0 0) := e3.cell 0
    have f6 := e2.frozen 0
    have f7 := e3.frozen 0
    have hle2 : w.heap.size ≤ w.heap.size + 1 + 1 := by omega
    have hle3 : w.heap.size ≤ w.heap.size + 1 + 1 + 1 := by omega
    clear E0 E1 E2 E3 a2 b2 a3 b3 e2 e3 HA HB HAX HBX k0 k1
    go_wp2
    go_region
    go_wp2
    exact bodyPost_ret (v := .tuple #[.agg #[.slice B m cb], .agg #[.slice A n ca]]) (by simp [results, Try.results101, go_sem, k6, k7]) rfl ⟨rfl, ((hbb.setCell (p := ⟨w.heap.size + 1 + 1, 0, none⟩) hle2 _).setCell (p := ⟨w.heap.size + 1 + 1 + 1, 0, none⟩) hle3 _).drew⟩
  · rw [if_neg hpq]
    have hpb : decide ((p : Int) < (q : Int)) = false := by rw [decide_eq_false_iff_not]; omega
    have hpb' : decide (p < q) = false := by rw [decide_eq_false_iff_not]; omega
    clear hpq
    go_enter Try.func101, Try.ntmps101
    go_wp2_with fail
    obtain ⟨X, hX⟩ : ∃ X, (((w.alloc (.cells #[.slice A n ca] 26)).alloc (.cells #[.slice B m cb] 26)).alloc (.cells #[.slice none 0 0] 26)).alloc (.cells #[.slice none 0 0] 26) = X := ⟨_, rfl⟩
    rw [hX] at e0 e1 e2 e3 hb0 ⊢
    clear hX
    have k0 : X.cell? ⟨w.heap.size, 0, none⟩ = some (.slice A n ca) := e0.cell 0
    have k1 : X.cell? ⟨w.heap.size + 1, 0, none⟩ = some (.slice B m cb) := e1.cell 0
    have E0 := Lib.hid e0
    have E1 := Lib.hid e1
    have E2 := Lib.hid e2
    have E3 := Lib.hid e3
    clear e0 e1 e2 e3
    go_region_held3 (fun w' => w'.cell? ⟨w.heap.size, 0, none⟩ = some (.slice A n ca) ∧ w'.cell? ⟨w.heap.size + 1, 0, none⟩ = some (.slice B m cb)) ((refine pair_cells ?_ ?_ <;> with_reducible (first | exact E0.out.drew | exact E1.out.drew | exact a2 | exact b2 | exact a3 | exact b3)))
      (first | (go_at_call 48; (with_reducible refine (HAX.out _ ?_ hx).mono ?_); (exact HA.out.below (hb0.drew)); rintro e w2 ⟨rfl, hb2⟩; have a2 := blk_below E0.out.drew hb2; have b2 := blk_below E1.out.drew hb2) | (go_at_call 48; (with_reducible refine (HBX.out _ ?_ hy).mono ?_); (exact HB.out.below (cbt hb0.drew hb2)); rintro e w3 ⟨rfl, hb3⟩; have a3 := blk_below a2 hb3; have b3 := blk_below b2 hb3))
    have e2 := blk_below (blk_below E2.out.drew hb2) hb3
    have e3 := blk_below (blk_below E3.out.drew hb2) hb3
    have hbb := cbt (cbt hb0.drew hb2) hb3
    have k4 : w3.cell? ⟨w.heap.size, 0, none⟩ = some (.slice A n ca) := a3.cell 0
    have k5 : w3.cell? ⟨w.heap.size + 1, 0, none⟩ = some (.slice B m cb) := b3.cell 0
    have k6 : w3.cell? ⟨w.heap.size + 1 + 1, 0, none⟩ = some (.slice none 0 0) := e2.cell 0
    have k7 : w3.cell? ⟨w.heap.size + 1 + 1 + 1, 0, none⟩ = some (.slice none 0 0) := e3.cell 0
    have f6 := e2.frozen 0
    have f7 := e3.frozen 0
    have hle2 : w.heap.size ≤ w.heap.size + 1 + 1 := by omega
    have hle3 : w.heap.size ≤ w.heap.size + 1 + 1 + 1 := by omega
    clear E0 E1 E2 E3 a2 b2 a3 b3 e2 e3 HA HB HAX HBX k0 k1
    go_wp2
    go_region
    go_wp2
    exact bodyPost_ret (v := .tuple #[.agg #[.slice A n ca], .agg #[.slice B m cb]]) (by simp [results, Try.results101, go_sem, k6, k7]) rfl ⟨rfl, ((hbb.setCell (p := ⟨w.heap.size + 1 + 1, 0, none⟩) hle2 _).setCell (p := ⟨w.heap.size + 1 + 1 + 1, 0, none⟩) hle3 _).drew⟩
end Go.Proofs.Yteikhnmmkanndaa
namespace Go.Proofs.Yteikhnmmkanndaa
open Go.RowKit
theorem row_upto {w : World} {g : Nat} {t : TypeId} {n k : Nat} {kd : IntKind} {f : Nat → Nat} (h : w.rowIs g t n (fun j => .int kd ((if j < k then f j else 0 : Nat) : Int))) {d : Nat} (hd : d = f k) :
    (w.setCell ⟨g, k, none⟩ (.int kd (d : Nat))).rowIs g t n (fun j => .int kd ((if j < k + 1 then f j else 0 : Nat) : Int)) :=
  (h.set k (.int kd (d : Nat))).congr (fun j _ => by
    by_cases h1 : j = k
    · subst h1; rw [if_pos rfl, if_pos (by omega), hd]
    · rw [if_neg h1]
      by_cases h2 : j < k
      · rw [if_pos h2, if_pos (by omega)]
      · rw [if_neg h2, if_neg (by omega)])
theorem wl_of_bl {k x y : Nat} (h : bl x ≤ bl y) : wl k x ≤ wl k y := Nat.div_le_div_right (by omega)
theorem sum_lt {k n x y : Nat} (hk : 0 < k) (hx : x < 2 ^ (k * n)) (hy : y < 2 ^ (k * n)) : x + y < 2 ^ (k * (n + 1)) := by
  rw [pow_succ_mul]
  have : 2 ≤ 2 ^ k := by
    have := Nat.pow_le_pow_right (show 0 < 2 by decide) hk
    simpa using this
  have := Nat.mul_le_mul_left (2 ^ (k * n)) this
  omega
theorem sum_top {k n x y : Nat} (hk : 0 < k) (hx : x < 2 ^ (k * n)) (hy : y < 2 ^ (k * n)) : dig k (x + y) n = carryOf k x y n := by
  rw [sum_dig, dig_zero_of_lt hx, dig_zero_of_lt hy, Nat.zero_add]
  refine Nat.mod_eq_of_lt ?_
  have h1 := carry_le k x y n
  have : 2 ≤ 2 ^ k := by
    have := Nat.pow_le_pow_right (show 0 < 2 by decide) hk
    simpa using this
  omega
set_option maxRecDepth 100000 in
set_option maxHeartbeats 4000000 in
theorem nadd_any (va vb : Value) (x y : Nat) (w : World) (ha : N64 w va x) (hb : N64 w vb y) (hx : wl 64 x ≤ 1099511627776) (hy : wl 64 y ≤ 1099511627776) :
    Calls Try.prog 24 #[va, vb] w fun e w' => ∃ v, e = .returned v ∧ N64 w' v (x + y) ∧ Below w.heap.size w w' := by
  have hlong := fun W h1 h2 => longer_any va vb x y W h1 h2 hx hy
  obtain ⟨vp, vq, X, Y, hpq, hXY, hp, hq, hbl, hX⟩ : ∃ vp vq X Y, (if bl x < bl y then #[vb, va] else #[va, vb]) = #[vp, vq] ∧ X + Y = x + y ∧ N64 w vp X ∧ N64 w vq Y ∧ bl Y ≤ bl X ∧ wl 64 X ≤ 1099511627776 := by
    by_cases h : bl x < bl y
    · exact ⟨vb, va, y, x, if_pos h, Nat.add_comm _ _, hb, ha, by omega, hy⟩
    · exact ⟨va, vb, x, y, if_neg h, rfl, ha, hb, by omega, hx⟩
  rw [hpq] at hlong
  rw [← hXY]
  have HA := Lib.hid ha
  have HB := Lib.hid hb
  obtain ⟨A0, ca0, rfl, hla0, hma0, _⟩ := ha
  obtain ⟨B0, cb0, rfl, hlb0, hmb0, _⟩ := hb
  have hwl := wl_of_bl (k := 64) hbl
  obtain ⟨A, ca, rfl, hla, hma, hda⟩ := hp
  obtain ⟨B, cb, rfl, hlb, hmb, hdb⟩ := hq
  have HDA := Lib.hid hda
  have HDB := Lib.hid hdb
  have HXL := Lib.hid (wl_lt (k := 64) (by decide) X)
  have HYL := Lib.hid (wl_lt (k := 64) (by decide) Y)
  have HLONG := Lib.hid hlong
  clear hda hdb hlong hpq hXY hbl hla0 hma0 hlb0 hmb0 hx hy
  unfold maxLen at hma hmb
  generalize wl 64 x = nx at *
  generalize wl 64 y = ny at *
  obtain ⟨n, hn⟩ : ∃ n, wl 64 X = n := ⟨_, rfl⟩
  obtain ⟨m, hm⟩ : ∃ m, wl 64 Y = m := ⟨_, rfl⟩
  rw [hn] at hwl hla hX HDA HXL HLONG
  rw [hm] at hwl hlb HDB HYL HLONG
  clear hn hm
  have hmk := run_make_row' (P := Try.prog) 24 62 (.int .u64 0) 8 Try.underlying24 Try.info62 rfl .i64 .i64 (n + 1) (by omega) (by omega)
  simp only [Int.natCast_add, Int.natCast_one] at hmk
  have e0 := ((Blk.new w 26 #[.slice A0 nx ca0]).alloc (.cells #[.slice B0 ny cb0] 26)).alloc (.cells #[.slice none 0 0] 26)
  have e1 := (Blk.new (w.alloc (.cells #[.slice A0 nx ca0] 26)) 26 #[.slice B0 ny cb0]).alloc (.cells #[.slice none 0 0] 26)
  have e2 := Blk.new ((w.alloc (.cells #[.slice A0 nx ca0] 26)).alloc (.cells #[.slice B0 ny cb0] 26)) 26 #[.slice none 0 0]
  simp only [World.size_alloc] at e1 e2
  have hb0 := cba (cba (cba (Below.refl _ w) (.cells #[.slice A0 nx ca0] 26)) (.cells #[.slice B0 ny cb0] 26)) (.cells #[.slice none 0 0] 26)
  have hsz0 : (((w.alloc (.cells #[.slice A0 nx ca0] 26)).alloc (.cells #[.slice B0 ny cb0] 26)).alloc (.cells #[.slice none 0 0] 26)).heap.size = w.heap.size + 3 := by simp
  go_enter Try.func24, Try.ntmps24
  go_wp2_with fail
  obtain ⟨X0, hX0⟩ : ∃ X0, ((w.alloc (.cells #[.slice A0 nx ca0] 26)).alloc (.cells #[.slice B0 ny cb0] 26)).alloc (.cells #[.slice none 0 0] 26) = X0 := ⟨_, rfl⟩
  rw [hX0] at e0 e1 e2 hb0 hsz0 ⊢
  clear hX0
  refine (HLONG.out X0 (HA.out.below hb0) (HB.out.below hb0)).mono ?_
  rintro e w1 ⟨rfl, hb1⟩
  have a0 := blk_below e0 hb1
  have a1 := blk_below e1 hb1
  have a2 := blk_below e2 hb1
  have hbw := cbt hb0 hb1
  have hs1 := hb1.size
  have s0 := (a0.set_ 0 (.slice A n ca)).far (p := ⟨w.heap.size + 1, 0, none⟩) (show w.heap.size ≠ w.heap.size + 1 by omega) (.slice B m cb)
  have s1 := (a1.far (p := ⟨w.heap.size, 0, none⟩) (show w.heap.size + 1 ≠ w.heap.size by omega) (.slice A n ca)).set_ 0 (.slice B m cb)
  have s2 := (a2.far (p := ⟨w.heap.size, 0, none⟩) (show w.heap.size + 1 + 1 ≠ w.heap.size by omega) (.slice A n ca)).far (p := ⟨w.heap.size + 1, 0, none⟩) (show w.heap.size + 1 + 1 ≠ w.heap.size + 1 by omega) (.slice B m cb)
  have hbS := (hbw.setCell (p := ⟨w.heap.size, 0, none⟩) (Nat.le_refl _) (.slice A n ca)).setCell (p := ⟨w.heap.size + 1, 0, none⟩) (show w.heap.size ≤ w.heap.size + 1 by omega) (.slice B m cb)
  have hsS : ((w1.setCell ⟨w.heap.size, 0, none⟩ (.slice A n ca)).setCell ⟨w.heap.size + 1, 0, none⟩ (.slice B m cb)).heap.size = w1.heap.size := by simp [World.setCell]
  have k0 : w1.cell? ⟨w.heap.size, 0, none⟩ = some (.slice A0 nx ca0) := a0.cell 0
  have k1 : w1.cell? ⟨w.heap.size + 1, 0, none⟩ = some (.slice B0 ny cb0) := a1.cell 0
  have f0 := a0.frozen 0
  have f1 := a1.frozen 0
  go_upto_region 2 with (fail)
  obtain ⟨S, hS⟩ : ∃ S, (w1.setCell ⟨w.heap.size, 0, none⟩ (.slice A n ca)).setCell ⟨w.heap.size + 1, 0, none⟩ (.slice B m cb) = S := ⟨_, rfl⟩
  rw [hS] at s0 s1 s2 hbS hsS ⊢
  clear hS k0 k1 f0 f1 a0 a1 a2 e0 e1 e2
  have hg : w.heap.size + 3 ≤ S.heap.size := by omega
  have hrow := World.rowIs_made S (.int .u64 0) (n + 1) 62
  have q0 : S.cell? ⟨w.heap.size, 0, none⟩ = some (.slice A n ca) := s0.cell 0
  have q0' : (S.alloc (.cells (madeCells #[.int .u64 0] (n + 1)) 62)).cell? ⟨w.heap.size, 0, none⟩ = some (.slice A n ca) := (s0.alloc _).cell 0
  have HROW := Lib.hid hrow
  have S0 := Lib.hid s0
  have S1 := Lib.hid s1
  have S2 := Lib.hid s2
  clear hrow s0 s1 s2 hsS hbw hs1
  go_wp2_with fail
  clear q0 q0'
  go_loopw [6, 23] (fun v6 v23 wr => ∃ k : Nat, k ≤ n ∧ v23 = .int .i64 k ∧ v6 = .int .u64 (carryOf 64 X Y k : Nat) ∧ wr.rowIs S.heap.size 62 (n + 1) (fun j => .int .u64 ((if j < k then dig 64 (X + Y) j else 0 : Nat) : Int)) ∧
    Below S.heap.size S wr) (fun _ v23 _ => n - (intOf v23).toNat)
  case atStart =>
    exact ⟨0, Nat.zero_le _, rfl, by rw [carry_zero]; rfl, HROW.out.congr (fun j _ => by simp), cba (Below.refl _ _) _⟩
  case round =>
    obtain ⟨k, hk, rfl, rfl, hrw, hbr⟩ := hrel
    have g0 : wr.cell? ⟨w.heap.size, 0, none⟩ = some (.slice A n ca) := (blk_below S0.out hbr).cell 0
    have g1 : wr.cell? ⟨w.heap.size + 1, 0, none⟩ = some (.slice B m cb) := (blk_below S1.out hbr).cell 0
    by_cases hlt : k < n
    · obtain ⟨bA, oA, rfl, hltA, hcA⟩ := HDA.out k hlt
      have gA : wr.cell? ⟨bA, oA + k, none⟩ = some (.int .u64 (dig 64 X k : Nat)) := (hbr.cell (p := ⟨bA, oA + k, none⟩) (show bA < S.heap.size by omega)).trans ((hbS.cell (p := ⟨bA, oA + k, none⟩) hltA).trans hcA)
      have r0 : wr.cell? ⟨S.heap.size, k, none⟩ = some (.int .u64 ((if k < k then dig 64 (X + Y) k else 0 : Nat) : Int)) := hrw.cell (by omega)
      rw [if_neg (by omega)] at r0
      have fr := hrw.frozen k
      have hcl := carry_le 64 X Y k
      have hadd := add64_run (dig 64 X k) (dig 64 Y k) (carryOf 64 X Y k) hcl
      rw [← sum_dig, ← carry_succ] at hadd
      have HRW := Lib.hid hrw
      clear hcA hrw
      by_cases hkm : k < m
      · obtain ⟨bB, oB, rfl, hltB, hcB⟩ := HDB.out k hkm
        have gB : wr.cell? ⟨bB, oB + k, none⟩ = some (.int .u64 (dig 64 Y k : Nat)) := (hbr.cell (p := ⟨bB, oB + k, none⟩) (show bB < S.heap.size by omega)).trans ((hbS.cell (p := ⟨bB, oB + k, none⟩) hltB).trans hcB)
        clear hcB
        generalize hd1 : dig 64 X k = d1 at gA hadd
        generalize hd2 : dig 64 Y k = d2 at gB hadd
        generalize hd3 : carryOf 64 X Y k = c1 at hadd hcl ⊢
        generalize hd4 : carryOf 64 X Y (k + 1) = c2 at hadd
        have HC2 := Lib.hid hd4
        generalize hd5 : dig 64 (X + Y) k = d3 at hadd
        have HD := Lib.hid hd5
        clear hd1 hd2 hd3 hd4 hd5
        go_wp2_with fail
        go_roundw
        case rel => exact ⟨k + 1, by omega, by go_num, by rw [HC2.out], row_upto HRW.out HD.out.symm, hbr.setCell (p := ⟨S.heap.size, k, none⟩) (Nat.le_refl _) _⟩
        case measure => simp [intOf]; omega
      · have hz : dig 64 Y k = 0 := dig_zero_of_lt (Nat.lt_of_lt_of_le HYL.out (Nat.pow_le_pow_right (by decide) (by omega)))
        rw [hz] at hadd
        generalize hd1 : dig 64 X k = d1 at gA hadd
        have hadd : ∀ W, (callFunc 102 #[.int .u64 (d1 : Nat), .int .u64 0, .int .u64 (carryOf 64 X Y k : Nat)]).run Try.prog W = .ok (.value (.tuple #[.int .u64 (dig 64 (X + Y) k : Nat), .int .u64 (carryOf 64 X Y (k + 1) : Nat)])) W := hadd
        generalize hd3 : carryOf 64 X Y k = c1 at hadd hcl ⊢
        generalize hd4 : carryOf 64 X Y (k + 1) = c2 at hadd
        have HC2 := Lib.hid hd4
        generalize hd5 : dig 64 (X + Y) k = d3 at hadd
        have HD := Lib.hid hd5
        clear hd1 hd3 hd4 hd5 hz
        go_wp2_with fail
        go_roundw
        case rel => exact ⟨k + 1, by omega, by go_num, by rw [HC2.out], row_upto HRW.out HD.out.symm, hbr.setCell (p := ⟨S.heap.size, k, none⟩) (Nat.le_refl _) _⟩
        case measure => simp [intOf]; omega
    · obtain rfl : k = n := by omega
      have HTOP := Lib.hid (sum_top (k := 64) (by decide) HXL.out (Nat.lt_of_lt_of_le HYL.out (Nat.pow_le_pow_right (by decide) (by omega))))
      have HSUM := Lib.hid (sum_lt (k := 64) (by decide) HXL.out (Nat.lt_of_lt_of_le HYL.out (Nat.pow_le_pow_right (by decide) (by omega))))
      have r0 : wr.cell? ⟨S.heap.size, k, none⟩ = some (.int .u64 ((if k < k then dig 64 (X + Y) k else 0 : Nat) : Int)) := hrw.cell (by omega)
      rw [if_neg (by omega)] at r0
      have fr := hrw.frozen k
      have HRW := Lib.hid hrw
      clear hrw
      generalize hd3 : carryOf 64 X Y k = c1 at HTOP ⊢
      clear hd3
      go_wp2_with fail
      have hr2 := row_upto HRW.out HTOP.out.symm
      have hb2 := hbr.setCell (p := ⟨S.heap.size, k, none⟩) (Nat.le_refl _) (.int .u64 (c1 : Nat))
      refine (trim_any _ _ _ (X + Y) _ (Nat.le_refl _) (by unfold maxLen; omega) (Digs.of_row hr2 (Nat.le_refl _) (fun i hi => by rw [if_pos hi])) HSUM.out).mono ?_
      rintro e w4 ⟨v, rfl, ⟨A4, cap4, rfl, hl4, hm4, hd4⟩, hb4⟩
      have s4 := (blk_below S2.out hb2).below hb4 (by have := hb2.size; omega)
      have k4 : w4.cell? ⟨w.heap.size + 1 + 1, 0, none⟩ = some (.slice none 0 0) := s4.cell 0
      have f4 := s4.frozen 0
      have HD := Lib.hid (hd4.put s4 (.slice A4 (wl 64 (X + Y)) cap4))
      have hbb := (hbS.trans (hb2.mono (by omega))).trans (hb4.mono (by have := hb2.size; omega))
      have hle : w.heap.size ≤ w.heap.size + 1 + 1 := by omega
      clear hd4 g0 g1 r0 fr
      go_wp2
      exact bodyPost_ret (v := .agg #[.slice A4 (wl 64 (X + Y)) cap4]) (by simp [results, Try.results24, go_sem, k4]) rfl ⟨_, rfl, ⟨A4, cap4, rfl, hl4, hm4, HD.out⟩, hbb.setCell (p := ⟨w.heap.size + 1 + 1, 0, none⟩) hle _⟩
end Go.Proofs.Yteikhnmmkanndaa
namespace Go.Proofs.Yteikhnmmkanndaa
open Go.RowKit
def mulCarry (k T x y i : Nat) : Nat := (T % 2 ^ (k * i) + x * (y % 2 ^ (k * i))) / 2 ^ (k * i)
theorem mulCarry_zero (k T x y : Nat) : mulCarry k T x y 0 = 0 := by unfold mulCarry; rw [Nat.mul_zero, Nat.pow_zero, Nat.mod_one, Nat.mod_one]; simp
theorem mulCarry_lt {k T x y i : Nat} (hx : x < 2 ^ k) : mulCarry k T x y i < 2 ^ k := by
  unfold mulCarry
  rw [Nat.div_lt_iff_lt_mul (Nat.two_pow_pos _)]
  have h1 := Nat.mod_lt T (Nat.two_pow_pos (k * i))
  have h2 := Nat.mod_lt y (Nat.two_pow_pos (k * i))
  generalize T % 2 ^ (k * i) = t at *
  generalize y % 2 ^ (k * i) = u at *
  generalize 2 ^ (k * i) = b at *
  generalize 2 ^ k = B at *
  have h3 : x * u ≤ (B - 1) * b := Nat.mul_le_mul (by omega) (by omega)
  have h4 : (B - 1) * b + b = B * b := by
    have h5 : B = (B - 1) + 1 := by omega
    conv => rhs; rw [h5, Nat.add_mul, Nat.one_mul]
  omega
theorem mul_div (k T x y i : Nat) : (T + x * y) / 2 ^ (k * i) = T / 2 ^ (k * i) + x * (y / 2 ^ (k * i)) + mulCarry k T x y i := by
  unfold mulCarry
  have h1 := Nat.div_add_mod T (2 ^ (k * i))
  have h2 := Nat.div_add_mod y (2 ^ (k * i))
  have hb := Nat.two_pow_pos (k * i)
  generalize T % 2 ^ (k * i) = t at *
  generalize y % 2 ^ (k * i) = u at *
  generalize T / 2 ^ (k * i) = a at *
  generalize y / 2 ^ (k * i) = c at *
  generalize 2 ^ (k * i) = b at *
  subst h1
  subst h2
  rw [show b * a + t + x * (b * c + u) = t + x * u + b * (a + x * c) by rw [Nat.mul_add x, Nat.mul_add b, Nat.mul_left_comm x b c]; omega]
  rw [Nat.add_mul_div_left _ _ hb]
  omega
theorem mul_dig (k T x y i : Nat) : dig k (T + x * y) i = (dig k T i + x * dig k y i + mulCarry k T x y i) % 2 ^ k := by
  unfold dig
  rw [mul_div]
  have h1 := Nat.div_add_mod (T / 2 ^ (k * i)) (2 ^ k)
  have h2 := Nat.div_add_mod (y / 2 ^ (k * i)) (2 ^ k)
  generalize T / 2 ^ (k * i) % 2 ^ k = t at *
  generalize y / 2 ^ (k * i) % 2 ^ k = u at *
  generalize T / 2 ^ (k * i) / 2 ^ k = a at *
  generalize y / 2 ^ (k * i) / 2 ^ k = c at *
  rw [← h1, ← h2]
  rw [show 2 ^ k * a + t + x * (2 ^ k * c + u) + mulCarry k T x y i = t + x * u + mulCarry k T x y i + 2 ^ k * (a + x * c) by rw [Nat.mul_add x, Nat.mul_add (2 ^ k), Nat.mul_left_comm x (2 ^ k) c]; omega]
  exact Nat.add_mul_mod_self_left _ _ _
theorem mulCarry_succ (k T x y i : Nat) : mulCarry k T x y (i + 1) = (dig k T i + x * dig k y i + mulCarry k T x y i) / 2 ^ k := by
  unfold mulCarry
  rw [mod_succ, mod_succ, pow_succ_mul, ← Nat.div_div_eq_div_mul]
  rw [show T % 2 ^ (k * i) + 2 ^ (k * i) * dig k T i + x * (y % 2 ^ (k * i) + 2 ^ (k * i) * dig k y i) = T % 2 ^ (k * i) + x * (y % 2 ^ (k * i)) + 2 ^ (k * i) * (dig k T i + x * dig k y i) by rw [Nat.mul_add x, Nat.mul_add (2 ^ (k * i)), Nat.mul_left_comm x]; omega]
  rw [Nat.add_mul_div_left _ _ (Nat.two_pow_pos _), Nat.add_comm]
theorem mul_step (B p c t : Nat) (hB : 0 < B) : (t + p + c) % B = (t + (p % B + c) % B) % B ∧ (t + p + c) / B = p / B + (p % B + c) / B + (t + (p % B + c) % B) / B := by
  have h1 := Nat.div_add_mod p B
  have h2 := Nat.div_add_mod (p % B + c) B
  generalize p / B = hi at *
  generalize hl : p % B = lo at *
  generalize (lo + c) / B = c1 at *
  generalize (lo + c) % B = lo1 at *
  rw [show t + p + c = (t + lo1) + B * (hi + c1) by rw [Nat.mul_add]; omega]
  rw [Nat.add_mul_mod_self_left, Nat.add_mul_div_left _ _ hB]
  exact ⟨rfl, by omega⟩
set_option maxRecDepth 100000 in
set_option maxHeartbeats 4000000 in
theorem addmul_any (g o nt ct N : Nat) (B : Option Addr) (m cb : Nat) (f : Nat → Nat) (T x y : Nat) (w : World) (hrow : w.rowIs g 62 N (fun j => .int .u64 (f j : Nat))) (hT : ∀ j, j < m → f (o + j) = dig 64 T j) (hx : x < 2 ^ 64)
    (hN : o + m ≤ N) (hnt : m ≤ nt) (hm : m ≤ 1099511627776) (hB : Digs w B .u64 64 y m) (hne : ∀ b p, B = some ⟨b, p, none⟩ → 0 < m → b ≠ g) :
    Calls Try.prog 103 #[.slice (some ⟨g, o, none⟩) nt ct, .slice B m cb, .int .u64 (x : Nat)] w fun e w' => e = .returned (.int .u64 (mulCarry 64 T x y m : Nat)) ∧
      w'.rowIs g 62 N (fun j => .int .u64 ((if o ≤ j ∧ j < o + m then dig 64 (T + x * y) (j - o) else f j : Nat) : Int)) ∧ w.grownBy w' (some g) := by
  have HROW := Lib.hid hrow
  have HT := Lib.hid hT
  have HX := Lib.hid hx
  have HB := Lib.hid hB
  have HNE := Lib.hid hne
  clear hrow hT hx hB hne
  go_enter Try.func103, Try.ntmps103
  go_wp2_with fail
  go_loopw [7, 15] (fun v7 v15 wr => ∃ k : Nat, k ≤ m ∧ v15 = .int .i64 k ∧ v7 = .int .u64 (mulCarry 64 T x y k : Nat) ∧ wr.rowIs g 62 N (fun j => .int .u64 ((if o ≤ j ∧ j < o + k then dig 64 (T + x * y) (j - o) else f j : Nat) : Int)) ∧ w.grownBy wr (some g)) (fun _ v15 _ => m - (intOf v15).toNat)
  case atStart =>
    exact ⟨0, Nat.zero_le _, rfl, by rw [mulCarry_zero]; rfl, HROW.out.congr (fun j _ => by rw [if_neg (by omega)]), World.grownBy.refl _ _⟩
  case round =>
    obtain ⟨k, hk, rfl, rfl, hrw, hgr⟩ := hrel
    by_cases hlt : k < m
    · obtain ⟨bB, oB, rfl, hltB, hcB⟩ := HB.out k hlt
      have hnb := HNE.out bB oB rfl (by omega)
      have gB : wr.cell? ⟨bB, oB + k, none⟩ = some (.int .u64 (dig 64 y k : Nat)) := (World.cell?_of_block (hgr.block bB hltB (by simpa using hnb))).trans hcB
      have r0 : wr.cell? ⟨g, o + k, none⟩ = some (.int .u64 ((if o ≤ o + k ∧ o + k < o + k then dig 64 (T + x * y) (o + k - o) else f (o + k) : Nat) : Int)) := hrw.cell (by omega)
      rw [if_neg (by omega), HT.out k hlt] at r0
      have fr := hrw.frozen (o + k)
      have hc := mulCarry_lt (k := 64) (T := T) (y := y) (i := k) HX.out
      have hc' := mulCarry_lt (k := 64) (T := T) (y := y) (i := k + 1) HX.out
      have hmul := mul64_any x (dig 64 y k) HX.out (dig_lt 64 y k)
      obtain ⟨st1, st2⟩ := mul_step (2 ^ 64) (x * dig 64 y k) (mulCarry 64 T x y k) (dig 64 T k) (Nat.two_pow_pos 64)
      rw [← mul_dig] at st1
      rw [← mulCarry_succ] at st2
      have HRW := Lib.hid hrw
      clear hcB hrw hnb
      generalize hd1 : mulCarry 64 T x y k = c at hc st1 st2 ⊢
      generalize hd2 : mulCarry 64 T x y (k + 1) = c' at hc' st2
      have HC := Lib.hid hd2
      generalize hd3 : dig 64 T k = t at r0 st1 st2
      generalize hd4 : dig 64 (T + x * y) k = d at st1
      have HD := Lib.hid hd4
      generalize hd5 : dig 64 y k = yk at gB hmul st1 st2
      generalize hd6 : x * yk / 2 ^ 64 = hi at hmul st2
      generalize hd7 : x * yk % 2 ^ 64 = lo at hmul st1 st2
      have add1 := fun W => add64_run lo c 0 (by omega) W
      simp only [Nat.add_zero] at add1
      generalize hd8 : (lo + c) % 2 ^ 64 = lo1 at add1 st1 st2
      generalize hd9 : (lo + c) / 2 ^ 64 = c1 at add1 st2
      have add2 := fun W => add64_run t lo1 0 (by omega) W
      simp only [Nat.add_zero] at add2
      rw [← st1] at add2
      generalize hd10 : (t + lo1) / 2 ^ 64 = c2 at add2 st2
      have add1' : ∀ W, (callFunc 102 #[.int .u64 (lo : Nat), .int .u64 (c : Nat), .int .u64 0]).run Try.prog W = .ok (.value (.tuple #[.int .u64 (lo1 : Nat), .int .u64 (c1 : Nat)])) W := add1
      have add2' : ∀ W, (callFunc 102 #[.int .u64 (t : Nat), .int .u64 (lo1 : Nat), .int .u64 0]).run Try.prog W = .ok (.value (.tuple #[.int .u64 (d : Nat), .int .u64 (c2 : Nat)])) W := add2
      have hb1 : hi + c1 ≤ 18446744073709551615 := by omega
      have hb2 : hi + c1 + c2 ≤ 18446744073709551615 := by omega
      have HS := Lib.hid st2
      have HMUL := Lib.hid hmul
      clear hd1 hd2 hd3 hd4 hd5 hd6 hd7 hd8 hd9 hd10 st1 st2 add1 add2 hmul
      go_wp2_with fail
      refine (HMUL.out _).mono ?_
      rintro e w1 ⟨rfl, rfl⟩
      go_wp2_with fail
      go_roundw
      case rel =>
        refine ⟨k + 1, by omega, by go_num, ?_, ?_, only_setCell hgr (.inl rfl) _⟩
        · rw [HC.out, HS.out, Int.natCast_add, Int.natCast_add]
        · refine (HRW.out.set (o + k) (.int .u64 (d : Nat))).congr (fun j _ => ?_)
          by_cases h1 : j = o + k
          · subst h1
            rw [if_pos rfl, if_pos (by omega), Nat.add_sub_cancel_left, HD.out]
          · rw [if_neg h1]
            by_cases h2 : o ≤ j ∧ j < o + k
            · rw [if_pos h2, if_pos (by omega)]
            · rw [if_neg h2, if_neg (by omega)]
      case measure => simp [intOf]; omega
    · obtain rfl : k = m := by omega
      have HRW := Lib.hid hrw
      clear hrw
      go_wp2
      go_ret
      exact ⟨rfl, HRW.out, hgr⟩
end Go.Proofs.Yteikhnmmkanndaa
namespace Go.Proofs.Yteikhnmmkanndaa
theorem sub_step {B s dz dy c : Nat} (hz : dz < B) (hs : s = dz + dy + c) (hd : dy + c ≤ B) : dz = (s % B + B - dy - c) % B ∧ s / B = if s % B < dy + c then 1 else 0 := by
  rcases Nat.lt_or_ge s B with h | h
  · rw [Nat.mod_eq_of_lt h, Nat.div_eq_of_lt h, if_neg (by omega)]
    refine ⟨?_, rfl⟩
    rw [show s + B - dy - c = dz + B by omega, Nat.add_mod_right, Nat.mod_eq_of_lt hz]
  · have h1 : s % B = s - B := by
      rw [Nat.mod_eq_sub_mod h, Nat.mod_eq_of_lt (by omega)]
    have h2 : s / B = 1 := by
      rw [Nat.div_eq_sub_div (by omega) h, Nat.div_eq_of_lt (by omega)]
    rw [h1, h2, if_pos (by omega)]
    refine ⟨?_, rfl⟩
    rw [show s - B + B - dy - c = dz by omega, Nat.mod_eq_of_lt hz]
theorem sub_dig {k : Nat} (z y i : Nat) : dig k z i = (dig k (z + y) i + 2 ^ k - dig k y i - carryOf k z y i) % 2 ^ k := by
  have h1 := dig_lt k z i
  have h2 := dig_lt k y i
  have h3 := carry_le k z y i
  rw [sum_dig]
  exact (sub_step h1 rfl (by omega)).1
theorem borrow_succ {k : Nat} (z y i : Nat) : carryOf k z y (i + 1) = if dig k (z + y) i < dig k y i + carryOf k z y i then 1 else 0 := by
  have h1 := dig_lt k z i
  have h2 := dig_lt k y i
  have h3 := carry_le k z y i
  rw [sum_dig, carry_succ]
  exact (sub_step h1 rfl (by omega)).2
theorem carry_top {k z y n : Nat} (hz : z < 2 ^ (k * n)) (hy : y < 2 ^ (k * n)) : carryOf k z y n = (z + y) / 2 ^ (k * n) := by
  unfold carryOf
  rw [Nat.mod_eq_of_lt hz, Nat.mod_eq_of_lt hy]
def less (k n p y : Nat) : Nat := if y ≤ p then p - y else p + 2 ^ (k * n) - y
theorem less_lt {k n p y : Nat} (hp : p < 2 ^ (k * n)) : less k n p y < 2 ^ (k * n) := by
  unfold less
  split <;> omega
theorem less_add {k n p y : Nat} (hy : y < 2 ^ (k * n)) : less k n p y + y = p ∨ less k n p y + y = p + 2 ^ (k * n) := by
  unfold less
  split
  · exact .inl (by omega)
  · exact .inr (by omega)
theorem less_dig {k n p y i : Nat} (hi : i < n) (hy : y < 2 ^ (k * n)) : dig k (less k n p y + y) i = dig k p i := by
  rcases less_add (k := k) (p := p) hy with h | h
  · rw [h]
  · rw [h, ← dig_mod (x := p + 2 ^ (k * n)) hi, Nat.add_mod_right, dig_mod hi]
theorem less_over {k n p y : Nat} (hp : p < 2 ^ (k * n)) (hy : y < 2 ^ (k * n)) : carryOf k (less k n p y) y n = if p < y then 1 else 0 := by
  rw [carry_top (less_lt hp) hy]
  have hB := Nat.two_pow_pos (k * n)
  unfold less
  split
  · rename_i h
    rw [if_neg (by omega), show p - y + y = p by omega, Nat.div_eq_of_lt hp]
  · rename_i h
    rw [if_pos (by omega), show p + 2 ^ (k * n) - y + y = p + 2 ^ (k * n) by omega, Nat.add_div_right _ hB, Nat.div_eq_of_lt hp]
theorem guess_first {B q top next u2 u1 u0 : Nat} (ht : 0 < top) (h0 : u0 < B) (h : q * (top * B + next) ≤ (u2 * B + u1) * B + u0) : q ≤ (u2 * B + u1) / top := by
  rw [Nat.le_div_iff_mul_le ht]
  have h1 : q * top * B ≤ q * (top * B + next) := by
    rw [Nat.mul_assoc]
    exact Nat.mul_le_mul_left _ (by omega)
  rcases Nat.lt_or_ge (u2 * B + u1) (q * top) with h2 | h2
  · have h3 : (u2 * B + u1 + 1) * B ≤ q * top * B := Nat.mul_le_mul_right _ h2
    rw [Nat.add_mul, Nat.one_mul] at h3
    omega
  · exact h2
theorem guess_next {B q x top next left s u0 : Nat} (h : q * (top * B + next) ≤ s * B + u0) (hx : x * top + left = s) (hq : q ≤ x) (hn : left * B + u0 < x * next) : q ≤ x - 1 := by
  rcases Nat.lt_or_ge q x with h1 | h1
  · omega
  · obtain rfl : q = x := by omega
    exfalso
    rw [← hx, Nat.mul_add, Nat.add_mul, ← Nat.mul_assoc] at h
    omega
theorem guess_of {U d q n : Nat} (h : q * d ≤ U) : q * (d / 2 ^ (64 * n)) ≤ U / 2 ^ (64 * n) := by
  rw [Nat.le_div_iff_mul_le (Nat.two_pow_pos _), Nat.mul_assoc]
  exact Nat.le_trans (Nat.mul_le_mul_left _ (Nat.div_mul_le_self _ _)) h
theorem top_two {d n : Nat} (h : d < 2 ^ (64 * (n + 2))) : d / 2 ^ (64 * n) = dig 64 d (n + 1) * 2 ^ 64 + dig 64 d n := by
  rw [div_succ 64 d n, dig_top (i := n + 1) h]
theorem top_three {d n : Nat} (h : d < 2 ^ (64 * (n + 3))) : d / 2 ^ (64 * n) = (dig 64 d (n + 2) * 2 ^ 64 + dig 64 d (n + 1)) * 2 ^ 64 + dig 64 d n := by
  rw [div_succ 64 d n, top_two (n := n + 1) h]
end Go.Proofs.Yteikhnmmkanndaa
namespace Go.Proofs.Yteikhnmmkanndaa
open Go.RowKit
def low (x y k : Nat) : Nat := x % 2 ^ (64 * k) * y
theorem low_zero (x y : Nat) : low x y 0 = 0 := by unfold low; rw [Nat.mul_zero, Nat.pow_zero, Nat.mod_one, Nat.zero_mul]
theorem low_succ (x y k : Nat) : low x y (k + 1) = low x y k + 2 ^ (64 * k) * (dig 64 x k * y) := by
  unfold low
  rw [mod_succ, Nat.add_mul, Nat.mul_assoc]
theorem low_lt {x y k m : Nat} (hy : y < 2 ^ (64 * m)) : low x y k < 2 ^ (64 * (k + m)) := by
  unfold low
  rw [Nat.mul_add, Nat.pow_add]
  exact Nat.mul_lt_mul'' (Nat.mod_lt _ (Nat.two_pow_pos _)) hy
theorem low_digs {x y k m : Nat} (hy : y < 2 ^ (64 * m)) (j : Nat) :
    (if j = k + m then mulCarry 64 (low x y k / 2 ^ (64 * k)) (dig 64 x k) y m else if k ≤ j ∧ j < k + m then dig 64 (low x y k / 2 ^ (64 * k) + dig 64 x k * y) (j - k) else dig 64 (low x y k) j) = dig 64 (low x y (k + 1)) j := by
  have hq : low x y (k + 1) / 2 ^ (64 * k) = low x y k / 2 ^ (64 * k) + dig 64 x k * y := by
    rw [low_succ, Nat.add_mul_div_left _ _ (Nat.two_pow_pos _)]
  have hT : low x y k / 2 ^ (64 * k) < 2 ^ (64 * m) := by
    rw [Nat.div_lt_iff_lt_mul (Nat.two_pow_pos _), ← Nat.pow_add, ← Nat.mul_add, Nat.add_comm m k]
    exact low_lt hy
  by_cases h1 : j = k + m
  · rw [if_pos h1]
    subst h1
    rw [← dig_div, hq]
    have hc := mulCarry_lt (k := 64) (T := low x y k / 2 ^ (64 * k)) (y := y) (i := m) (dig_lt 64 x k)
    unfold mulCarry at hc ⊢
    rw [Nat.mod_eq_of_lt hT, Nat.mod_eq_of_lt hy] at hc ⊢
    unfold dig at hc ⊢
    exact (Nat.mod_eq_of_lt hc).symm
  · rw [if_neg h1]
    by_cases h2 : k ≤ j ∧ j < k + m
    · rw [if_pos h2, ← hq, dig_div, show k + (j - k) = j by omega]
    · rw [if_neg h2]
      rcases Nat.lt_or_ge j k with h3 | h3
      · rw [← dig_mod h3, ← dig_mod (x := low x y (k + 1)) h3, low_succ, Nat.add_mul_mod_self_left]
      · rw [dig_zero_of_lt, dig_zero_of_lt]
        · exact Nat.lt_of_lt_of_le (low_lt hy) (Nat.pow_le_pow_right (by decide) (by omega))
        · exact Nat.lt_of_lt_of_le (low_lt hy) (Nat.pow_le_pow_right (by decide) (by omega))
set_option maxRecDepth 100000 in
set_option maxHeartbeats 4000000 in
theorem nmul_any (va vb : Value) (x y : Nat) (w : World) (ha : N64 w va x) (hb : N64 w vb y) (hx : wl 64 x ≤ 1099511627776) (hy : wl 64 y ≤ 1099511627776) :
    Calls Try.prog 25 #[va, vb] w fun e w' => ∃ v, e = .returned v ∧ N64 w' v (x * y) ∧ Below w.heap.size w w' := by
  obtain ⟨A, ca, rfl, hla, hma, hda⟩ := ha
  obtain ⟨B, cb, rfl, hlb, hmb, hdb⟩ := hb
  have HDA := Lib.hid hda
  have HDB := Lib.hid hdb
  have HXL := Lib.hid (wl_lt (k := 64) (by decide) x)
  have HYL := Lib.hid (wl_lt (k := 64) (by decide) y)
  clear hda hdb
  unfold maxLen at hma hmb
  obtain ⟨n, hn⟩ : ∃ n, wl 64 x = n := ⟨_, rfl⟩
  obtain ⟨m, hm⟩ : ∃ m, wl 64 y = m := ⟨_, rfl⟩
  rw [hn] at hla hx HDA HXL ⊢
  rw [hm] at hlb hy HDB HYL ⊢
  clear hn hm
  have hmk := run_make_row' (P := Try.prog) 24 62 (.int .u64 0) 8 Try.underlying24 Try.info62 rfl .i64 .i64 (n + m) (by omega) (by omega)
  simp only [Int.natCast_add] at hmk
  have e0 := ((Blk.new w 26 #[.slice A n ca]).alloc (.cells #[.slice B m cb] 26)).alloc (.cells #[.slice none 0 0] 26)
  have e1 := (Blk.new (w.alloc (.cells #[.slice A n ca] 26)) 26 #[.slice B m cb]).alloc (.cells #[.slice none 0 0] 26)
  have e2 := Blk.new ((w.alloc (.cells #[.slice A n ca] 26)).alloc (.cells #[.slice B m cb] 26)) 26 #[.slice none 0 0]
  simp only [World.size_alloc] at e1 e2
  have hbS := cba (cba (cba (Below.refl _ w) (.cells #[.slice A n ca] 26)) (.cells #[.slice B m cb] 26)) (.cells #[.slice none 0 0] 26)
  have hsz0 : w.heap.size + 3 ≤ (((w.alloc (.cells #[.slice A n ca] 26)).alloc (.cells #[.slice B m cb] 26)).alloc (.cells #[.slice none 0 0] 26)).heap.size := by simp
  go_enter Try.func25, Try.ntmps25
  go_upto_region 1 with (fail)
  obtain ⟨S, hS⟩ : ∃ S, ((w.alloc (.cells #[.slice A n ca] 26)).alloc (.cells #[.slice B m cb] 26)).alloc (.cells #[.slice none 0 0] 26) = S := ⟨_, rfl⟩
  rw [hS] at e0 e1 e2 hbS hsz0 ⊢
  clear hS
  have hrow := World.rowIs_made S (.int .u64 0) (n + m) 62
  have q0 : S.cell? ⟨w.heap.size, 0, none⟩ = some (.slice A n ca) := e0.cell 0
  have q1 : S.cell? ⟨w.heap.size + 1, 0, none⟩ = some (.slice B m cb) := e1.cell 0
  have q0' : (S.alloc (.cells (madeCells #[.int .u64 0] (n + m)) 62)).cell? ⟨w.heap.size, 0, none⟩ = some (.slice A n ca) := (e0.alloc _).cell 0
  have HROW := Lib.hid hrow
  have S1 := Lib.hid e1
  have S2 := Lib.hid e2
  clear hrow e0 e1 e2
  go_wp2_with fail
  clear q0 q0' q1
  go_loopw [19] (fun v19 wr => ∃ k : Nat, k ≤ n ∧ v19 = .int .i64 k ∧ wr.rowIs S.heap.size 62 (n + m) (fun j => .int .u64 (dig 64 (low x y k) j : Nat)) ∧ Below S.heap.size S wr) (fun v19 _ => n - (intOf v19).toNat)
  case atStart =>
    exact ⟨0, Nat.zero_le _, rfl, HROW.out.congr (fun j _ => by rw [low_zero, dig_zero_of_lt (Nat.two_pow_pos _)]; rfl), cba (Below.refl _ _) _⟩
  case round =>
    obtain ⟨k, hk, rfl, hrw, hbr⟩ := hrel
    have hg1 : wr.cell? ⟨w.heap.size + 1, 0, none⟩ = some (.slice B m cb) := (blk_below S1.out hbr).cell 0
    by_cases hlt : k < n
    · obtain ⟨bA, oA, rfl, hltA, hcA⟩ := HDA.out k hlt
      have gA : wr.cell? ⟨bA, oA + k, none⟩ = some (.int .u64 (dig 64 x k : Nat)) := (hbr.cell (p := ⟨bA, oA + k, none⟩) (show bA < S.heap.size by omega)).trans ((hbS.cell (p := ⟨bA, oA + k, none⟩) hltA).trans hcA)
      clear hcA
      have HNXT := Lib.hid (fun j => low_digs (x := x) (k := k) HYL.out j)
      have haddm := addmul_any S.heap.size k (n + m - k) (n + m - k) (n + m) B m cb (dig 64 (low x y k)) (low x y k / 2 ^ (64 * k)) (dig 64 x k) y wr.drew hrw.drew (fun j _ => (dig_div _ _ _ _).symm) (dig_lt 64 x k) (by omega) (by omega) hy
        ((HDB.out.below hbS).below (n := m) hbr.drew) (fun b p e hm0 => by
          obtain ⟨b', o', e', hlt', _⟩ := HDB.out 0 hm0
          rw [e] at e'
          cases e'
          omega)
      have HADD := Lib.hid haddm
      have fr := hrw.frozen (k + m)
      have HRW := Lib.hid hrw
      have i0 : (0 : Int) ≤ (k : Int) := by omega
      have i6 : ¬ (n + m = k) := by omega
      have i1 : (k : Int) ≤ (n : Int) + (m : Int) := by omega
      have i2 : (k : Int) + (m : Int) < (n : Int) + (m : Int) := by omega
      have i3 : (0 : Int) ≤ (k : Int) + (m : Int) := by omega
      have i4 : IntKind.i64.wrap ((k : Int) + (m : Int)) = (k : Int) + (m : Int) := IntWalk.i64_in _ (by omega)
      have i5 : ((k : Int) + (m : Int)).toNat = k + m := by omega
      generalize hd1 : dig 64 x k = xk at gA HADD
      have HXK := Lib.hid hd1
      clear haddm hrw hd1
      go_wp2_with fail
      have HG1 := Lib.hid (blk_below S1.out hbr)
      have hne1 : w.heap.size + 1 ≠ S.heap.size := by omega
      go_region_held3 (fun w' => w'.cell? ⟨w.heap.size + 1, 0, none⟩ = some (.slice B m cb)) ((first | exact HG1.out.drew.cell 0 | exact b2.cell 0 | exact (b2.far (p := ⟨S.heap.size, k + m, none⟩) hne1 _).cell 0)) (first | (go_at_call 103; (with_reducible refine HADD.out.mono ?_); rintro e w2 ⟨rfl, hr2, hg2⟩; have b2 := HG1.out.drew.grown hg2 (by simpa using hne1); have rr := hr2.cell (i := k + m) (by omega); have fr2 := hr2.frozen (k + m)))
      have HR2 := Lib.hid hr2
      have hbb2 := (below_drewN hbr 1).grown hg2 (by have := hbr.size; exact this) (fun z e => by cases e; exact Nat.le_refl _)
      clear hr2 rr fr2 fr i1 i2 i3 i4 i5 i6
      go_wp2
      go_roundw
      case rel =>
        refine ⟨k + 1, by omega, by go_num, ?_, hbb2.setCell (p := ⟨S.heap.size, k + m, none⟩) (Nat.le_refl _) _⟩
        refine (HR2.out.set (k + m) (.int .u64 (mulCarry 64 (low x y k / 2 ^ (64 * k)) xk y m : Nat))).congr (fun j _ => ?_)
        rw [← HNXT.out j, HXK.out]
        by_cases h1 : j = k + m
        · rw [if_pos h1, if_pos h1]
        · rw [if_neg h1, if_neg h1]
      case measure => simp [intOf]; omega
    · obtain rfl : k = n := by omega
      have HLOW := Lib.hid (show low x y k = x * y by unfold low; rw [Nat.mod_eq_of_lt HXL.out])
      have HLT := Lib.hid (low_lt (x := x) (k := k) HYL.out)
      rw [HLOW.out] at HLT
      have HRW := Lib.hid hrw
      clear hrw
      go_wp2_with fail
      refine (trim_any _ _ _ (x * y) _ (Nat.le_refl _) (by unfold maxLen; omega) (Digs.of_row HRW.out (Nat.le_refl _) (fun i hi => by rw [HLOW.out])) HLT.out).mono ?_
      rintro e w4 ⟨v, rfl, ⟨A4, cap4, rfl, hl4, hm4, hd4⟩, hb4⟩
      have s4 := (blk_below S2.out hbr).below hb4 (by have := hbr.size; omega)
      have k4 : w4.cell? ⟨w.heap.size + 1 + 1, 0, none⟩ = some (.slice none 0 0) := s4.cell 0
      have f4 := s4.frozen 0
      have HD := Lib.hid (hd4.put s4 (.slice A4 (wl 64 (x * y)) cap4))
      have hbb := (hbS.trans (hbr.mono (by omega))).trans (hb4.mono (by have := hbr.size; omega))
      have hle : w.heap.size ≤ w.heap.size + 1 + 1 := by omega
      clear hd4 hg1
      go_wp2
      exact bodyPost_ret (v := .agg #[.slice A4 (wl 64 (x * y)) cap4]) (by simp [results, Try.results25, go_sem, k4]) rfl ⟨_, rfl, ⟨A4, cap4, rfl, hl4, hm4, HD.out⟩, hbb.setCell (p := ⟨w.heap.size + 1 + 1, 0, none⟩) hle _⟩
end Go.Proofs.Yteikhnmmkanndaa
namespace Go.Proofs.Yteikhnmmkanndaa
open Go.RowKit
theorem sub64_dig (z y i : Nat) (w : World) : (callFunc 119 #[.int .u64 (dig 64 (z + y) i : Nat), .int .u64 (dig 64 y i : Nat), .int .u64 (carryOf 64 z y i : Nat)]).run Try.prog w =
    .ok (.value (.tuple #[.int .u64 (dig 64 z i : Nat), .int .u64 (carryOf 64 z y (i + 1) : Nat)])) w := by
  rw [sub64_run _ _ _ (carry_le 64 z y i), borrow_succ, ← sub_dig]
set_option maxRecDepth 100000 in
set_option maxHeartbeats 4000000 in
theorem nsub_any (va vb : Value) (z y : Nat) (w : World) (ha : N64 w va (z + y)) (hb : N64 w vb y) (hx : wl 64 (z + y) ≤ 1099511627776) :
    Calls Try.prog 58 #[va, vb] w fun e w' => ∃ v, e = .returned (.tuple #[v, .int .i64 0]) ∧ N64 w' v z ∧ Below w.heap.size w w' := by
  have HA := Lib.hid ha
  have HB := Lib.hid hb
  have hwl : wl 64 y ≤ wl 64 (z + y) := wl_mono (by decide) (by omega)
  obtain ⟨A, ca, rfl, hla, hma, hda⟩ := ha
  obtain ⟨B, cb, rfl, hlb, hmb, hdb⟩ := hb
  have HDA := Lib.hid hda
  have HDB := Lib.hid hdb
  have HXL := Lib.hid (wl_lt (k := 64) (by decide) (z + y))
  have HYL := Lib.hid (wl_lt (k := 64) (by decide) y)
  have hc0 : (0 : Int) ≤ cmpN (z + y) y := by
    rcases Nat.eq_zero_or_pos z with h | h
    · rw [h, Nat.zero_add, cmpN_self]; decide
    · rw [cmpN_gt (by omega)]; decide
  clear hda hdb
  unfold maxLen at hma hmb
  obtain ⟨n, hn⟩ : ∃ n, wl 64 (z + y) = n := ⟨_, rfl⟩
  obtain ⟨m, hm⟩ : ∃ m, wl 64 y = m := ⟨_, rfl⟩
  rw [hn] at hwl hla hx HDA HXL HA
  rw [hm] at hwl hlb HDB HYL HB
  rw [hn, hm]
  obtain ⟨cm, hcm⟩ : ∃ cm, cmpN (z + y) y = cm := ⟨_, rfl⟩
  rw [hcm] at hc0
  have HCM := Lib.hid hcm
  clear hn hm hcm
  have hmk := run_make_row' (P := Try.prog) 24 62 (.int .u64 0) 8 Try.underlying24 Try.info62 rfl .i64 .i64 n (by omega) (by omega)
  have e0 := ((Blk.new w 26 #[.slice A n ca]).alloc (.cells #[.slice B m cb] 26)).alloc (.cells #[.slice none 0 0] 26)
  have e1 := (Blk.new (w.alloc (.cells #[.slice A n ca] 26)) 26 #[.slice B m cb]).alloc (.cells #[.slice none 0 0] 26)
  have e2 := Blk.new ((w.alloc (.cells #[.slice A n ca] 26)).alloc (.cells #[.slice B m cb] 26)) 26 #[.slice none 0 0]
  simp only [World.size_alloc] at e1 e2
  have hb0 := cba (cba (cba (Below.refl _ w) (.cells #[.slice A n ca] 26)) (.cells #[.slice B m cb] 26)) (.cells #[.slice none 0 0] 26)
  have hsz0 : w.heap.size + 3 ≤ (((w.alloc (.cells #[.slice A n ca] 26)).alloc (.cells #[.slice B m cb] 26)).alloc (.cells #[.slice none 0 0] 26)).heap.size := by simp
  go_enter Try.func58, Try.ntmps58
  go_wp2_with fail
  obtain ⟨X0, hX0⟩ : ∃ X0, ((w.alloc (.cells #[.slice A n ca] 26)).alloc (.cells #[.slice B m cb] 26)).alloc (.cells #[.slice none 0 0] 26) = X0 := ⟨_, rfl⟩
  rw [hX0] at e0 e1 e2 hb0 hsz0 ⊢
  clear hX0
  refine (ncmp_any _ _ _ _ _ (HA.out.below hb0) (HB.out.below hb0)).mono ?_
  rintro e S ⟨rfl, hb1⟩
  rw [HCM.out]
  have s0 := blk_below e0 hb1
  have s1 := blk_below e1 hb1
  have s2 := blk_below e2 hb1
  have hbS := cbt hb0 hb1
  have hg : w.heap.size + 3 ≤ S.heap.size := by have := hb1.size; omega
  clear e0 e1 e2
  have hrow := World.rowIs_made S (.int .u64 0) n 62
  have q0 : S.cell? ⟨w.heap.size, 0, none⟩ = some (.slice A n ca) := s0.cell 0
  have q0' : (S.alloc (.cells (madeCells #[.int .u64 0] n) 62)).cell? ⟨w.heap.size, 0, none⟩ = some (.slice A n ca) := (s0.alloc _).cell 0
  have HROW := Lib.hid hrow
  have S0 := Lib.hid s0
  have S1 := Lib.hid s1
  have S2 := Lib.hid s2
  clear hrow s0 s1 s2 hb0 hb1 hsz0
  go_wp2_with fail
  clear q0 q0'
  go_loopw [7, 22] (fun v7 v22 wr => ∃ k : Nat, k ≤ n ∧ v22 = .int .i64 k ∧ v7 = .int .u64 (carryOf 64 z y k : Nat) ∧ wr.rowIs S.heap.size 62 n (fun j => .int .u64 ((if j < k then dig 64 z j else 0 : Nat) : Int)) ∧
    Below S.heap.size S wr) (fun _ v22 _ => n - (intOf v22).toNat)
  case atStart =>
    exact ⟨0, Nat.zero_le _, rfl, by rw [carry_zero]; rfl, HROW.out.congr (fun j _ => by simp), cba (Below.refl _ _) _⟩
  case round =>
    obtain ⟨k, hk, rfl, rfl, hrw, hbr⟩ := hrel
    have g0 : wr.cell? ⟨w.heap.size, 0, none⟩ = some (.slice A n ca) := (blk_below S0.out hbr).cell 0
    have g1 : wr.cell? ⟨w.heap.size + 1, 0, none⟩ = some (.slice B m cb) := (blk_below S1.out hbr).cell 0
    by_cases hlt : k < n
    · obtain ⟨bA, oA, rfl, hltA, hcA⟩ := HDA.out k hlt
      have gA : wr.cell? ⟨bA, oA + k, none⟩ = some (.int .u64 (dig 64 (z + y) k : Nat)) := (hbr.cell (p := ⟨bA, oA + k, none⟩) (show bA < S.heap.size by omega)).trans ((hbS.cell (p := ⟨bA, oA + k, none⟩) hltA).trans hcA)
      have r0 : wr.cell? ⟨S.heap.size, k, none⟩ = some (.int .u64 ((if k < k then dig 64 z k else 0 : Nat) : Int)) := hrw.cell (by omega)
      rw [if_neg (by omega)] at r0
      have fr := hrw.frozen k
      have hsub := sub64_dig z y k
      have HRW := Lib.hid hrw
      clear hcA hrw
      by_cases hkm : k < m
      · obtain ⟨bB, oB, rfl, hltB, hcB⟩ := HDB.out k hkm
        have gB : wr.cell? ⟨bB, oB + k, none⟩ = some (.int .u64 (dig 64 y k : Nat)) := (hbr.cell (p := ⟨bB, oB + k, none⟩) (show bB < S.heap.size by omega)).trans ((hbS.cell (p := ⟨bB, oB + k, none⟩) hltB).trans hcB)
        clear hcB
        generalize hd1 : dig 64 (z + y) k = d1 at gA hsub
        generalize hd2 : dig 64 y k = d2 at gB hsub
        generalize hd3 : carryOf 64 z y k = c1 at hsub ⊢
        generalize hd4 : carryOf 64 z y (k + 1) = c2 at hsub
        have HC2 := Lib.hid hd4
        generalize hd5 : dig 64 z k = d3 at hsub
        have HD := Lib.hid hd5
        clear hd1 hd2 hd3 hd4 hd5
        go_wp2_with fail
        go_roundw
        case rel => exact ⟨k + 1, by omega, by go_num, by rw [HC2.out], row_upto HRW.out HD.out.symm, hbr.setCell (p := ⟨S.heap.size, k, none⟩) (Nat.le_refl _) _⟩
        case measure => simp [intOf]; omega
      · have hz : dig 64 y k = 0 := dig_zero_of_lt (Nat.lt_of_lt_of_le HYL.out (Nat.pow_le_pow_right (by decide) (by omega)))
        rw [hz] at hsub
        have hsub : ∀ W, (callFunc 119 #[.int .u64 (dig 64 (z + y) k : Nat), .int .u64 0, .int .u64 (carryOf 64 z y k : Nat)]).run Try.prog W = .ok (.value (.tuple #[.int .u64 (dig 64 z k : Nat), .int .u64 (carryOf 64 z y (k + 1) : Nat)])) W := hsub
        generalize hd1 : dig 64 (z + y) k = d1 at gA hsub
        generalize hd3 : carryOf 64 z y k = c1 at hsub ⊢
        generalize hd4 : carryOf 64 z y (k + 1) = c2 at hsub
        have HC2 := Lib.hid hd4
        generalize hd5 : dig 64 z k = d3 at hsub
        have HD := Lib.hid hd5
        clear hd1 hd3 hd4 hd5 hz
        go_wp2_with fail
        go_roundw
        case rel => exact ⟨k + 1, by omega, by go_num, by rw [HC2.out], row_upto HRW.out HD.out.symm, hbr.setCell (p := ⟨S.heap.size, k, none⟩) (Nat.le_refl _) _⟩
        case measure => simp [intOf]; omega
    · obtain rfl : k = n := by omega
      have HLT := Lib.hid (Nat.lt_of_le_of_lt (show z ≤ z + y by omega) HXL.out)
      have HRW := Lib.hid hrw
      clear hrw
      go_wp2_with fail
      refine (trim_any _ _ _ z _ (Nat.le_refl _) (by unfold maxLen; omega) (Digs.of_row HRW.out (Nat.le_refl _) (fun i hi => by rw [if_pos hi])) HLT.out).mono ?_
      rintro e w4 ⟨v, rfl, ⟨A4, cap4, rfl, hl4, hm4, hd4⟩, hb4⟩
      have s4 := (blk_below S2.out hbr).below hb4 (by have := hbr.size; omega)
      have k4 : w4.cell? ⟨w.heap.size + 1 + 1, 0, none⟩ = some (.slice none 0 0) := s4.cell 0
      have f4 := s4.frozen 0
      have HD := Lib.hid (hd4.put s4 (.slice A4 (wl 64 z) cap4))
      have hbb := (hbS.trans (hbr.mono (by omega))).trans (hb4.mono (by have := hbr.size; omega))
      have hle : w.heap.size ≤ w.heap.size + 1 + 1 := by omega
      clear hd4 g0 g1
      go_wp2
      exact bodyPost_ret (v := .tuple #[.agg #[.slice A4 (wl 64 z) cap4], .int .i64 0]) (by simp [results, Try.results58, go_sem, k4]) rfl ⟨_, rfl, ⟨A4, cap4, rfl, hl4, hm4, HD.out⟩, hbb.setCell (p := ⟨w.heap.size + 1 + 1, 0, none⟩) hle _⟩
set_option maxRecDepth 100000 in
set_option maxHeartbeats 4000000 in
theorem nsub_no (va vb : Value) (x y : Nat) (w : World) (ha : N64 w va x) (hb : N64 w vb y) (hx : x < y) :
    Calls Try.prog 58 #[va, vb] w fun e w' => ∃ v, e = .returned (.tuple #[v, .int .i64 8]) ∧ N64 w' v 0 ∧ Below w.heap.size w w' := by
  have HA := Lib.hid ha
  have HB := Lib.hid hb
  obtain ⟨A, ca, rfl, hla, hma, hda⟩ := ha
  obtain ⟨B, cb, rfl, hlb, hmb, hdb⟩ := hb
  have HCM := Lib.hid (cmpN_lt hx)
  clear hda hdb hx
  unfold maxLen at hma hmb
  obtain ⟨n, hn⟩ : ∃ n, wl 64 x = n := ⟨_, rfl⟩
  obtain ⟨m, hm⟩ : ∃ m, wl 64 y = m := ⟨_, rfl⟩
  rw [hn] at hla HA
  rw [hm] at hlb HB
  rw [hn, hm]
  clear hn hm
  have e2 := Blk.new ((w.alloc (.cells #[.slice A n ca] 26)).alloc (.cells #[.slice B m cb] 26)) 26 #[.slice none 0 0]
  simp only [World.size_alloc] at e2
  have hb0 := cba (cba (cba (Below.refl _ w) (.cells #[.slice A n ca] 26)) (.cells #[.slice B m cb] 26)) (.cells #[.slice none 0 0] 26)
  go_enter Try.func58, Try.ntmps58
  go_wp2_with fail
  obtain ⟨X0, hX0⟩ : ∃ X0, ((w.alloc (.cells #[.slice A n ca] 26)).alloc (.cells #[.slice B m cb] 26)).alloc (.cells #[.slice none 0 0] 26) = X0 := ⟨_, rfl⟩
  rw [hX0] at e2 hb0 ⊢
  clear hX0
  refine (ncmp_any _ _ _ _ _ (HA.out.below hb0) (HB.out.below hb0)).mono ?_
  rintro e S ⟨rfl, hb1⟩
  rw [HCM.out]
  have s2 := blk_below e2 hb1
  have hbS := cbt hb0 hb1
  have k2 : S.cell? ⟨w.heap.size + 1 + 1, 0, none⟩ = some (.slice none 0 0) := s2.cell 0
  have f2 := s2.frozen 0
  have hle : w.heap.size ≤ w.heap.size + 1 + 1 := by omega
  go_wp2
  exact bodyPost_ret (v := .tuple #[.agg #[.slice none 0 0], .int .i64 8]) (by simp [results, Try.results58, go_sem, k2]) rfl ⟨_, rfl, N64.zero _, hbS.setCell (p := ⟨w.heap.size + 1 + 1, 0, none⟩) hle _⟩
end Go.Proofs.Yteikhnmmkanndaa
namespace Go.Proofs.Yteikhnmmkanndaa
open Go.RowKit Go.Proofs.YteikhnmmkanndaaW.PrintWords
theorem w64 {n : Int} (h0 : -9223372036854775808 ≤ n) (h1 : n ≤ 9223372036854775807) : wrap64 n = n := by unfold wrap64; omega
theorem w64n {n : Int} {m : Nat} (h : n = (m : Int)) (h1 : m ≤ 9223372036854775807) : wrap64 n = (m : Int) := by rw [h]; exact w64 (by omega) (by omega)
def fl (f : Nat → Nat) (n : Nat) : List Int := (List.range n).map fun i => ((f i : Nat) : Int)
theorem fl_len (f : Nat → Nat) (n : Nat) : (fl f n).length = n := by simp [fl]
theorem fl_get (f : Nat → Nat) (n i : Nat) : (fl f n)[i]? = if i < n then some ((f i : Nat) : Int) else none := by
  unfold fl
  rw [List.getElem?_map]
  by_cases h : i < n
  · rw [if_pos h, List.getElem?_eq_getElem (by simpa using h)]
    simp
  · rw [if_neg h, List.getElem?_eq_none (by simp; omega)]
    rfl
theorem rd_fl {f : Nat → Nat} {n i : Nat} (h : i < n) : rd (fl f n) (i : Int) = ((f i : Nat) : Int) := by
  unfold rd
  rw [List.getD_eq_getElem?_getD, Int.toNat_natCast, fl_get, if_pos h]
  rfl
theorem fl_congr {f g : Nat → Nat} {n : Nat} (h : ∀ i, i < n → f i = g i) : fl f n = fl g n := by
  unfold fl
  exact List.map_congr_left (fun i hi => by rw [h i (List.mem_range.1 hi)])
theorem fl_succ (f : Nat → Nat) (n : Nat) : fl f (n + 1) = fl f n ++ [((f n : Nat) : Int)] := by simp [fl, List.range_succ]
theorem fl_take (f : Nat → Nat) {m n : Nat} (h : m ≤ n) : (fl f n).take m = fl f m := by
  unfold fl
  rw [← List.map_take, List.take_range, Nat.min_eq_left h]
theorem fl_set (f : Nat → Nat) (n i v : Nat) : (fl f n).set i ((v : Nat) : Int) = fl (fun j => if j = i then v else f j) n := by
  apply List.ext_getElem?
  intro j
  rw [List.getElem?_set, fl_get, fl_get, fl_len]
  by_cases h : i = j
  · subst h
    rw [if_pos rfl, if_pos rfl]
  · rw [if_neg h, if_neg (Ne.symm h)]
theorem fl_cons (f : Nat → Nat) (n d : Nat) : ((d : Nat) : Int) :: fl f n = fl (fun j => if j = 0 then d else f (j - 1)) (n + 1) := by
  apply List.ext_getElem?
  intro j
  cases j with
  | zero => rw [fl_get, if_pos (by omega), if_pos rfl]; rfl
  | succ j =>
    rw [List.getElem?_cons_succ, fl_get, fl_get]
    by_cases h : j < n
    · rw [if_pos h, if_pos (by omega), if_neg (by omega), Nat.add_sub_cancel]
    · rw [if_neg h, if_neg (by omega)]
theorem fl_zero (n : Nat) : fl (fun _ => 0) n = List.replicate n 0 := by
  unfold fl
  rw [List.map_const', List.length_range]
  rfl
def ds (k x n : Nat) : List Int := fl (dig k x) n
def cs (k x : Nat) : List Int := ds k x (wl k x)
theorem ds_len (k x n : Nat) : (ds k x n).length = n := fl_len _ _
theorem cs_len (k x : Nat) : (cs k x).length = wl k x := fl_len _ _
theorem rd_ds {k x n i : Nat} (h : i < n) : rd (ds k x n) (i : Int) = ((dig k x i : Nat) : Int) := rd_fl h
theorem ds_succ (k x n : Nat) : ds k x (n + 1) = ds k x n ++ [((dig k x n : Nat) : Int)] := fl_succ _ _
theorem ds_nil (k x : Nat) : ds k x 0 = [] := rfl
theorem cs_zero {k : Nat} (hk : 0 < k) : cs k 0 = [] := by unfold cs; rw [wl_zero hk]; rfl
theorem dig_shift {k d x j : Nat} (hd : d < 2 ^ k) : dig k (d + 2 ^ k * x) j = if j = 0 then d else dig k x (j - 1) := by
  cases j with
  | zero =>
    rw [if_pos rfl]
    unfold dig
    rw [Nat.mul_zero, Nat.pow_zero, Nat.div_one, Nat.add_mul_mod_self_left, Nat.mod_eq_of_lt hd]
  | succ j =>
    rw [if_neg (by omega), Nat.add_sub_cancel]
    unfold dig
    rw [pow_succ_mul, Nat.mul_comm (2 ^ (k * j)), ← Nat.div_div_eq_div_mul, Nat.add_mul_div_left _ _ (Nat.two_pow_pos k), Nat.div_eq_of_lt hd, Nat.zero_add]
theorem ds_cons {k d x n : Nat} (hd : d < 2 ^ k) : ((d : Nat) : Int) :: ds k x n = ds k (d + 2 ^ k * x) (n + 1) := by
  unfold ds
  rw [fl_cons]
  exact fl_congr (fun j _ => (dig_shift hd).symm)
theorem shift_lt {k d x n : Nat} (hd : d < 2 ^ k) (hx : x < 2 ^ (k * n)) : d + 2 ^ k * x < 2 ^ (k * (n + 1)) := by
  rw [pow_succ_mul, Nat.mul_comm (2 ^ (k * n))]
  calc d + 2 ^ k * x < 2 ^ k + 2 ^ k * x := Nat.add_lt_add_right hd _
    _ = 2 ^ k * (x + 1) := by rw [Nat.mul_add, Nat.mul_one, Nat.add_comm]
    _ ≤ 2 ^ k * 2 ^ (k * n) := Nat.mul_le_mul_left _ hx
theorem tm256 (a : Nat) : Int.tmod ((a : Nat) : Int) 256 = ((a % 256 : Nat) : Int) := rfl
theorem td256 (a : Nat) : Int.tdiv ((a : Nat) : Int) 256 = ((a / 256 : Nat) : Int) := rfl
theorem dig8 (x i : Nat) : dig 8 x i < 256 := dig_lt 8 x i
theorem cs_ds {k x n : Nat} (h : wl k x = n) : cs k x = ds k x n := by unfold cs; rw [h]
end Go.Proofs.Yteikhnmmkanndaa
namespace Go.Proofs.Yteikhnmmkanndaa
open Go.RowKit Go.Proofs.YteikhnmmkanndaaW.PrintWords Go.Proofs.YteikhnmmkanndaaW.PrintMore Go.Proofs.Yteikhnmmkanndaa.PAll
theorem trim_l (x n : Nat) (hn : n ≤ 1099511627776) : ∀ m, m ≤ n → x < 2 ^ (8 * m) → Ev (fun k => locutionref25_Trim.l0 k (ds 8 x n) (m : Int)) (cs 8 x) := by
  intro m
  induction m with
  | zero =>
    intro _ hx
    have h0 : wl 8 x = 0 := Nat.le_zero.1 ((wl_le (by decide) x 0).2 hx)
    refine ⟨1, fun k hk => ?_⟩
    obtain ⟨k, rfl⟩ : ∃ m, k = m + 1 := ⟨k - 1, by omega⟩
    simp only [locutionref25_Trim.l0]
    rw [if_neg (by omega)]
    simp only [Option.bind_some]
    rw [if_pos (by omega), if_pos (by omega), if_pos (by simp), cs_ds h0]
    simp [ds_nil]
  | succ m ih =>
    intro hm hx
    have e : wrap64 (((m + 1 : Nat) : Int) - 1) = (m : Int) := w64n (by omega) (by omega)
    by_cases hz : dig 8 x m = 0
    · obtain ⟨K, hK⟩ := ih (by omega) (lt_of_dig_zero hx hz)
      dsimp only at hK
      refine ⟨K + 1, fun k hk => ?_⟩
      obtain ⟨k, rfl⟩ : ∃ m, k = m + 1 := ⟨k - 1, by omega⟩
      simp only [locutionref25_Trim.l0, e]
      rw [if_pos (by omega), if_pos (by omega), if_pos (by rw [ds_len]; omega), rd_ds (by omega), if_pos (by omega)]
      exact hK k (by omega)
    · have hwl : wl 8 x = m + 1 := by
        refine wl_eq (by decide) hx (.inr ?_)
        rw [Nat.add_sub_cancel]
        exact Nat.le_of_not_lt (fun h => hz (dig_zero_of_lt h))
      refine ⟨1, fun k hk => ?_⟩
      obtain ⟨k, rfl⟩ : ∃ m, k = m + 1 := ⟨k - 1, by omega⟩
      simp only [locutionref25_Trim.l0, e]
      rw [if_pos (by omega), if_pos (by omega), if_pos (by rw [ds_len]; omega), rd_ds (by omega), if_neg (by omega)]
      simp only [Option.bind_some]
      have ht : (ds 8 x n).take ((m + 1 : Nat) : Int).toNat = ds 8 x (m + 1) := by rw [Int.toNat_natCast]; exact fl_take _ hm
      rw [if_pos (by omega), if_pos (by rw [ds_len]; omega), ht, if_pos (by rw [ds_len]; simp; omega), cs_ds hwl]
      rfl
theorem trim_ev (x n : Nat) (hn : n ≤ 1099511627776) (hx : x < 2 ^ (8 * n)) : Ev (fun k => locutionref25_Trim.f k (ds 8 x n)) (cs 8 x) := by
  have := trim_l x n hn n (Nat.le_refl _) hx
  unfold locutionref25_Trim.f
  rw [ds_len]
  exact this
theorem at_ds {x n : Nat} (hx : x < 2 ^ (8 * n)) (i : Nat) : locutionref25_at.f (ds 8 x n) (i : Int) = some ((dig 8 x i : Nat) : Int) := by
  unfold locutionref25_at.f
  rw [if_neg (by omega), ds_len]
  by_cases h : i < n
  · rw [if_neg (by omega), if_pos (by omega), if_pos (by omega), rd_ds h]
  · rw [if_pos (by omega), dig_zero_of_lt (Nat.lt_of_lt_of_le hx (Nat.pow_le_pow_right (by decide) (by omega)))]
    rfl
theorem w_add {a b : Nat} (h : a + b ≤ 9223372036854775807) : wrap64 ((a : Int) + (b : Int)) = ((a + b : Nat) : Int) := w64n (by omega) h
theorem w_sub {a b : Nat} (h : b ≤ a) (h1 : a ≤ 9223372036854775807) : wrap64 ((a : Int) - (b : Int)) = ((a - b : Nat) : Int) := w64n (by omega) (by omega)
theorem add_step8 {a b c : Nat} (h1 : a < 256) (h2 : b < 256) (h3 : c ≤ 1) : wrap64 (wrap64 ((a : Int) + (b : Int)) + (c : Int)) = ((a + b + c : Nat) : Int) := by
  rw [w_add (by omega), w_add (by omega)]
theorem sub_step8 {a b c : Nat} (h1 : a < 256) (h2 : b < 256) (h3 : c ≤ 1) : wrap64 (wrap64 (wrap64 (256 + (a : Int)) - (b : Int)) - (c : Int)) = ((256 + a - b - c : Nat) : Int) := by
  have e := w_add (a := 256) (b := a) (by omega)
  rw [show (((256 : Nat) : Int)) = 256 from rfl] at e
  rw [e, w_sub (by omega) (by omega), w_sub (by omega) (by omega)]
theorem sub_carry8 {a b c : Nat} (h1 : a < 256) (h2 : b < 256) (h3 : c ≤ 1) : wrap64 (1 - wrap64 (((256 + a - b - c) / 256 : Nat) : Int)) = ((if a < b + c then 1 else 0 : Nat) : Int) := by
  rw [w64n (n := (((256 + a - b - c) / 256 : Nat) : Int)) rfl (by omega)]
  refine w64n ?_ (by split <;> decide)
  split <;> omega
theorem small8 {a b c : Nat} (h1 : a < 256) (h2 : b < 256) (h3 : c ≤ 1) : wrap64 (((a + b + c) / 256 : Nat) : Int) = (((a + b + c) / 256 : Nat) : Int) := w64n rfl (by omega)
theorem add_l (x y n m : Nat) (hn : n ≤ 4294967296) (hm : m ≤ 4294967296) (hx : x < 2 ^ (8 * n)) (hy : y < 2 ^ (8 * m)) : ∀ d i, d + i = max n m + 1 →
    Ev (fun k => locutionref25_Add.l0 k (ds 8 x n) (ds 8 y m) (ds 8 (x + y) i) ((carryOf 8 x y i : Nat) : Int) (i : Int)) (cs 8 (x + y)) := by
  have hmx : mx ((ds 8 x n).length : Int) ((ds 8 y m).length : Int) = ((max n m : Nat) : Int) := by
    rw [ds_len, ds_len]
    unfold mx
    split <;> omega
  intro d
  induction d with
  | zero =>
    intro i hi
    have hs : x + y < 2 ^ (8 * i) := by
      have h1 : x < 2 ^ (8 * max n m) := Nat.lt_of_lt_of_le hx (Nat.pow_le_pow_right (by decide) (by omega))
      have h2 : y < 2 ^ (8 * max n m) := Nat.lt_of_lt_of_le hy (Nat.pow_le_pow_right (by decide) (by omega))
      have := sum_lt (k := 8) (by decide) h1 h2
      rwa [show max n m + 1 = i by omega] at this
    obtain ⟨K, hK⟩ := trim_ev (x + y) i (by omega) hs
    dsimp only at hK
    refine ⟨K + 1, fun k hk => ?_⟩
    obtain ⟨k, rfl⟩ : ∃ m, k = m + 1 := ⟨k - 1, by omega⟩
    simp only [locutionref25_Add.l0, hmx]
    rw [if_neg (by omega), hK k (by omega)]
    rfl
  | succ d ih =>
    intro i hi
    obtain ⟨K, hK⟩ := ih (i + 1) (by omega)
    dsimp only at hK
    have c1 : (i : Int) ≤ ((max n m : Nat) : Int) := by omega
    have c2 : (ds 8 (x + y) i).length < 17592186044416 := by rw [ds_len]; omega
    have e2 : wrap64 ((i : Int) + 1) = ((i + 1 : Nat) : Int) := w64n (by omega) (by omega)
    have e1 := add_step8 (dig8 x i) (dig8 y i) (carry_le 8 x y i)
    have e3 := small8 (dig8 x i) (dig8 y i) (carry_le 8 x y i)
    refine ⟨K + 1, fun k hk => ?_⟩
    obtain ⟨k, rfl⟩ : ∃ m, k = m + 1 := ⟨k - 1, by clear e1 e3; omega⟩
    have hk2 := hK k (Nat.le_of_succ_le_succ hk)
    rw [carry_succ, ds_succ, sum_dig] at hk2
    simp only [locutionref25_Add.l0, hmx, at_ds hx, at_ds hy, Option.bind_some, e1, e2, tm256, td256, e3]
    rw [if_pos c1, if_pos c2]
    exact hk2
theorem add_ev (x y n m : Nat) (hn : n ≤ 4294967296) (hm : m ≤ 4294967296) (hx : x < 2 ^ (8 * n)) (hy : y < 2 ^ (8 * m)) : Ev (fun k => locutionref25_Add.f k (ds 8 x n) (ds 8 y m)) (cs 8 (x + y)) := by
  have := add_l x y n m hn hm hx hy (max n m + 1) 0 rfl
  rw [carry_zero] at this
  exact this
theorem sub_l (z y n m : Nat) (hn : n ≤ 4294967296) (hx : z + y < 2 ^ (8 * n)) (hy : y < 2 ^ (8 * m)) : ∀ d i, d + i = n →
    Ev (fun k => locutionref25_Sub.l0 k (ds 8 (z + y) n) (ds 8 y m) (ds 8 z i) ((carryOf 8 z y i : Nat) : Int) (i : Int)) (cs 8 z) := by
  intro d
  induction d with
  | zero =>
    intro i hi
    obtain rfl : i = n := by omega
    obtain ⟨K, hK⟩ := trim_ev z i (by omega) (by omega)
    dsimp only at hK
    refine ⟨K + 1, fun k hk => ?_⟩
    obtain ⟨k, rfl⟩ : ∃ m, k = m + 1 := ⟨k - 1, by omega⟩
    simp only [locutionref25_Sub.l0, ds_len]
    rw [if_neg (by omega), hK k (by omega)]
    rfl
  | succ d ih =>
    intro i hi
    obtain ⟨K, hK⟩ := ih (i + 1) (by omega)
    dsimp only at hK
    have c1 : (i : Int) < (n : Int) := by omega
    have c2 : (ds 8 z i).length < 17592186044416 := by rw [ds_len]; omega
    have e3 : wrap64 ((i : Int) + 1) = ((i + 1 : Nat) : Int) := w64n (by omega) (by omega)
    have e1 := sub_step8 (dig8 (z + y) i) (dig8 y i) (carry_le 8 z y i)
    have e5 := sub_carry8 (dig8 (z + y) i) (dig8 y i) (carry_le 8 z y i)
    rw [← borrow_succ] at e5
    have e4 : (256 + dig 8 (z + y) i - dig 8 y i - carryOf 8 z y i) % 256 = dig 8 z i := by rw [sub_dig z y i, Nat.add_comm]
    refine ⟨K + 1, fun k hk => ?_⟩
    obtain ⟨k, rfl⟩ : ∃ m, k = m + 1 := ⟨k - 1, by clear e1 e4 e5; omega⟩
    have hk2 := hK k (Nat.le_of_succ_le_succ hk)
    rw [ds_succ] at hk2
    simp only [locutionref25_Sub.l0, ds_len, at_ds hx, at_ds hy, Option.bind_some, e1, e3, tm256, td256, e4, e5]
    rw [if_pos c1, if_pos (by rw [ds_len] at c2; exact c2)]
    exact hk2
theorem sub_ev (x y n m : Nat) (hn : n ≤ 4294967296) (hx : x < 2 ^ (8 * n)) (hy : y < 2 ^ (8 * m)) (h : y ≤ x) : Ev (fun k => locutionref25_Sub.f k (ds 8 x n) (ds 8 y m)) (cs 8 (x - y)) := by
  obtain ⟨z, rfl⟩ : ∃ z, x = z + y := ⟨x - y, by omega⟩
  have := sub_l z y n m hn hx hy n 0 rfl
  rw [carry_zero] at this
  rw [Nat.add_sub_cancel]
  exact this
theorem cmp_l (x y n : Nat) (hn : n ≤ 4294967296) : ∀ i, i ≤ n → x / 2 ^ (8 * i) = y / 2 ^ (8 * i) → Ev (fun k => locutionref25_Cmp.l0 k (ds 8 x n) (ds 8 y n) ((i : Int) - 1)) (cmpN x y) := by
  intro i
  induction i with
  | zero =>
    intro _ h
    rw [Nat.mul_zero, Nat.pow_zero, Nat.div_one, Nat.div_one] at h
    subst h
    refine ⟨1, fun k hk => ?_⟩
    obtain ⟨k, rfl⟩ : ∃ m, k = m + 1 := ⟨k - 1, by omega⟩
    simp only [locutionref25_Cmp.l0]
    rw [if_neg (by omega), cmpN_self]
  | succ i ih =>
    intro hi h
    have e0 : (((i + 1 : Nat) : Int) - 1) = (i : Int) := by omega
    have e1 : wrap64 ((i : Int) - 1) = (i : Int) - 1 := w64 (by omega) (by omega)
    rw [e0]
    by_cases hd : cmpN (dig 8 x i) (dig 8 y i) = 0
    · obtain ⟨K, hK⟩ := ih (by omega) (div_dig h hd)
      dsimp only at hK
      have he := cmpN_eq_zero hd
      refine ⟨K + 1, fun k hk => ?_⟩
      obtain ⟨k, rfl⟩ : ∃ m, k = m + 1 := ⟨k - 1, by omega⟩
      simp only [locutionref25_Cmp.l0, ds_len, e1]
      rw [if_pos (by omega), if_pos (by omega), if_pos (by omega), if_pos (by omega), rd_ds (by omega), rd_ds (by omega), if_neg (by omega), if_neg (by omega)]
      exact hK k (by omega)
    · rw [← cmpN_dig h hd]
      refine ⟨1, fun k hk => ?_⟩
      obtain ⟨k, rfl⟩ : ∃ m, k = m + 1 := ⟨k - 1, by omega⟩
      simp only [locutionref25_Cmp.l0, ds_len, e1]
      rw [if_pos (by omega), if_pos (by omega), if_pos (by omega), if_pos (by omega), rd_ds (by omega), rd_ds (by omega)]
      by_cases h1 : dig 8 x i < dig 8 y i
      · rw [if_pos (by omega), cmpN_lt h1]
      · have h2 : dig 8 y i < dig 8 x i := by
          rcases Nat.lt_or_ge (dig 8 y i) (dig 8 x i) with h2 | h2
          · exact h2
          · exact absurd (by rw [show dig 8 x i = dig 8 y i by omega]; exact cmpN_self _) hd
        rw [if_neg (by omega), if_pos (by omega), cmpN_gt h2]
theorem cmp_ev (x y : Nat) (hn : wl 8 x ≤ 4294967296) : Ev (fun k => locutionref25_Cmp.f k (cs 8 x) (cs 8 y)) (cmpN x y) := by
  unfold locutionref25_Cmp.f
  rw [cs_len, cs_len]
  by_cases h : cmpN (wl 8 x) (wl 8 y) = 0
  · have he := cmpN_eq_zero h
    have e1 : wrap64 (((wl 8 x : Nat) : Int) - 1) = ((wl 8 x : Nat) : Int) - 1 := w64 (by omega) (by omega)
    have := cmp_l x y (wl 8 x) hn (wl 8 x) (Nat.le_refl _) (by
      rw [Nat.div_eq_of_lt (wl_lt (by decide) x), he, Nat.div_eq_of_lt (wl_lt (by decide) y)])
    refine Ev.congr (fun k => ?_) this
    rw [if_pos (by omega), e1, show cs 8 y = ds 8 y (wl 8 x) from cs_ds he.symm]
    rfl
  · rw [← cmpN_wl (by decide) h]
    have hne : wl 8 x ≠ wl 8 y := fun e => h (by rw [e]; exact cmpN_self _)
    refine ⟨0, fun k _ => ?_⟩
    dsimp only
    rw [if_neg (fun e => hne (by exact_mod_cast e))]
    by_cases h1 : wl 8 x < wl 8 y
    · rw [if_pos (by omega), cmpN_lt h1]
    · rw [if_neg (by omega), cmpN_gt (by omega)]
end Go.Proofs.Yteikhnmmkanndaa
namespace Go.Proofs.Yteikhnmmkanndaa
open Go.RowKit Go.Proofs.YteikhnmmkanndaaW.PrintWords Go.Proofs.YteikhnmmkanndaaW.PrintMore Go.Proofs.Yteikhnmmkanndaa.PAll
def lowK (k x y i : Nat) : Nat := x % 2 ^ (k * i) * y
theorem lowK_zero (k x y : Nat) : lowK k x y 0 = 0 := by unfold lowK; rw [Nat.mul_zero, Nat.pow_zero, Nat.mod_one, Nat.zero_mul]
theorem lowK_succ (k x y i : Nat) : lowK k x y (i + 1) = lowK k x y i + 2 ^ (k * i) * (dig k x i * y) := by
  unfold lowK
  rw [mod_succ, Nat.add_mul, Nat.mul_assoc]
theorem lowK_lt {k x y i m : Nat} (hy : y < 2 ^ (k * m)) : lowK k x y i < 2 ^ (k * (i + m)) := by
  unfold lowK
  rw [Nat.mul_add, Nat.pow_add]
  exact Nat.mul_lt_mul'' (Nat.mod_lt _ (Nat.two_pow_pos _)) hy
def midK (k x y i j : Nat) (p : Nat) : Nat := if i ≤ p ∧ p < i + j then dig k (lowK k x y i / 2 ^ (k * i) + dig k x i * y) (p - i) else dig k (lowK k x y i) p
theorem midK_done {k x y i m : Nat} (hy : y < 2 ^ (k * m)) (p : Nat) : midK k x y i (m + 1) p = dig k (lowK k x y (i + 1)) p := by
  have hq : lowK k x y (i + 1) / 2 ^ (k * i) = lowK k x y i / 2 ^ (k * i) + dig k x i * y := by
    rw [lowK_succ, Nat.add_mul_div_left _ _ (Nat.two_pow_pos _)]
  unfold midK
  by_cases h2 : i ≤ p ∧ p < i + (m + 1)
  · rw [if_pos h2, ← hq, dig_div, show i + (p - i) = p by omega]
  · rw [if_neg h2]
    rcases Nat.lt_or_ge p i with h3 | h3
    · rw [← dig_mod h3, ← dig_mod (x := lowK k x y (i + 1)) h3, lowK_succ, Nat.add_mul_mod_self_left]
    · rw [dig_zero_of_lt, dig_zero_of_lt]
      · exact Nat.lt_of_lt_of_le (lowK_lt hy) (Nat.pow_le_pow_right (by decide) (Nat.mul_le_mul_left _ (by omega)))
      · exact Nat.lt_of_lt_of_le (lowK_lt hy) (Nat.pow_le_pow_right (by decide) (Nat.mul_le_mul_left _ (by omega)))
theorem midK_at (k x y i j : Nat) : midK k x y i j (i + j) = dig k (lowK k x y i / 2 ^ (k * i)) j := by
  unfold midK
  rw [if_neg (by omega), dig_div]
theorem midK_succ (k x y i j : Nat) (p : Nat) : midK k x y i (j + 1) p = if p = i + j then dig k (lowK k x y i / 2 ^ (k * i) + dig k x i * y) j else midK k x y i j p := by
  unfold midK
  by_cases h : p = i + j
  · subst h
    rw [if_pos (by omega), if_pos rfl, Nat.add_sub_cancel_left]
  · rw [if_neg h]
    by_cases h2 : i ≤ p ∧ p < i + j
    · rw [if_pos h2, if_pos (by omega)]
    · rw [if_neg h2, if_neg (by omega)]
theorem midK_zero (k x y i p : Nat) : midK k x y i 0 p = dig k (lowK k x y i) p := by unfold midK; rw [if_neg (by omega)]
theorem mul_step8 {o a b c : Nat} (h0 : o < 256) (h1 : a < 256) (h2 : b < 256) (h3 : c < 256) : wrap64 (wrap64 ((o : Int) + wrap64 ((a : Int) * (b : Int))) + (c : Int)) = ((o + a * b + c : Nat) : Int) := by
  have h4 : a * b ≤ 255 * 255 := Nat.mul_le_mul (by omega) (by omega)
  have e : wrap64 ((a : Int) * (b : Int)) = ((a * b : Nat) : Int) := w64n (by rw [Int.natCast_mul]) (by omega)
  rw [e, w_add (by omega), w_add (by omega)]
theorem mul_small8 {o a b c : Nat} (h0 : o < 256) (h1 : a < 256) (h2 : b < 256) (h3 : c < 256) : wrap64 (((o + a * b + c) / 256 : Nat) : Int) = (((o + a * b + c) / 256 : Nat) : Int) := by
  have h4 : a * b ≤ 255 * 255 := Nat.mul_le_mul (by omega) (by omega)
  exact w64n rfl (by omega)
theorem mul_in {x y n m i : Nat} (hy : y < 2 ^ (8 * m)) (hn : n ≤ 4294967296) (hm : m ≤ 4294967296) (hi : i < n) (r : List Int)
    (hnext : Ev (fun k => locutionref25_Mul.l0 k (ds 8 x n) (ds 8 y m) (ds 8 (lowK 8 x y (i + 1)) (n + m + 1)) ((i + 1 : Nat) : Int)) r) : ∀ d j, d + j = m + 1 →
    Ev (fun k => locutionref25_Mul.l1 k (ds 8 x n) (ds 8 y m) (fl (midK 8 x y i j) (n + m + 1)) (i : Int) ((mulCarry 8 (lowK 8 x y i / 2 ^ (8 * i)) (dig 8 x i) y j : Nat) : Int) (j : Int)) r := by
  intro d
  induction d with
  | zero =>
    intro j hj
    obtain rfl : j = m + 1 := by omega
    obtain ⟨K, hK⟩ := hnext
    dsimp only at hK
    have e2 : wrap64 ((i : Int) + 1) = ((i + 1 : Nat) : Int) := w64n (by omega) (by omega)
    refine ⟨K + 1, fun k hk => ?_⟩
    obtain ⟨k, rfl⟩ : ∃ m, k = m + 1 := ⟨k - 1, by omega⟩
    have hk2 := hK k (Nat.le_of_succ_le_succ hk)
    simp only [locutionref25_Mul.l1, ds_len, e2]
    rw [if_neg (by omega), show fl (midK 8 x y i (m + 1)) (n + m + 1) = ds 8 (lowK 8 x y (i + 1)) (n + m + 1) from fl_congr (fun p _ => midK_done hy p)]
    exact hk2
  | succ d ih =>
    intro j hj
    obtain ⟨K, hK⟩ := ih (j + 1) (by omega)
    dsimp only at hK
    have c1 : (j : Int) ≤ (m : Int) := by omega
    have c2 : ((i + j : Nat) : Int) < ((n + m + 1 : Nat) : Int) := by omega
    have c3 : i + j < n + m + 1 := by omega
    have c4 : (i : Int) < (n : Int) := by omega
    have e0 : wrap64 ((i : Int) + (j : Int)) = ((i + j : Nat) : Int) := w_add (by omega)
    have e2 : wrap64 ((j : Int) + 1) = ((j + 1 : Nat) : Int) := w64n (by omega) (by omega)
    have e1 := mul_step8 (dig8 (lowK 8 x y i / 2 ^ (8 * i)) j) (dig8 x i) (dig8 y j) (mulCarry_lt (k := 8) (T := lowK 8 x y i / 2 ^ (8 * i)) (y := y) (i := j) (dig8 x i))
    have e3 := mul_small8 (dig8 (lowK 8 x y i / 2 ^ (8 * i)) j) (dig8 x i) (dig8 y j) (mulCarry_lt (k := 8) (T := lowK 8 x y i / 2 ^ (8 * i)) (y := y) (i := j) (dig8 x i))
    refine ⟨K + 1, fun k hk => ?_⟩
    obtain ⟨k, rfl⟩ : ∃ m, k = m + 1 := ⟨k - 1, by clear e1 e3; omega⟩
    have hk2 := hK k (Nat.le_of_succ_le_succ hk)
    rw [mulCarry_succ, show fl (midK 8 x y i (j + 1)) (n + m + 1) = (fl (midK 8 x y i j) (n + m + 1)).set (i + j) ((dig 8 (lowK 8 x y i / 2 ^ (8 * i) + dig 8 x i * y) j : Nat) : Int) from by
      rw [fl_set]; exact fl_congr (fun p _ => midK_succ 8 x y i j p), mul_dig] at hk2
    simp only [locutionref25_Mul.l1, ds_len, fl_len, e0, e2, at_ds hy, Option.bind_some]
    rw [if_pos c1, if_pos (Int.natCast_nonneg _), if_pos c2, if_pos (Int.natCast_nonneg _), if_pos c4, rd_fl c3, rd_ds (by omega), midK_at, Int.toNat_natCast]
    simp only [e1, tm256, td256, e3]
    exact hk2
theorem mul_out {x y n m : Nat} (hx : x < 2 ^ (8 * n)) (hy : y < 2 ^ (8 * m)) (hn : n ≤ 4294967296) (hm : m ≤ 4294967296) : ∀ d i, d + i = n →
    Ev (fun k => locutionref25_Mul.l0 k (ds 8 x n) (ds 8 y m) (ds 8 (lowK 8 x y i) (n + m + 1)) (i : Int)) (cs 8 (x * y)) := by
  intro d
  induction d with
  | zero =>
    intro i hi
    obtain rfl : i = n := by omega
    have hl : lowK 8 x y i = x * y := by unfold lowK; rw [Nat.mod_eq_of_lt hx]
    have hlt : x * y < 2 ^ (8 * (i + m + 1)) := by
      rw [← hl]
      exact Nat.lt_of_lt_of_le (lowK_lt hy) (Nat.pow_le_pow_right (by decide) (by omega))
    obtain ⟨K, hK⟩ := trim_ev (x * y) (i + m + 1) (by omega) hlt
    dsimp only at hK
    refine ⟨K + 1, fun k hk => ?_⟩
    obtain ⟨k, rfl⟩ : ∃ m, k = m + 1 := ⟨k - 1, by omega⟩
    simp only [locutionref25_Mul.l0, ds_len]
    rw [if_neg (by omega), hl, hK k (by omega)]
    rfl
  | succ d ih =>
    intro i hi
    have h0 := mul_in hy hn hm (show i < n by omega) _ (ih (i + 1) (by omega)) (m + 1) 0 rfl
    rw [mulCarry_zero, show fl (midK 8 x y i 0) (n + m + 1) = ds 8 (lowK 8 x y i) (n + m + 1) from fl_congr (fun p _ => midK_zero 8 x y i p)] at h0
    obtain ⟨K, hK⟩ := h0
    dsimp only at hK
    refine ⟨K + 1, fun k hk => ?_⟩
    obtain ⟨k, rfl⟩ : ∃ m, k = m + 1 := ⟨k - 1, by omega⟩
    simp only [locutionref25_Mul.l0, ds_len]
    rw [if_pos (by omega)]
    exact hK k (by omega)
theorem ds_zero (k n : Nat) : ds k 0 n = List.replicate n 0 := by
  rw [← fl_zero]
  exact fl_congr (fun i _ => dig_zero_of_lt (Nat.two_pow_pos _))
theorem mul_ev (x y n m : Nat) (hn : n ≤ 4294967296) (hm : m ≤ 4294967296) (hx : x < 2 ^ (8 * n)) (hy : y < 2 ^ (8 * m)) : Ev (fun k => locutionref25_Mul.f k (ds 8 x n) (ds 8 y m)) (cs 8 (x * y)) := by
  have h := mul_out hx hy hn hm n 0 rfl
  rw [lowK_zero, ds_zero] at h
  have e : wrap64 (wrap64 (((ds 8 x n).length : Int) + ((ds 8 y m).length : Int)) + 1) = ((n + m + 1 : Nat) : Int) := by
    rw [ds_len, ds_len, w_add (by omega)]
    exact w64n (by omega) (by omega)
  refine Ev.congr (fun k => ?_) h
  unfold locutionref25_Mul.f
  rw [e, if_pos (Int.natCast_nonneg _), if_pos (by rw [Int.toNat_natCast]; omega), Int.toNat_natCast]
  rfl
def hiq (q i : Nat) (p : Nat) : Nat := if i ≤ p then dig 8 q p else 0
theorem div_next (x b i : Nat) (hb : 0 < b) : (dig 8 x i + 2 ^ 8 * (x / 2 ^ (8 * (i + 1)) % b)) / b = dig 8 (x / b) i ∧ (dig 8 x i + 2 ^ 8 * (x / 2 ^ (8 * (i + 1)) % b)) % b = x / 2 ^ (8 * i) % b := by
  have h1 := div_succ 8 x i
  have h2 := Nat.div_add_mod (x / 2 ^ (8 * (i + 1))) b
  have h3 : x / 2 ^ (8 * i) = (dig 8 x i + 2 ^ 8 * (x / 2 ^ (8 * (i + 1)) % b)) + b * (2 ^ 8 * (x / 2 ^ (8 * (i + 1)) / b)) := by
    rw [h1]
    generalize x / 2 ^ (8 * (i + 1)) = X at *
    rw [Nat.mul_left_comm b, Nat.add_assoc, ← Nat.mul_add, Nat.add_comm (X % b), h2, Nat.mul_comm X]
    omega
  constructor
  · have h4 : dig 8 (x / b) i = x / 2 ^ (8 * i) / b % 2 ^ 8 := by
      unfold dig
      rw [Nat.div_div_eq_div_mul, Nat.mul_comm, ← Nat.div_div_eq_div_mul]
    rw [h4, h3, Nat.add_mul_div_left _ _ hb, Nat.add_mul_mod_self_left]
    refine (Nat.mod_eq_of_lt ?_).symm
    rw [Nat.div_lt_iff_lt_mul hb]
    have h5 := Nat.mod_lt (x / 2 ^ (8 * (i + 1))) hb
    have h6 := dig_lt 8 x i
    generalize dig 8 x i = d at *
    generalize x / 2 ^ (8 * (i + 1)) % b = r at *
    omega
  · rw [h3, Nat.add_mul_mod_self_left]
theorem wl_shift {L b : Nat} (h : L < 2 ^ 8 * b) : wl 8 L ≤ wl 8 b + 1 := by
  rw [wl_le (by decide), pow_succ_mul, Nat.mul_comm]
  exact Nat.lt_trans h (Nat.mul_lt_mul_of_pos_left (wl_lt (by decide) b) (by decide))
theorem div_in {x b n i : Nat} (hb : 0 < b) (hbw : wl 8 b ≤ 2147483648) (hn : n ≤ 2147483648) (hi : i < n) (r : List Int × List Int)
    (hnext : Ev (fun k => locutionref25_Div.l0 k (ds 8 x n) (cs 8 b) (fl (hiq (x / b) i) n) (cs 8 (x / 2 ^ (8 * i) % b)) ((i : Int) - 1)) r) : ∀ d c L, L / b = d →
    c * b + L = dig 8 x i + 2 ^ 8 * (x / 2 ^ (8 * (i + 1)) % b) →
    Ev (fun k => locutionref25_Div.l1 k (ds 8 x n) (cs 8 b) (fl (fun p => if p = i then c else hiq (x / b) (i + 1) p) n) (cs 8 L) (i : Int)) r := by
  obtain ⟨hq, hr⟩ := div_next x b i hb
  have hL0 : dig 8 x i + 2 ^ 8 * (x / 2 ^ (8 * (i + 1)) % b) < 2 ^ 8 * b := by
    have h5 := Nat.mod_lt (x / 2 ^ (8 * (i + 1))) hb
    have h6 := dig_lt 8 x i
    generalize dig 8 x i = d at *
    generalize x / 2 ^ (8 * (i + 1)) % b = r at *
    omega
  have hdq := dig8 (x / b) i
  generalize hL : dig 8 x i + 2 ^ 8 * (x / 2 ^ (8 * (i + 1)) % b) = L0 at *
  intro d
  induction d with
  | zero =>
    intro c L hd hc
    have hlt : L < b := by
      rcases Nat.div_eq_zero_iff.1 hd with h | h
      · omega
      · exact h
    have hcq : c = dig 8 (x / b) i := by
      rw [← hq, ← hc, Nat.mul_comm, Nat.mul_add_div hb, hd, Nat.add_zero]
    have hLr : L = x / 2 ^ (8 * i) % b := by
      rw [← hr, ← hc, Nat.mul_comm, Nat.mul_add_mod, Nat.mod_eq_of_lt hlt]
    have hwL : wl 8 L ≤ 4294967296 := Nat.le_trans (wl_mono (by decide) (Nat.le_of_lt hlt)) (by omega)
    obtain ⟨K1, hK1⟩ := cmp_ev L b hwL
    obtain ⟨K, hK⟩ := hnext
    dsimp only at hK hK1
    have e : wrap64 ((i : Int) - 1) = (i : Int) - 1 := w64 (by omega) (by omega)
    have hf : fl (fun p => if p = i then c else hiq (x / b) (i + 1) p) n = fl (hiq (x / b) i) n := by
      refine fl_congr (fun p _ => ?_)
      unfold hiq
      by_cases hp : p = i
      · subst hp; rw [if_pos rfl, if_pos (Nat.le_refl _), hcq]
      · rw [if_neg hp]
        by_cases h2 : i ≤ p
        · rw [if_pos h2, if_pos (by omega)]
        · rw [if_neg h2, if_neg (by omega)]
    refine ⟨max K1 K + 1, fun k hk => ?_⟩
    obtain ⟨k, rfl⟩ : ∃ m, k = m + 1 := ⟨k - 1, by clear hcq hLr; omega⟩
    have k1 : K1 ≤ k := by clear hcq hLr; omega
    have k2 : K ≤ k := by clear hcq hLr; omega
    simp only [locutionref25_Div.l1, hK1 k k1, Option.bind_some, e]
    rw [cmpN_lt hlt, if_neg (by decide), hf, hLr]
    exact hK k k2
  | succ d ih =>
    intro c L hd hc
    have hge : b ≤ L := by
      rcases Nat.lt_or_ge L b with h | h
      · rw [Nat.div_eq_of_lt h] at hd; omega
      · exact h
    have hd' : (L - b) / b = d := by
      rw [Nat.div_eq_sub_div hb hge] at hd
      omega
    have hc' : (c + 1) * b + (L - b) = L0 := by rw [Nat.add_mul, Nat.one_mul]; omega
    have hc2 : c ≤ 255 := by
      have h9 : c * b < 2 ^ 8 * b := by omega
      have := Nat.lt_of_mul_lt_mul_right h9
      omega
    have hwL : wl 8 L ≤ 4294967296 := Nat.le_trans (wl_shift (show L < 2 ^ 8 * b by omega)) (by omega)
    obtain ⟨K1, hK1⟩ := cmp_ev L b hwL
    obtain ⟨K2, hK2⟩ := sub_ev L b (wl 8 L) (wl 8 b) hwL (wl_lt (by decide) _) (wl_lt (by decide) _) hge
    obtain ⟨K, hK⟩ := ih (c + 1) (L - b) hd' hc'
    dsimp only at hK hK1 hK2
    have hcmp : (0 : Int) ≤ cmpN L b := by
      rcases Nat.lt_or_ge b L with h | h
      · rw [cmpN_gt h]; decide
      · rw [show L = b by omega, cmpN_self]; decide
    have e : wrap64 ((c : Int) + 1) = ((c + 1 : Nat) : Int) := w64n (by omega) (by omega)
    have hs : (fl (fun p => if p = i then c else hiq (x / b) (i + 1) p) n).set i ((c + 1 : Nat) : Int) = fl (fun p => if p = i then c + 1 else hiq (x / b) (i + 1) p) n := by
      rw [fl_set]
      refine fl_congr (fun p _ => ?_)
      by_cases hp : p = i
      · rw [if_pos hp, if_pos hp]
      · rw [if_neg hp, if_neg hp, if_neg hp]
    clear hd hd' hc hc' hq hr hdq
    refine ⟨max (max K1 K2) K + 1, fun k hk => ?_⟩
    obtain ⟨k, rfl⟩ : ∃ m, k = m + 1 := ⟨k - 1, by omega⟩
    have k1 : K1 ≤ k := by omega
    have k2 : K ≤ k := by omega
    have k3 : K2 ≤ k := by omega
    simp only [locutionref25_Div.l1, hK1 k k1, Option.bind_some]
    rw [if_pos hcmp, show locutionref25_Sub.f k (cs 8 L) (cs 8 b) = _ from hK2 k k3]
    simp only [Option.bind_some, fl_len]
    rw [if_pos (Int.natCast_nonneg _), if_pos (by omega), rd_fl hi, if_pos rfl, e, Int.toNat_natCast, hs]
    exact hK k k2
theorem div_out {x b n : Nat} (hx : x < 2 ^ (8 * n)) (hb : 0 < b) (hbw : wl 8 b ≤ 2147483648) (hn : n ≤ 2147483648) : ∀ i, i ≤ n →
    Ev (fun k => locutionref25_Div.l0 k (ds 8 x n) (cs 8 b) (fl (hiq (x / b) i) n) (cs 8 (x / 2 ^ (8 * i) % b)) ((i : Int) - 1)) (cs 8 (x / b), cs 8 (x % b)) := by
  intro i
  induction i with
  | zero =>
    intro _
    have hq : x / b < 2 ^ (8 * n) := Nat.lt_of_le_of_lt (Nat.div_le_self _ _) hx
    obtain ⟨K, hK⟩ := trim_ev (x / b) n (by omega) hq
    dsimp only at hK
    refine ⟨K + 1, fun k hk => ?_⟩
    obtain ⟨k, rfl⟩ : ∃ m, k = m + 1 := ⟨k - 1, by clear hq; omega⟩
    simp only [locutionref25_Div.l0]
    rw [if_neg (by omega), show fl (hiq (x / b) 0) n = ds 8 (x / b) n from fl_congr (fun p _ => if_pos (Nat.zero_le p)), hK k (by omega), Nat.mul_zero, Nat.pow_zero, Nat.div_one]
    rfl
  | succ i ih =>
    intro hi
    have h1 := div_in hb hbw hn (show i < n by omega) _ (ih (by omega)) _ 0 (dig 8 x i + 2 ^ 8 * (x / 2 ^ (8 * (i + 1)) % b)) rfl (by rw [Nat.zero_mul, Nat.zero_add])
    have hml := Nat.mod_lt (x / 2 ^ (8 * (i + 1))) hb
    generalize hr : x / 2 ^ (8 * (i + 1)) % b = r at *
    have hwr : wl 8 r ≤ 2147483648 := Nat.le_trans (wl_mono (by decide) (Nat.le_of_lt hml)) hbw
    obtain ⟨K1, hK1⟩ := trim_ev (dig 8 x i + 2 ^ 8 * r) (wl 8 r + 1) (by omega) (shift_lt (dig_lt 8 x i) (wl_lt (by decide) r))
    obtain ⟨K, hK⟩ := h1
    dsimp only at hK hK1
    have c1 : (i : Int) < (n : Int) := by omega
    have c2 : i < n := by omega
    have e0 : (((i + 1 : Nat) : Int) - 1) = (i : Int) := by omega
    have hcons := ds_cons (k := 8) (d := dig 8 x i) (x := r) (n := wl 8 r) (dig_lt 8 x i)
    have hf : fl (fun p => if p = i then 0 else hiq (x / b) (i + 1) p) n = fl (hiq (x / b) (i + 1)) n := by
      refine fl_congr (fun p _ => ?_)
      unfold hiq
      by_cases hp : p = i
      · rw [if_pos hp, if_neg (by omega)]
      · rw [if_neg hp]
    rw [hf] at hK
    refine ⟨max K1 K + 1, fun k hk => ?_⟩
    obtain ⟨k, rfl⟩ : ∃ m, k = m + 1 := ⟨k - 1, by omega⟩
    have k1 : K1 ≤ k := by omega
    have k2 : K ≤ k := by omega
    rw [e0]
    simp only [locutionref25_Div.l0, Option.bind_some, ds_len, cs_len]
    rw [if_pos (Int.natCast_nonneg _), if_pos (Int.natCast_nonneg _), if_pos c1, if_pos (by simp only [List.length_cons, List.length_nil]; omega), rd_ds c2, List.singleton_append,
      show ((dig 8 x i : Nat) : Int) :: cs 8 r = _ from hcons, hK1 k k1]
    exact hK k k2
theorem div_ev (x b n : Nat) (hx : x < 2 ^ (8 * n)) (hb : 0 < b) (hbw : wl 8 b ≤ 2147483648) (hn : n ≤ 2147483648) : Ev (fun k => locutionref25_Div.f k (ds 8 x n) (cs 8 b)) (cs 8 (x / b), cs 8 (x % b)) := by
  have h := div_out hx hb hbw hn n (Nat.le_refl _)
  rw [Nat.div_eq_of_lt hx, Nat.zero_mod, cs_zero (by decide), show fl (hiq (x / b) n) n = List.replicate n 0 from by
    rw [← fl_zero]; exact fl_congr (fun p hp => if_neg (by omega))] at h
  refine Ev.congr (fun k => ?_) h
  unfold locutionref25_Div.f
  rw [ds_len, if_pos (Int.natCast_nonneg _), if_pos (by rw [Int.toNat_natCast]; omega), Int.toNat_natCast, show wrap64 ((n : Int) - 1) = (n : Int) - 1 from w64 (by omega) (by omega)]
theorem gcd_ev (hw : Nat) (hhw : hw ≤ 2147483648) : ∀ y x, wl 8 x ≤ hw → wl 8 y ≤ hw → Ev (fun k => locutionref25_GCD.l0 k (cs 8 x) (cs 8 y)) (cs 8 (Nat.gcd x y)) := by
  intro y
  induction y using Nat.strongRecOn with
  | _ y ih =>
    intro x hx hy
    rcases Nat.eq_zero_or_pos y with h0 | h0
    · subst h0
      refine ⟨1, fun k hk => ?_⟩
      obtain ⟨k, rfl⟩ : ∃ m, k = m + 1 := ⟨k - 1, by omega⟩
      simp only [locutionref25_GCD.l0, cs_len, wl_zero (k := 8) (by decide)]
      rw [if_neg (by omega), Nat.gcd_zero_right]
    · have hml := Nat.mod_lt x h0
      have hwp : 0 < wl 8 y := by
        rcases Nat.eq_zero_or_pos (wl 8 y) with h | h
        · have := (wl_eq_zero (k := 8) (by decide)).1 h; omega
        · exact h
      obtain ⟨K, hK⟩ := ih (x % y) hml y hy (Nat.le_trans (wl_mono (by decide) (Nat.le_of_lt hml)) hy)
      obtain ⟨K1, hK1⟩ := div_ev x y (wl 8 x) (wl_lt (by decide) x) h0 (by omega) (by omega)
      dsimp only at hK hK1
      refine ⟨max K1 K + 1, fun k hk => ?_⟩
      obtain ⟨k, rfl⟩ : ∃ m, k = m + 1 := ⟨k - 1, by omega⟩
      have k1 : K1 ≤ k := by omega
      have k2 : K ≤ k := by omega
      simp only [locutionref25_GCD.l0, cs_len]
      rw [if_pos (by omega), show locutionref25_Div.f k (cs 8 x) (cs 8 y) = _ from hK1 k k1]
      simp only [Option.bind_some]
      rw [show Nat.gcd x y = Nat.gcd y (x % y) from by rw [Nat.gcd_comm, Nat.gcd_rec, Nat.gcd_comm]]
      exact hK k k2
end Go.Proofs.Yteikhnmmkanndaa
namespace Go.Proofs.Yteikhnmmkanndaa
open Go.RowKit Go.Proofs.YteikhnmmkanndaaW.PrintWords Go.Proofs.YteikhnmmkanndaaW.PrintMore Go.Proofs.Yteikhnmmkanndaa.PAll
theorem cs1 : cs 8 1 = [1] := by decide +kernel
def byt (l : List Int) (i : Nat) : Nat := (rd l ((l.length : Int) - 1 - (i : Int))).toNat
def Bys (l : List Int) : Prop := ∀ x, x ∈ l → 0 ≤ x ∧ x < 256
def be (l : List Int) : Nat := num 8 (byt l) l.length
theorem rd_in {l : List Int} (h : Bys l) (i : Int) : 0 ≤ rd l i ∧ rd l i < 256 := by
  unfold rd
  rw [List.getD_eq_getElem?_getD]
  cases hg : l[i.toNat]? with
  | none => exact ⟨Int.le_refl _, by decide⟩
  | some v => exact h v (List.mem_of_getElem? hg)
theorem byt_lt {l : List Int} (h : Bys l) (i : Nat) : byt l i < 2 ^ 8 := by
  have := rd_in h ((l.length : Int) - 1 - (i : Int))
  unfold byt
  omega
theorem be_lt {l : List Int} (h : Bys l) : be l < 2 ^ (8 * l.length) := num_lt (byt_lt h) _
theorem small_l (v : Nat) (hv : v < 18446744073709551616) : ∀ d i, d + i = wl 8 v → Ev (fun k => locutionref25_Small.l0 k ((v / 2 ^ (8 * i) : Nat) : Int) (ds 8 v i)) (cs 8 v) := by
  have hw : wl 8 v ≤ 8 := (wl_le (by decide) v 8).2 hv
  intro d
  induction d with
  | zero =>
    intro i hi
    obtain rfl : i = wl 8 v := by omega
    have hz : v / 2 ^ (8 * wl 8 v) = 0 := Nat.div_eq_of_lt (wl_lt (by decide) v)
    refine ⟨1, fun k hk => ?_⟩
    obtain ⟨k, rfl⟩ : ∃ m, k = m + 1 := ⟨k - 1, by clear hz; omega⟩
    simp only [locutionref25_Small.l0, hz]
    rw [if_neg (by decide)]
    rfl
  | succ d ih =>
    intro i hi
    obtain ⟨K, hK⟩ := ih (i + 1) (by omega)
    dsimp only at hK
    have hp : 0 < v / 2 ^ (8 * i) := Nat.div_pos ((lt_wl (by decide) v i).1 (by omega)) (Nat.two_pow_pos _)
    have hle : v / 2 ^ (8 * i) ≤ v := Nat.div_le_self _ _
    have e1 : IntKind.u64.wrap (Int.tdiv ((v / 2 ^ (8 * i) : Nat) : Int) 256) = ((v / 2 ^ (8 * (i + 1)) : Nat) : Int) := by
      rw [td256, pow_succ_mul, ← Nat.div_div_eq_div_mul, PAll.wrap_u64]
      generalize v / 2 ^ (8 * i) = u at *
      omega
    have e2 : wrap64 (Int.tmod ((v / 2 ^ (8 * i) : Nat) : Int) 256) = ((dig 8 v i : Nat) : Int) := by
      rw [tm256]
      exact w64n rfl (Nat.le_of_lt (Nat.lt_trans (dig8 v i) (by decide)))
    rw [ds_succ] at hK
    have hi2 : i < 17592186044416 := by omega
    have hp2 : (0 : Int) < ((v / 2 ^ (8 * i) : Nat) : Int) := by omega
    clear hle hp
    refine ⟨K + 1, fun k hk => ?_⟩
    obtain ⟨k, rfl⟩ : ∃ m, k = m + 1 := ⟨k - 1, by clear e1 e2 hp2; omega⟩
    simp only [locutionref25_Small.l0, ds_len]
    rw [if_pos hp2, if_pos hi2, e1, e2]
    exact hK k (by clear e1 e2 hp2; omega)
theorem small_ev (v : Nat) (hv : v < 18446744073709551616) : Ev (fun k => locutionref25_Small.f k ((v : Nat) : Int)) (cs 8 v) := by
  have := small_l v hv (wl 8 v) 0 rfl
  rw [Nat.mul_zero, Nat.pow_zero, Nat.div_one] at this
  exact this
def rev8 (x n : Nat) : List Int := fl (fun i => dig 8 x (n - 1 - i)) n
theorem bytes_l (x n : Nat) (hn : n ≤ 1099511627776) : ∀ d i, d + i = n → Ev (fun k => locutionref25_Bytes.l0 k (ds 8 x n) (fl (fun i => dig 8 x (n - 1 - i)) i) ((d : Int) - 1)) (rev8 x n) := by
  intro d
  induction d with
  | zero =>
    intro i hi
    obtain rfl : i = n := by omega
    refine ⟨1, fun k hk => ?_⟩
    obtain ⟨k, rfl⟩ : ∃ m, k = m + 1 := ⟨k - 1, by omega⟩
    simp only [locutionref25_Bytes.l0]
    rw [if_neg (by omega)]
    rfl
  | succ d ih =>
    intro i hi
    obtain ⟨K, hK⟩ := ih (i + 1) (by omega)
    dsimp only at hK
    have e0 : (((d + 1 : Nat) : Int) - 1) = (d : Int) := by omega
    have e1 : wrap64 ((d : Int) - 1) = (d : Int) - 1 := w64 (by omega) (by omega)
    rw [fl_succ, show n - 1 - i = d by omega] at hK
    rw [e0]
    refine ⟨K + 1, fun k hk => ?_⟩
    obtain ⟨k, rfl⟩ : ∃ m, k = m + 1 := ⟨k - 1, by omega⟩
    simp only [locutionref25_Bytes.l0, e1, ds_len, fl_len]
    rw [if_pos (Int.natCast_nonneg _), if_pos (Int.natCast_nonneg _), if_pos (by omega), if_pos (by omega), rd_ds (by omega), show (((dig 8 x d : Nat) : Int) % 256) = ((dig 8 x d : Nat) : Int) from by
      have := dig8 x d
      generalize dig 8 x d = u at *
      omega]
    exact hK k (by omega)
theorem rbytes_ev (x : Nat) (hw : wl 8 x ≤ 1000000000) : Ev (fun k => locutionref25_Bytes.f k (cs 8 x)) (rev8 x (wl 8 x)) := by
  have := bytes_l x (wl 8 x) (by omega) (wl 8 x) 0 rfl
  unfold locutionref25_Bytes.f
  rw [cs_len, show wrap64 (((wl 8 x : Nat) : Int) - 1) = ((wl 8 x : Nat) : Int) - 1 from w64 (by omega) (by omega)]
  exact this
end Go.Proofs.Yteikhnmmkanndaa
namespace Go.Proofs.Yteikhnmmkanndaa
open Go.RowKit Go.Proofs.YteikhnmmkanndaaW.PrintWords Go.Proofs.YteikhnmmkanndaaW.PrintMore Go.Proofs.Yteikhnmmkanndaa.PAll
def R256 (w : World) (v : Value) (x : Nat) : Prop := Kd.V (Kd.int .i64) 3 w 0 (fun _ => True) v (cs 8 x)
def ByS (w : World) (v : Value) (l : List Int) : Prop := Kd.V (Kd.int .u8) 5 w 0 (fun _ => True) v l
section
variable {w w' : World} {v : Value} {x base : Nat} {ok : Nat → Prop} {l : List Int}
theorem R256.below (h : R256 w v x) (hb : Below w.heap.size w w') : R256 w' v x := Kd.V_below h hb
theorem ByS.below (h : ByS w v l) (hb : Below w.heap.size w w') : ByS w' v l := Kd.V_below h hb
theorem R256.of_R (h : Kd.R (Kd.int .i64) 3 w base ok v (cs 8 x)) : R256 w v x := Kd.V_mono (Kd.R_V h) (fun _ _ => trivial)
theorem R256.of_V (h : Kd.V (Kd.int .i64) 3 w base ok v (cs 8 x)) : R256 w v x := Kd.V_mono (Kd.V_map h (fun _ hf => hf)) (fun _ _ => trivial)
theorem ByS.of_R (h : Kd.R (Kd.int .u8) 5 w base ok v l) : ByS w v l := Kd.V_mono (Kd.R_V h) (fun _ _ => trivial)
theorem R256.zero (w : World) : R256 w (.slice none 0 0) 0 := by unfold R256; rw [cs_zero (by decide)]; exact Kd.V_nil _ _ _ _ _
end
def Mk256 (w : World) (x : Nat) : Ending → World → Prop := fun e w' => ∃ v, e = .returned v ∧ R256 w' v x ∧ Below w.heap.size w w'
theorem rsmall_any (x : Nat) (w : World) (hx : x < 18446744073709551616) : Calls Try.prog 118 #[.int .u64 (x : Nat)] w (Mk256 w x) := by
  obtain ⟨k, hk⟩ := Ev.rounds (small_ev x hx)
  refine (locutionref25_Small.calls k _ _ w hk).mono ?_
  rintro e w1 ⟨v, rfl, hv, hb⟩
  exact ⟨v, rfl, R256.of_R hv, hb⟩
section
variable {va vb : Value} {x y : Nat} {w : World}
theorem radd_any (ha : R256 w va x) (hb : R256 w vb y) (hx : wl 8 x ≤ 2147483648) (hy : wl 8 y ≤ 2147483648) : Calls Try.prog 59 #[va, vb] w (Mk256 w (x + y)) := by
  obtain ⟨A, c, rfl, hl, hf⟩ := ha
  obtain ⟨B, d, rfl, hm, hg⟩ := hb
  obtain ⟨k, hk⟩ := Ev.rounds (add_ev x y (wl 8 x) (wl 8 y) (by omega) (by omega) (wl_lt (by decide) _) (wl_lt (by decide) _))
  refine (locutionref25_Add.calls k A c _ B d _ _ w (Kd.F_now hf) hl (Kd.F_now hg) hm hk).mono ?_
  rintro e w1 ⟨v, rfl, hv, hb⟩
  exact ⟨v, rfl, R256.of_R hv, hb⟩
theorem rsub_any (ha : R256 w va x) (hb : R256 w vb y) (hx : wl 8 x ≤ 2147483648) (h : y ≤ x) : Calls Try.prog 60 #[va, vb] w (Mk256 w (x - y)) := by
  obtain ⟨A, c, rfl, hl, hf⟩ := ha
  obtain ⟨B, d, rfl, hm, hg⟩ := hb
  obtain ⟨k, hk⟩ := Ev.rounds (sub_ev x y (wl 8 x) (wl 8 y) (by omega) (wl_lt (by decide) _) (wl_lt (by decide) _) h)
  refine (locutionref25_Sub.calls k A c _ B d _ _ w (Kd.F_now hf) hl (Kd.F_now hg) hm hk).mono ?_
  rintro e w1 ⟨v, rfl, hv, hb⟩
  exact ⟨v, rfl, R256.of_R hv, hb⟩
theorem rmul_any (ha : R256 w va x) (hb : R256 w vb y) (hx : wl 8 x ≤ 2147483648) (hy : wl 8 y ≤ 2147483648) : Calls Try.prog 27 #[va, vb] w (Mk256 w (x * y)) := by
  obtain ⟨A, c, rfl, hl, hf⟩ := ha
  obtain ⟨B, d, rfl, hm, hg⟩ := hb
  obtain ⟨k, hk⟩ := Ev.rounds (mul_ev x y (wl 8 x) (wl 8 y) (by omega) (by omega) (wl_lt (by decide) _) (wl_lt (by decide) _))
  refine (locutionref25_Mul.calls k A c _ B d _ _ w (Kd.F_now hf) hl (Kd.F_now hg) hm hk).mono ?_
  rintro e w1 ⟨v, rfl, hv, hb⟩
  exact ⟨v, rfl, R256.of_R hv, hb⟩
theorem rcmp_any (ha : R256 w va x) (hb : R256 w vb y) (hx : wl 8 x ≤ 2147483648) : Calls Try.prog 57 #[va, vb] w fun e w' => e = .returned (.int .i64 (cmpN x y)) ∧ Drawn0 w w' := by
  obtain ⟨A, c, rfl, hl, hf⟩ := ha
  obtain ⟨B, d, rfl, hm, hg⟩ := hb
  obtain ⟨k, hk⟩ := Ev.rounds (cmp_ev x y (by omega))
  exact locutionref25_Cmp.calls k A c _ B d _ _ w (Kd.F_now hf) hl (Kd.F_now hg) hm hk
theorem rdiv_any (ha : R256 w va x) (hb : R256 w vb y) (hx : wl 8 x ≤ 2147483648) (hy : wl 8 y ≤ 2147483648) (h0 : 0 < y) :
    Calls Try.prog 30 #[va, vb] w fun e w' => ∃ q r, e = .returned (.tuple #[q, r]) ∧ R256 w' q (x / y) ∧ R256 w' r (x % y) ∧ Below w.heap.size w w' := by
  obtain ⟨A, c, rfl, hl, hf⟩ := ha
  obtain ⟨B, d, rfl, hm, hg⟩ := hb
  obtain ⟨k, hk⟩ := Ev.rounds (div_ev x y (wl 8 x) (wl_lt (by decide) _) h0 hy hx)
  refine (locutionref25_Div.calls k A c _ B d _ _ _ w (Kd.F_now hf) hl (Kd.F_now hg) hm hk).mono ?_
  rintro e w1 ⟨v, u, rfl, hv, hu, hb⟩
  exact ⟨v, u, rfl, R256.of_R hv, R256.of_R hu, hb⟩
theorem rgcd_any (ha : R256 w va x) (hb : R256 w vb y) (hx : wl 8 x ≤ 2147483648) (hy : wl 8 y ≤ 2147483648) : Calls Try.prog 54 #[va, vb] w (Mk256 w (Nat.gcd x y)) := by
  obtain ⟨A, c, rfl, hl, hf⟩ := ha
  obtain ⟨B, d, rfl, hm, hg⟩ := hb
  obtain ⟨k, hk⟩ := Ev.rounds (gcd_ev 2147483648 (Nat.le_refl _) y x hx hy)
  refine (locutionref25_GCD.calls k (fun _ => True) A c _ (fun _ => True) B d _ _ w ⟨A, c, rfl, hl, hf⟩ ⟨B, d, rfl, hm, hg⟩ hk).mono ?_
  rintro e w1 ⟨v, rfl, hv, hb⟩
  exact ⟨v, rfl, R256.of_V hv, hb⟩
theorem rbytes_any (ha : R256 w va x) (hx : wl 8 x ≤ 1000000000) : Calls Try.prog 105 #[va] w fun e w' => ∃ v, e = .returned v ∧ ByS w' v (rev8 x (wl 8 x)) ∧ Below w.heap.size w w' := by
  obtain ⟨A, c, rfl, hl, hf⟩ := ha
  obtain ⟨k, hk⟩ := Ev.rounds (rbytes_ev x hx)
  refine (locutionref25_Bytes.calls k A c _ _ w (Kd.F_now hf) hl hk).mono ?_
  rintro e w1 ⟨v, rfl, hv, hb⟩
  exact ⟨v, rfl, ByS.of_R hv, hb⟩
end
end Go.Proofs.Yteikhnmmkanndaa
namespace Go.Proofs.Yteikhnmmkanndaa
open Go.RowKit
theorem u64_id (n : Int) (h0 : 0 ≤ n) (h1 : n < 2 ^ 64) : IntKind.u64.wrap n = n := by rw [PAll.wrap_u64]; omega
theorem u64_nat (n : Nat) : IntKind.u64.wrap (n : Int) = ((n % 2 ^ 64 : Nat) : Int) := by rw [PAll.wrap_u64]; omega
theorem or64 {T y i : Nat} (hT : T < 2 ^ i) (hi : i ≤ 64) (hy : y % 2 ^ i = 0) (hyb : y < 2 ^ 64) : bits .or .u64 (T : Int) (y : Int) = ((T + y : Nat) : Int) := by
  have hTb : T < 2 ^ 64 := Nat.lt_of_lt_of_le hT (Nat.pow_le_pow_right (by decide) hi)
  rw [(bits_nat .u64 64 (by decide) u64_id T y hTb hyb).2, Nat.or_comm]
  have hq : y = 2 ^ i * (y / 2 ^ i) := by
    have := Nat.div_add_mod y (2 ^ i)
    omega
  rw [hq, ← Nat.two_pow_add_eq_or_of_lt hT (y / 2 ^ i), ← hq, Nat.add_comm]
theorem or64' {T y i : Nat} (hT : T < 2 ^ i) (hi : i ≤ 64) (hy : y % 2 ^ i = 0) (hyb : y < 2 ^ 64) : bits .or .u64 (y : Int) (T : Int) = ((T + y : Nat) : Int) := by
  have hTb : T < 2 ^ 64 := Nat.lt_of_lt_of_le hT (Nat.pow_le_pow_right (by decide) hi)
  rw [← or64 hT hi hy hyb, (bits_nat .u64 64 (by decide) u64_id T y hTb hyb).2, (bits_nat .u64 64 (by decide) u64_id y T hyb hTb).2, Nat.or_comm]
theorem shl64 (x n : Nat) : IntKind.u64.wrap ((x : Int) * 2 ^ n) = ((x * 2 ^ n % 2 ^ 64 : Nat) : Int) := by
  rw [← u64_nat, Int.natCast_mul, Int.natCast_pow]
  rfl
theorem shr64 (x n : Nat) : (x : Int) / 2 ^ n = ((x / 2 ^ n : Nat) : Int) := by
  rw [Int.natCast_ediv, Int.natCast_pow]
  rfl
def bn (l : List Int) (i : Nat) : Nat := num 8 (byt l) i
theorem bn_succ (l : List Int) (i : Nat) : bn l (i + 1) = bn l i + 2 ^ (8 * i) * byt l i := rfl
theorem bn_lt {l : List Int} (h : Bys l) (i : Nat) : bn l i < 2 ^ (8 * i) := num_lt (byt_lt h) i
theorem read_word {l : List Int} (h : Bys l) {k q r : Nat} (hq : k / 8 = q) (hr : k % 8 = r) : bits .or .u64 ((dig 64 (bn l k) q : Nat) : Int) (IntKind.u64.wrap ((byt l k : Nat) * 2 ^ (8 * r))) = ((dig 64 (bn l (k + 1)) q : Nat) : Int) := by
  have hk : 2 ^ (8 * k) = 2 ^ (64 * q) * 2 ^ (8 * r) := by rw [← Nat.pow_add]; congr 1; omega
  have hb := byt_lt h k
  have hT : bn l k / 2 ^ (64 * q) < 2 ^ (8 * r) := by
    rw [Nat.div_lt_iff_lt_mul (Nat.two_pow_pos _), Nat.mul_comm, ← hk]
    exact bn_lt h k
  have hr8 : 2 ^ (8 * r) ≤ 2 ^ 56 := Nat.pow_le_pow_right (by decide) (by omega)
  have h1 : dig 64 (bn l k) q = bn l k / 2 ^ (64 * q) := Nat.mod_eq_of_lt (Nat.lt_of_lt_of_le hT (Nat.le_trans hr8 (by decide)))
  have hm : byt l k * 2 ^ (8 * r) ≤ 255 * 2 ^ (8 * r) := Nat.mul_le_mul_right _ (by omega)
  have hmb : byt l k * 2 ^ (8 * r) < 2 ^ 64 := by
    generalize byt l k * 2 ^ (8 * r) = z at *
    generalize 2 ^ (8 * r) = y at *
    omega
  have h2 : bn l (k + 1) / 2 ^ (64 * q) = bn l k / 2 ^ (64 * q) + byt l k * 2 ^ (8 * r) := by
    rw [bn_succ, hk, Nat.mul_assoc, Nat.add_mul_div_left _ _ (Nat.two_pow_pos _), Nat.mul_comm (byt l k)]
  have h3 : dig 64 (bn l (k + 1)) q = bn l k / 2 ^ (64 * q) + byt l k * 2 ^ (8 * r) := by
    rw [← h2]
    refine Nat.mod_eq_of_lt ?_
    rw [h2]
    generalize byt l k * 2 ^ (8 * r) = z at *
    generalize bn l k / 2 ^ (64 * q) = x at *
    generalize 2 ^ (8 * r) = y at *
    omega
  rw [shl64, Nat.mod_eq_of_lt hmb, h3, h1]
  exact or64 hT (by omega) (Nat.mul_mod_left _ _) hmb
theorem read_else {l : List Int} (h : Bys l) {k q j : Nat} (hq : k / 8 = q) (hj : j ≠ q) : dig 64 (bn l (k + 1)) j = dig 64 (bn l k) j := by
  rcases Nat.lt_or_ge j q with h1 | h1
  · rw [← dig_mod (x := bn l (k + 1)) h1, ← dig_mod (x := bn l k) h1, bn_succ]
    have hk : 2 ^ (8 * k) = 2 ^ (64 * q) * 2 ^ (8 * (k % 8)) := by rw [← Nat.pow_add]; congr 1; omega
    rw [hk, Nat.mul_assoc, Nat.add_mul_mod_self_left]
  · rw [dig_zero_of_lt (Nat.lt_of_lt_of_le (bn_lt h (k + 1)) (Nat.pow_le_pow_right (by decide) (by omega))),
      dig_zero_of_lt (Nat.lt_of_lt_of_le (bn_lt h k) (Nat.pow_le_pow_right (by decide) (by omega)))]
end Go.Proofs.Yteikhnmmkanndaa
namespace Go.Proofs.Yteikhnmmkanndaa
open Go.RowKit Go.Proofs.YteikhnmmkanndaaW.PrintWords
set_option maxRecDepth 100000 in
set_option maxHeartbeats 1000000 in
theorem nread_any (v : Value) (l : List Int) (w : World) (h : ByS w v l) (hb : Bys l) (hl : l.length ≤ 1099511627776) : Calls Try.prog 21 #[v] w fun e w' => ∃ u, e = .returned u ∧ N64 w' u (be l) ∧ Below w.heap.size w w' := by
  obtain ⟨A, c, rfl, hlc, hf⟩ := h
  have HF := Lib.hid (Kd.F_now hf)
  have HBY := Lib.hid hb
  have HBE := Lib.hid (be_lt hb)
  have HL0 := Lib.hid (show be l = bn l l.length from rfl)
  clear hf hb
  obtain ⟨L, hL⟩ : ∃ L, l.length = L := ⟨_, rfl⟩
  rw [hL] at hlc hl HF HBE HL0
  rw [hL]
  have HL := Lib.hid hL
  clear hL
  obtain ⟨N, hN⟩ : ∃ N, (L + 7) / 8 = N := ⟨_, rfl⟩
  have hN1 : L ≤ 8 * N := by omega
  have hN2 : 8 * N ≤ L + 7 := by omega
  have hmk := run_make_row' (P := Try.prog) 24 62 (.int .u64 0) 8 Try.underlying24 Try.info62 rfl .i64 .i64 N (by omega) (by omega)
  have hNi : ((L : Int) + 7) / 8 = (N : Int) := by omega
  clear hN
  have e0 := Blk.new w 26 #[.slice none 0 0]
  have hrow := World.rowIs_made (w.alloc (.cells #[.slice none 0 0] 26)) (.int .u64 0) N 62
  have hb0 := cba (Below.refl _ w) (.cells #[.slice none 0 0] 26)
  have hsz0 : w.heap.size + 1 ≤ (w.alloc (.cells #[.slice none 0 0] 26)).heap.size := by simp
  go_enter Try.func21, Try.ntmps21
  go_wp2_with fail
  obtain ⟨S, hS⟩ : ∃ S, w.alloc (.cells #[.slice none 0 0] 26) = S := ⟨_, rfl⟩
  have hsz1 : S.heap.size = w.heap.size + 1 := by rw [← hS]; simp
  rw [hS] at e0 hrow hb0 hsz0 ⊢
  clear hS
  rw [hsz1] at hrow
  have HSZ := Lib.hid hsz1
  have HROW := Lib.hid hrow
  have HE0 := Lib.hid e0
  clear hsz1 hrow e0
  clear hNi
  go_loopw [12] (fun v12 wr => ∃ k : Nat, k ≤ L ∧ v12 = .int .i64 k ∧ wr.rowIs (w.heap.size + 1) 62 N (fun j => .int .u64 (dig 64 (bn l k) j : Nat)) ∧ Below S.heap.size S wr) (fun v12 _ => L - (intOf v12).toNat)
  case atStart =>
    exact ⟨0, Nat.zero_le _, rfl, HROW.out.congr (fun j _ => by rw [show bn l 0 = 0 from rfl, dig_zero_of_lt (Nat.two_pow_pos _)]; rfl), cba (Below.refl _ _) _⟩
  case round =>
    obtain ⟨k, hk, rfl, hrw, hbr⟩ := hrel
    by_cases hlt : k < L
    · obtain ⟨q, hq⟩ : ∃ q, k / 8 = q := ⟨_, rfl⟩
      obtain ⟨r, hr⟩ : ∃ r, k % 8 = r := ⟨_, rfl⟩
      obtain ⟨p, hp⟩ : ∃ p, L - 1 - k = p := ⟨_, rfl⟩
      have hk8 : q < N := by omega
      have hr8 : r < 8 := by omega
      have hpL : p < L := by omega
      have j0 : (k : Int).tdiv 8 = (q : Int) := by rw [← hq]; rfl
      have j0' : (k : Int) / 8 = (q : Int) := by omega
      have j2 : (k : Int).tmod 8 = (r : Int) := by rw [← hr]; rfl
      have j2' : (k : Int) % 8 = (r : Int) := by omega
      have j5 : (L : Int) - 1 - (k : Int) = (p : Int) := by omega
      have j4 : IntKind.i64.wrap ((L : Int) - 1) = (L : Int) - 1 := IntWalk.i64_in _ (by omega)
      have HQ := Lib.hid hq
      have HR := Lib.hid hr
      have HP := Lib.hid hp
      clear hq hr hp
      obtain ⟨ad, rfl, hcA⟩ := Kd.at_int HF.out (p : Int) (Int.natCast_nonneg _) (by omega)
      rw [Int.toNat_natCast] at hcA
      have gA : wr.cell? (ad.add p) = some (.int .u8 (rd l (p : Int))) := by
        have h1 := (hb0.cell (World.block_lt_of_cell? w _ hcA)).trans hcA
        exact (hbr.cell (World.block_lt_of_cell? S _ h1)).trans h1
      have hri := rd_in HBY.out (p : Int)
      obtain ⟨bt, hbt⟩ : ∃ bt : Nat, rd l (p : Int) = (bt : Int) := ⟨(rd l (p : Int)).toNat, by omega⟩
      rw [hbt] at gA hri
      have HBT := Lib.hid hbt
      have r0 : wr.cell? ⟨w.heap.size + 1, q, none⟩ = some (.int .u64 (dig 64 (bn l k) q : Nat)) := hrw.cell hk8
      have fr := hrw.frozen q
      have HRW := Lib.hid hrw
      clear hcA hrw hbt
      generalize hdd : dig 64 (bn l k) q = d at r0
      have HD := Lib.hid hdd
      clear hdd
      have j1 : IntKind.i64.wrap (q : Int) = (q : Int) := IntWalk.i64_in _ (by omega)
      have j3 : IntKind.i64.wrap (8 * (r : Int)) = 8 * (r : Int) := IntWalk.i64_in _ (by omega)
      have j3' : IntKind.u64.wrap (8 * (r : Int)) = 8 * (r : Int) := by rw [PAll.wrap_u64]; omega
      have j10 : IntKind.u64.wrap (bt : Int) = (bt : Int) := by rw [PAll.wrap_u64]; omega
      have j6 : (0 : Int) ≤ (p : Int) := by omega
      have j7 : (p : Int) < (L : Int) := by omega
      have j8 : (0 : Int) ≤ (q : Int) := by omega
      have j9 : (q : Int) < (N : Int) := by omega
      have j11 : IntKind.i64.wrap (p : Int) = (p : Int) := IntWalk.i64_in _ (by omega)
      go_wp2_with fail
      go_still_tail 21, (by kernel_rfl)
      go_wp2
      go_roundw
      case rel =>
        refine ⟨k + 1, by omega, by go_num, ?_, hbr.setCell (p := ⟨w.heap.size + 1, q, none⟩) (by have := HSZ.out; exact Nat.le_of_eq this) _ |>.drew⟩
        have hw := read_word HBY.out HQ.out HR.out
        rw [HD.out, show byt l k = bt from by
          unfold byt
          rw [HL.out, show ((L : Int) - 1 - (k : Int)) = (p : Int) by omega, HBT.out, Int.toNat_natCast]] at hw
        rw [hw]
        refine (HRW.out.drew.set q _).congr (fun j _ => ?_)
        by_cases h1 : j = q
        · subst h1; rw [if_pos rfl]
        · rw [if_neg h1, read_else HBY.out HQ.out h1]
      case measure => simp [intOf]; omega
    · obtain rfl : k = L := by omega
      have HLT := Lib.hid (Nat.lt_of_lt_of_le HBE.out (Nat.pow_le_pow_right (show 0 < 2 by decide) (show 8 * k ≤ 64 * N by omega)))
      have HRW := Lib.hid hrw
      clear hrw
      go_wp2_with fail
      refine (trim_any _ _ _ (be l) _ (Nat.le_refl _) (by unfold maxLen; omega) (Digs.of_row HRW.out (Nat.le_refl _) (fun i hi => by rw [HL0.out])) HLT.out).mono ?_
      rintro e w4 ⟨v, rfl, ⟨A4, cap4, rfl, hl4, hm4, hd4⟩, hb4⟩
      have s4 := (blk_below HE0.out hbr).below hb4 (by have := hbr.size; omega)
      have k4 : w4.cell? ⟨w.heap.size, 0, none⟩ = some (.slice none 0 0) := s4.cell 0
      have f4 := s4.frozen 0
      have HD := Lib.hid (hd4.put s4 (.slice A4 (wl 64 (be l)) cap4))
      have hbb := (hb0.trans (hbr.mono (by omega))).trans (hb4.mono (by have := hbr.size; omega))
      clear hd4
      go_wp2
      exact bodyPost_ret (v := .agg #[.slice A4 (wl 64 (be l)) cap4]) (by simp [results, Try.results21, go_sem, k4]) rfl ⟨_, rfl, ⟨A4, cap4, rfl, hl4, hm4, HD.out⟩, hbb.setCell (p := ⟨w.heap.size, 0, none⟩) (Nat.le_refl _) _⟩
end Go.Proofs.Yteikhnmmkanndaa
namespace Go.Proofs.Yteikhnmmkanndaa
open Go.RowKit Go.Proofs.YteikhnmmkanndaaW.PrintWords
theorem byte_dig {x k q r : Nat} (hq : k / 8 = q) (hr : k % 8 = r) : dig 64 x q / 2 ^ (8 * r) % 256 = dig 8 x k := by
  unfold dig
  have hk : 2 ^ (8 * k) = 2 ^ (64 * q) * 2 ^ (8 * r) := by rw [← Nat.pow_add]; congr 1; omega
  have h64 : (2 : Nat) ^ 64 = 2 ^ (8 * r) * 2 ^ (64 - 8 * r) := by rw [← Nat.pow_add]; congr 1; omega
  rw [hk, ← Nat.div_div_eq_div_mul, h64, Nat.mod_mul_right_div_self]
  exact Nat.mod_mod_of_dvd _ ⟨2 ^ (56 - 8 * r), by rw [show (256 : Nat) = 2 ^ 8 from rfl, ← Nat.pow_add]; congr 1; omega⟩
theorem byS_of_row {w : World} {g n : Nat} {f : Nat → Nat} (h : w.rowIs g 5 n (fun j => .int .u8 (f j : Nat))) (hn : n ≤ 1099511627776) : ByS w (.slice (some ⟨g, 0, none⟩) n n) (fl f n) := by
  refine ⟨some ⟨g, 0, none⟩, n, by rw [fl_len], by rw [fl_len]; exact Nat.le_refl _, ?_⟩
  intro W' hW
  have hb : W'.heap[g]? = w.heap[g]? := hW g trivial h.lt
  refine Kd.C_of_reads (d := 0) ⟨rfl, by rw [fl_len]; omega, fun _ => ⟨⟨g, 0, none⟩, rfl, fun j hj => ?_⟩⟩
  rw [fl_len] at hj
  have hc := h.cell hj
  rw [show (fl f n).getD j 0 = ((f j : Nat) : Int) from by rw [List.getD_eq_getElem?_getD, fl_get, if_pos hj]; rfl]
  rw [← hc]
  rw [show (⟨g, 0, none⟩ : Addr).add j = ⟨g, j, none⟩ by
    cases j with
    | zero => rfl
    | succ j => simp [Addr.add]]
  exact World.cell?_of_block hb
set_option maxRecDepth 100000 in
set_option maxHeartbeats 1000000 in
theorem nbytes_any (v : Value) (x : Nat) (w : World) (h : N64 w v x) (hx : wl 64 x ≤ 1099511627) : Calls Try.prog 104 #[v] w fun e w' => ∃ u, e = .returned u ∧ ByS w' u (rev8 x (wl 8 x)) ∧ Below w.heap.size w w' := by
  have HN := Lib.hid h
  have hbl := bl_le_wl (k := 64) (by decide) x
  have hw8 : (bl x + 7) / 8 = wl 8 x := rfl
  obtain ⟨A, ca, rfl, hla, hma, hda⟩ := h
  have HDA := Lib.hid hda
  have HLT := Lib.hid (wl_lt (k := 8) (by decide) x)
  have hle : wl 8 x ≤ 8 * wl 64 x := by omega
  have hbits := fun W h1 => bits_any (.agg #[.slice A (wl 64 x) ca]) x W h1 (by omega)
  clear hda
  unfold maxLen at hma
  obtain ⟨m, hm⟩ : ∃ m, wl 64 x = m := ⟨_, rfl⟩
  rw [hm] at hla hx HDA HN hbl hle hbits ⊢
  clear hm
  have HBITS := Lib.hid hbits
  clear hbits
  obtain ⟨p, hp⟩ : ∃ p, bl x = p := ⟨_, rfl⟩
  rw [hp] at hbl hw8 HBITS
  clear hp
  obtain ⟨n, hn⟩ : ∃ n, wl 8 x = n := ⟨_, rfl⟩
  rw [hn] at hw8 HLT hle ⊢
  clear hn
  have hw8' : ((p : Int) + 7) / 8 = (n : Int) := by omega
  have hnb : n ≤ 8796093022208 := by omega
  have hmk := run_make_row' (P := Try.prog) 22 5 (.int .u8 0) 1 Try.underlying22 PAll.info5 rfl .i64 .i64 n (by omega) (by omega)
  have e0 := Blk.new w 26 #[.slice A m ca]
  have hb0 := cba (Below.refl _ w) (.cells #[.slice A m ca] 26)
  go_enter Try.func104, Try.ntmps104
  go_wp2_with fail
  refine (HBITS.out _ (HN.out.below hb0)).mono ?_
  rintro e S ⟨rfl, hb1⟩
  have hbS := cbt hb0 hb1
  have hg : w.heap.size + 1 ≤ S.heap.size := by have := hb1.size; simp at this; exact this
  have S0 := Lib.hid (blk_below e0 hb1)
  have HROW := Lib.hid (World.rowIs_made S (.int .u8 0) n 5)
  clear hb0 hb1 e0 hw8
  go_upto_region 2 with (fail)
  rw [hw8']
  clear hw8'
  go_wp2_with fail
  go_loopw [13] (fun v13 wr => ∃ k : Nat, k ≤ n ∧ v13 = .int .i64 k ∧ wr.rowIs S.heap.size 5 n (fun j => .int .u8 ((if n ≤ j + k then dig 8 x (n - 1 - j) else 0 : Nat) : Int)) ∧ Below S.heap.size S wr) (fun v13 _ => n - (intOf v13).toNat)
  case atStart =>
    exact ⟨0, Nat.zero_le _, rfl, HROW.out.congr (fun j hj => by rw [if_neg (by omega)]; rfl), cba (Below.refl _ _) _⟩
  case round =>
    obtain ⟨k, hk, rfl, hrw, hbr⟩ := hrel
    have g0 : wr.cell? ⟨w.heap.size, 0, none⟩ = some (.slice A m ca) := (blk_below S0.out hbr).cell 0
    by_cases hlt : k < n
    · obtain ⟨q, hq⟩ : ∃ q, k / 8 = q := ⟨_, rfl⟩
      obtain ⟨r, hr⟩ : ∃ r, k % 8 = r := ⟨_, rfl⟩
      obtain ⟨t, ht⟩ : ∃ t, n - 1 - k = t := ⟨_, rfl⟩
      have hqm : q < m := by omega
      have hr8 : r < 8 := by omega
      have htn : t < n := by omega
      have j0' : (k : Int) / 8 = (q : Int) := by omega
      have j2' : (k : Int) % 8 = (r : Int) := by omega
      have j5 : (n : Int) - 1 - (k : Int) = (t : Int) := by omega
      obtain ⟨bA, oA, rfl, hltA, hcA⟩ := HDA.out q hqm
      have gA : wr.cell? ⟨bA, oA + q, none⟩ = some (.int .u64 (dig 64 x q : Nat)) := (hbr.cell (p := ⟨bA, oA + q, none⟩) (show bA < S.heap.size by omega)).trans ((hbS.cell (p := ⟨bA, oA + q, none⟩) hltA).trans hcA)
      have r0 : wr.cell? ⟨S.heap.size, t, none⟩ = some (.int .u8 ((if n ≤ t + k then dig 8 x (n - 1 - t) else 0 : Nat) : Int)) := hrw.cell htn
      rw [if_neg (by omega)] at r0
      have fr := hrw.frozen t
      have HBD := Lib.hid (byte_dig (x := x) hq hr)
      have HQ := Lib.hid hq
      have HR := Lib.hid hr
      have HT := Lib.hid ht
      have HRW := Lib.hid hrw
      clear hcA hrw hq hr ht
      generalize hdd : dig 64 x q = d at gA HBD
      clear hdd
      have j3' : IntKind.u64.wrap (8 * (r : Int)) = 8 * (r : Int) := by rw [PAll.wrap_u64]; omega
      go_wp2_with fail
      go_roundw
      case rel =>
        refine ⟨k + 1, by omega, by go_num, ?_, hbr.setCell (p := ⟨S.heap.size, t, none⟩) (Nat.le_refl _) _⟩
        rw [shr64, show (((d / 2 ^ (8 * r) : Nat) : Int) % 256) = ((d / 2 ^ (8 * r) % 256 : Nat) : Int) from rfl, HBD.out]
        have ht := HT.out
        refine (HRW.out.set t _).congr (fun j hj => ?_)
        by_cases h1 : j = t
        · subst h1
          rw [if_pos rfl, if_pos (by omega), show n - 1 - j = k by omega]
        · rw [if_neg h1]
          by_cases h2 : n ≤ j + k
          · rw [if_pos h2, if_pos (by omega)]
          · rw [if_neg h2, if_neg (by omega)]
      case measure => simp [intOf]; omega
    · obtain rfl : k = n := by omega
      have HRW := Lib.hid hrw
      clear hrw
      go_wp2
      go_ret
      refine ⟨_, rfl, ?_, hbS.trans (hbr.mono (by omega))⟩
      exact byS_of_row (f := fun i => dig 8 x (k - 1 - i)) (HRW.out.congr (fun j hj => by rw [if_pos (by omega)])) (by omega)
theorem ByS.at_ {w : World} {A : Option Addr} {m c : Nat} {f : Nat → Nat} {n : Nat} (h : ByS w (.slice A m c) (fl f n)) (i : Nat) (hi : i < n) : ∃ ad, A = some ad ∧ w.cell? (ad.add i) = some (.int .u8 (f i : Nat)) := by
  obtain ⟨h1, _, h2⟩ := Kd.V_reads' h
  rw [fl_len] at h1 h2
  obtain ⟨ad, e, hc⟩ := Kd.at_int h2 (i : Int) (Int.natCast_nonneg _) (by omega)
  rw [rd_fl hi, Int.toNat_natCast] at hc
  exact ⟨ad, e, hc⟩
set_option maxRecDepth 100000 in
set_option maxHeartbeats 1000000 in
theorem is_any (va vb : Value) (x y : Nat) (w : World) (ha : N64 w va x) (hb : R256 w vb y) (hx : wl 64 x ≤ 1099511627) (hy : wl 8 y ≤ 1000000000) : Calls Try.prog 26 #[va, vb] w fun e w' => e = .returned (.bool (decide (x = y))) ∧ Below w.heap.size w w' := by
  have HA := Lib.hid ha
  have HB := Lib.hid hb
  have HNB := Lib.hid (fun W h => nbytes_any va x W h hx)
  have HRB := Lib.hid (fun W (h : R256 W vb y) => rbytes_any h hy)
  obtain ⟨A, ca, rfl, hla, hma, hda⟩ := ha
  have hb0 := cba (Below.refl _ w) (.cells #[.slice A (wl 64 x) ca] 26)
  have hwx : wl 8 x ≤ 8 * wl 64 x := by
    have := bl_le_wl (k := 64) (by decide) x
    have h2 : wl 8 x = (bl x + 7) / 8 := rfl
    omega
  have HEX := Lib.hid (fun (h : wl 8 x = wl 8 y) => dig_ext (k := 8) (wl 8 x) (wl_lt (by decide) x) (y := y) (by rw [h]; exact wl_lt (by decide) y))
  clear hda
  unfold maxLen at hma
  obtain ⟨m, hm⟩ : ∃ m, wl 64 x = m := ⟨_, rfl⟩
  rw [hm] at hla hx HA HNB hb0 hwx ⊢
  clear hm
  obtain ⟨D, hD⟩ : ∃ D, decide (x = y) = D := ⟨_, rfl⟩
  have HD := Lib.hid hD
  have HWL := Lib.hid (fun (h : x = y) => show wl 8 x = wl 8 y by rw [h])
  rw [hD]
  clear hD
  obtain ⟨n, hn⟩ : ∃ n, wl 8 x = n := ⟨_, rfl⟩
  obtain ⟨l, hl⟩ : ∃ l, wl 8 y = l := ⟨_, rfl⟩
  rw [hn] at HNB HEX HWL hwx
  rw [hl] at HRB HEX HWL hy
  clear hn hl
  have HZ := Lib.hid hb0
  clear hb0
  go_enter Try.func26, Try.ntmps26
  go_wp2_with fail
  refine (HNB.out _ (HA.out.below HZ.out)).mono ?_
  rintro e w1 ⟨u, rfl, hu, hb1⟩
  have H1 := Lib.hid (cbt HZ.out hb1)
  have HU := Lib.hid hu
  clear hu hb1
  go_wp2_with fail
  refine (HRB.out _ (HB.out.below H1.out)).mono ?_
  rintro e S ⟨v, rfl, hv, hb2⟩
  have H2 := Lib.hid (cbt H1.out hb2)
  have hu := HU.out.below hb2
  clear HU hb2
  obtain ⟨U, cu, hU, hul, _⟩ := id hu
  obtain ⟨V, cv, hV, hvl, _⟩ := id hv
  rw [rev8, fl_len] at hU hul hV hvl
  subst hU
  subst hV
  rw [rev8] at hu hv
  have HU := Lib.hid hu
  have HV := Lib.hid hv
  clear hu hv
  by_cases hnl : n = l
  · subst hnl
    go_wp2_with fail
    go_loopw [7] (fun v7 wr => ∃ k : Nat, k ≤ n ∧ v7 = .int .i64 k ∧ Hid (∀ i, i < k → dig 8 x (n - 1 - i) = dig 8 y (n - 1 - i)) ∧ Drew S wr) (fun v7 _ => n - (intOf v7).toNat)
    case atStart => exact ⟨0, Nat.zero_le _, rfl, Lib.hid (fun i hi => absurd hi (by omega)), Drew.refl _⟩
    case round =>
      obtain ⟨k, hk, rfl, hpre, hdr⟩ := hrel
      by_cases hlt : k < n
      · obtain ⟨aU, rfl, gU0⟩ := HU.out.at_ k hlt
        obtain ⟨aV, rfl, gV0⟩ := HV.out.at_ k hlt
        have gU := (hdr.cell (aU.add k)).trans gU0
        have gV := (hdr.cell (aV.add k)).trans gV0
        have i0 : (0 : Int) ≤ (k : Int) := by omega
        have i1 : (k : Int) < (n : Int) := by omega
        clear gU0 gV0
        by_cases hd : dig 8 x (n - 1 - k) = dig 8 y (n - 1 - k)
        · have HP := Lib.hid (show ∀ i, i < k + 1 → dig 8 x (n - 1 - i) = dig 8 y (n - 1 - i) from fun i hi => by
            rcases Nat.lt_or_ge i k with h | h
            · exact hpre.out i h
            · rw [show i = k by omega, hd])
          rw [← hd] at gV
          clear hd
          go_wp2_with fail
          go_quiet (fail)
          go_wp2
          go_roundw
          case rel => exact ⟨k + 1, by omega, by go_num, HP, hdr.more _⟩
          case measure => simp [intOf]; omega
        · have hne : (((dig 8 x (n - 1 - k) : Nat) : Int) != ((dig 8 y (n - 1 - k) : Nat) : Int)) = true := by rw [bne_iff_ne]; omega
          have HF := Lib.hid (show D = false from by rw [← HD.out, decide_eq_false_iff_not]; rintro rfl; exact hd rfl)
          clear hd
          generalize dig 8 x (n - 1 - k) = d1 at gU hne
          generalize dig 8 y (n - 1 - k) = d2 at gV hne
          go_wp2_with fail
          go_quiet (fail)
          go_wp2
          go_ret
          exact ⟨by rw [HF.out]; rfl, below_drewN (cbt H2.out hdr.below) _⟩
      · obtain rfl : k = n := by omega
        have HT := Lib.hid (show D = true from by
          rw [← HD.out, decide_eq_true_iff]
          exact HEX.out (by first | rfl | trivial) (fun i hi => by have := hpre.out (k - 1 - i) (by omega); rwa [show k - 1 - (k - 1 - i) = i by omega] at this))
        go_wp2
        go_ret
        exact ⟨by rw [HT.out]; rfl, cbt H2.out hdr.below⟩
  · have HF := Lib.hid (show D = false from by rw [← HD.out, decide_eq_false_iff_not]; intro h; exact hnl (HWL.out h))
    have hne : ((n : Int) != (l : Int)) = true := by rw [bne_iff_ne]; omega
    clear hnl
    go_wp2
    go_ret
    exact ⟨by rw [HF.out]; rfl, H2.out⟩
end Go.Proofs.Yteikhnmmkanndaa
namespace Go.Proofs.Yteikhnmmkanndaa
open Go.RowKit Go.Proofs.YteikhnmmkanndaaW.PrintWords
def upV (x k r i : Nat) : Nat := x % 2 ^ (64 * i) * 2 ^ (64 * k + r)
theorem upV_zero (x k r : Nat) : upV x k r 0 = 0 := by unfold upV; rw [Nat.mul_zero, Nat.pow_zero, Nat.mod_one, Nat.zero_mul]
theorem upV_succ (x k r i : Nat) : upV x k r (i + 1) = upV x k r i + 2 ^ (64 * (i + k)) * (dig 64 x i * 2 ^ r) := by
  unfold upV
  rw [mod_succ, Nat.add_mul, Nat.mul_add 64, Nat.pow_add 2 (64 * k), Nat.pow_add 2 (64 * i), Nat.mul_assoc (2 ^ (64 * i)), Nat.mul_assoc (2 ^ (64 * i)), Nat.mul_left_comm (dig 64 x i)]
theorem upV_lt (x k r i : Nat) : upV x k r i < 2 ^ (64 * (i + k)) * 2 ^ r := by
  unfold upV
  rw [Nat.mul_add, Nat.pow_add 2 (64 * i), Nat.pow_add 2 (64 * k), Nat.mul_assoc]
  exact Nat.mul_lt_mul_of_pos_right (Nat.mod_lt _ (Nat.two_pow_pos _)) (Nat.mul_pos (Nat.two_pow_pos _) (Nat.two_pow_pos _))
theorem upV_top (x k r i : Nat) : upV x k r i / 2 ^ (64 * (i + k)) < 2 ^ r := by
  rw [Nat.div_lt_iff_lt_mul (Nat.two_pow_pos _), Nat.mul_comm]
  exact upV_lt x k r i
theorem upV_div (x k r i : Nat) : upV x k r (i + 1) / 2 ^ (64 * (i + k)) = upV x k r i / 2 ^ (64 * (i + k)) + dig 64 x i * 2 ^ r := by
  rw [upV_succ, Nat.add_mul_div_left _ _ (Nat.two_pow_pos _)]
theorem join_mod {T y r : Nat} (hT : T < 2 ^ r) (hr : r ≤ 64) (hy : y % 2 ^ r = 0) : (T + y) % 2 ^ 64 = T + y % 2 ^ 64 ∧ (T + y) / 2 ^ 64 = y / 2 ^ 64 := by
  have h64 : (2 : Nat) ^ 64 = 2 ^ r * 2 ^ (64 - r) := by rw [← Nat.pow_add]; congr 1; omega
  have h1 : y % 2 ^ 64 % 2 ^ r = 0 := by rw [h64, Nat.mod_mul_right_mod, hy]
  have h2 : y % 2 ^ 64 < 2 ^ 64 := Nat.mod_lt _ (by decide)
  have h3 : T + y % 2 ^ 64 < 2 ^ 64 := by
    have h4 : y % 2 ^ 64 = 2 ^ r * (y % 2 ^ 64 / 2 ^ r) := by
      have := Nat.div_add_mod (y % 2 ^ 64) (2 ^ r)
      omega
    have h5 : y % 2 ^ 64 / 2 ^ r < 2 ^ (64 - r) := by
      rw [Nat.div_lt_iff_lt_mul (Nat.two_pow_pos _), Nat.mul_comm, ← h64]
      exact h2
    have h6 : 2 ^ r * (y % 2 ^ 64 / 2 ^ r + 1) ≤ 2 ^ r * 2 ^ (64 - r) := Nat.mul_le_mul_left _ h5
    rw [← h64, Nat.mul_add, Nat.mul_one] at h6
    omega
  have h7 := Nat.div_add_mod y (2 ^ 64)
  constructor
  · rw [Nat.add_mod, Nat.mod_eq_of_lt (show T < 2 ^ 64 by omega), Nat.mod_eq_of_lt h3]
  · rw [show T + y = (T + y % 2 ^ 64) + 2 ^ 64 * (y / 2 ^ 64) by omega, Nat.add_mul_div_left _ _ (by decide), Nat.div_eq_of_lt h3, Nat.zero_add]
theorem up_word1 (x k r i : Nat) (hr : r < 64) : bits .or .u64 ((dig 64 (upV x k r i) (i + k) : Nat) : Int) (IntKind.u64.wrap ((dig 64 x i : Nat) * 2 ^ r)) = ((dig 64 (upV x k r (i + 1)) (i + k) : Nat) : Int) := by
  have hT := upV_top x k r i
  have h1 : dig 64 (upV x k r i) (i + k) = upV x k r i / 2 ^ (64 * (i + k)) := Nat.mod_eq_of_lt (Nat.lt_of_lt_of_le hT (Nat.pow_le_pow_right (by decide) (by omega)))
  have h2 : dig 64 (upV x k r (i + 1)) (i + k) = upV x k r i / 2 ^ (64 * (i + k)) + dig 64 x i * 2 ^ r % 2 ^ 64 := by
    unfold dig at h1 ⊢
    rw [upV_div]
    exact (join_mod hT (by omega) (Nat.mul_mod_left _ _)).1
  rw [shl64, h1, h2]
  refine or64 hT (by omega) ?_ (Nat.mod_lt _ (by decide))
  rw [show (2 : Nat) ^ 64 = 2 ^ r * 2 ^ (64 - r) from by rw [← Nat.pow_add]; congr 1; omega, Nat.mod_mul_right_mod, Nat.mul_mod_left]
theorem up_word2 (x k r i : Nat) (hr : r < 64) : dig 64 (upV x k r (i + 1)) (i + k + 1) = dig 64 x i / 2 ^ (64 - r) := by
  have hT := upV_top x k r i
  have hd := dig_lt 64 x i
  have h3 : dig 64 x i * 2 ^ r / 2 ^ 64 = dig 64 x i / 2 ^ (64 - r) := by
    rw [show (2 : Nat) ^ 64 = 2 ^ r * 2 ^ (64 - r) from by rw [← Nat.pow_add]; congr 1; omega, Nat.mul_comm (dig 64 x i), Nat.mul_div_mul_left _ _ (Nat.two_pow_pos _)]
  unfold dig at hd h3 ⊢
  rw [pow_succ_mul, ← Nat.div_div_eq_div_mul, upV_div, (join_mod hT (by omega) (Nat.mul_mod_left _ _)).2]
  unfold dig
  rw [h3]
  exact Nat.mod_eq_of_lt (Nat.lt_of_le_of_lt (Nat.div_le_self _ _) hd)
theorem up_else {x k r i j : Nat} (hr : r < 64) (h0 : j ≠ i + k) (h1 : j ≠ i + k + 1) : dig 64 (upV x k r (i + 1)) j = dig 64 (upV x k r i) j := by
  rcases Nat.lt_or_ge j (i + k) with h | h
  · rw [← dig_mod (x := upV x k r (i + 1)) h, ← dig_mod (x := upV x k r i) h, upV_succ, Nat.add_mul_mod_self_left]
  · have hb : 2 ^ (64 * (i + 1 + k)) * 2 ^ r ≤ 2 ^ (64 * j) := by
      rw [← Nat.pow_add]
      exact Nat.pow_le_pow_right (by decide) (by omega)
    have hc : 2 ^ (64 * (i + k)) * 2 ^ r ≤ 2 ^ (64 * j) := by
      rw [← Nat.pow_add]
      exact Nat.pow_le_pow_right (by decide) (by omega)
    rw [dig_zero_of_lt (Nat.lt_of_lt_of_le (upV_lt x k r (i + 1)) hb), dig_zero_of_lt (Nat.lt_of_lt_of_le (upV_lt x k r i) hc)]
theorem up_none (x k i : Nat) : dig 64 (upV x k 0 (i + 1)) (i + k + 1) = dig 64 (upV x k 0 i) (i + k + 1) := by
  rw [up_word2 x k 0 i (by decide), Nat.div_eq_of_lt (dig_lt 64 x i), dig_zero_of_lt]
  exact Nat.lt_of_lt_of_le (upV_lt x k 0 i) (by rw [← Nat.pow_add]; exact Nat.pow_le_pow_right (by decide) (by omega))
theorem zero_no (v : Value) (x : Nat) (w : World) (h : N64 w v x) (h0 : 0 < x) : Calls Try.prog 29 #[v] w fun e w' => e = .returned (.bool false) ∧ Below w.heap.size w w' :=
  (zero_any v x w h).mono (fun _ _ ⟨he, hb⟩ => ⟨by rw [he, decide_eq_false (by omega)], hb⟩)
def Mk64 (w : World) (x : Nat) : Ending → World → Prop := fun e w' => ∃ v, e = .returned v ∧ N64 w' v x ∧ Below w.heap.size w w'
set_option maxRecDepth 100000 in
set_option maxHeartbeats 1000000 in
theorem nup_none (v : Value) (x : Nat) (w : World) (h : N64 w v x) (n : Int) (hn : n ≤ 0) : Calls Try.prog 31 #[v, .int .i64 n] w (Mk64 w x) := by
  have HN := Lib.hid h
  obtain ⟨A, ca, rfl, hla, hma, hda⟩ := h
  obtain ⟨m, hm⟩ : ∃ m, wl 64 x = m := ⟨_, rfl⟩
  rw [hm] at HN ⊢
  clear hm hda hla
  go_enter Try.func31, Try.ntmps31
  go_wp2_with fail
  refine bodyPost_ret (v := .agg #[.slice A m ca]) (by simp [results, Try.results31, go_sem]) rfl ⟨_, rfl, HN.out.below ?_, ?_⟩
  all_goals exact ((cba (cba (Below.refl _ w) (.cells #[.slice A m ca] 26)) (.cells #[.slice A m ca] 26)))
set_option maxRecDepth 100000 in
set_option maxHeartbeats 1000000 in
theorem nup_zero (v : Value) (w : World) (h : N64 w v 0) (n : Int) (hn : 0 < n) : Calls Try.prog 31 #[v, .int .i64 n] w (Mk64 w 0) := by
  have HN := Lib.hid h
  obtain ⟨A, ca, rfl, hla, hma, hda⟩ := h
  rw [wl_zero (by decide)] at HN ⊢
  have hb0 := cba (cba (Below.refl _ w) (.cells #[.slice A 0 ca] 26)) (.cells #[.slice none 0 0] 26)
  have e0 := (Blk.new w 26 #[.slice A 0 ca]).alloc (.cells #[.slice none 0 0] 26)
  have e1 := Blk.new (w.alloc (.cells #[.slice A 0 ca] 26)) 26 #[.slice none 0 0]
  simp only [World.size_alloc] at e1
  clear hda hla
  go_enter Try.func31, Try.ntmps31
  go_wp2_with fail
  refine (zero_any _ 0 _ (HN.out.below hb0)).mono ?_
  rintro e w1 ⟨rfl, hb1⟩
  have s0 := blk_below e0 hb1
  have s1 := blk_below e1 hb1
  have k0 : w1.cell? ⟨w.heap.size, 0, none⟩ = some (.slice A 0 ca) := s0.cell 0
  have k1 : w1.cell? ⟨w.heap.size + 1, 0, none⟩ = some (.slice none 0 0) := s1.cell 0
  have f1 := s1.frozen 0
  have hbb := (cbt hb0 hb1).setCell (p := ⟨w.heap.size + 1, 0, none⟩) (show w.heap.size ≤ w.heap.size + 1 by omega) (.slice A 0 ca)
  go_wp2_with fail
  refine bodyPost_ret (v := .agg #[.slice A 0 ca]) (by simp [results, Try.results31, go_sem, k1]) rfl ⟨_, rfl, HN.out.below ?_, ?_⟩
  all_goals exact hbb
set_option maxRecDepth 100000 in
set_option maxHeartbeats 2000000 in
theorem nup_pos (v : Value) (x : Nat) (w : World) (h : N64 w v x) (hx0 : 0 < x) (hx : wl 64 x ≤ 1099511627) (nn : Nat) (hn : 0 < nn) (hnn : nn ≤ 1099511627) : Calls Try.prog 31 #[v, .int .i64 (nn : Nat)] w (Mk64 w (x * 2 ^ nn)) := by
  have HN := Lib.hid h
  obtain ⟨A, ca, rfl, hla, hma, hda⟩ := h
  have HDA := Lib.hid hda
  have HXL := Lib.hid (wl_lt (k := 64) (by decide) x)
  have HZ := Lib.hid (fun W h => zero_no (.agg #[.slice A (wl 64 x) ca]) x W h hx0)
  obtain ⟨k, hk⟩ : ∃ k, nn / 64 = k := ⟨_, rfl⟩
  obtain ⟨r, hr⟩ : ∃ r, nn % 64 = r := ⟨_, rfl⟩
  have HNN := Lib.hid (show 64 * k + r = nn by omega)
  have hk1 : k ≤ 1099511627 := by omega
  have hr64 : r < 64 := by omega
  have j0 : (nn : Int) / 64 = (k : Int) := by omega
  have j1 : (nn : Int) % 64 = (r : Int) := by omega
  have j2 : IntKind.u64.wrap (r : Int) = (r : Int) := by rw [PAll.wrap_u64]; omega
  clear hda hk hr hx0
  unfold maxLen at hma
  obtain ⟨L, hL⟩ : ∃ L, wl 64 x = L := ⟨_, rfl⟩
  rw [hL] at hla hx HDA HN HXL HZ ⊢
  clear hL
  have hmk := run_make_row' (P := Try.prog) 24 62 (.int .u64 0) 8 Try.underlying24 Try.info62 rfl .i64 .i64 (L + k + 1) (by omega) (by omega)
  simp only [Int.natCast_add, Int.natCast_one] at hmk
  have hb0 := cba (cba (Below.refl _ w) (.cells #[.slice A L ca] 26)) (.cells #[.slice none 0 0] 26)
  have e0 := (Blk.new w 26 #[.slice A L ca]).alloc (.cells #[.slice none 0 0] 26)
  have e1 := Blk.new (w.alloc (.cells #[.slice A L ca] 26)) 26 #[.slice none 0 0]
  have hsz : w.heap.size + 2 ≤ ((w.alloc (.cells #[.slice A L ca] 26)).alloc (.cells #[.slice none 0 0] 26)).heap.size := by simp
  simp only [World.size_alloc] at e1
  go_enter Try.func31, Try.ntmps31
  go_wp2_with fail
  refine (HZ.out _ (HN.out.below hb0)).mono ?_
  rintro e S ⟨rfl, hb1⟩
  have s0 := blk_below e0 hb1
  have hbS := cbt hb0 hb1
  have hg : w.heap.size + 2 ≤ S.heap.size := by have := hb1.size; omega
  have S0 := Lib.hid s0
  have S1 := Lib.hid (blk_below e1 hb1)
  have q0 : S.cell? ⟨w.heap.size, 0, none⟩ = some (.slice A L ca) := s0.cell 0
  have q0' : (S.alloc (.cells (madeCells #[.int .u64 0] (L + k + 1)) 62)).cell? ⟨w.heap.size, 0, none⟩ = some (.slice A L ca) := (s0.alloc _).cell 0
  have HROW := Lib.hid (World.rowIs_made S (.int .u64 0) (L + k + 1) 62)
  clear e0 e1 hb0 hb1 s0 hsz
  go_upto_region 4 with (fail)
  rw [j1]
  clear j0 j1 j2
  go_wp2_with fail
  clear q0 q0'
  go_loopw [32] (fun v32 wr => ∃ i : Nat, i ≤ L ∧ v32 = .int .i64 i ∧ wr.rowIs S.heap.size 62 (L + k + 1) (fun j => .int .u64 (dig 64 (upV x k r i) j : Nat)) ∧ Below S.heap.size S wr) (fun v32 _ => L - (intOf v32).toNat)
  case atStart =>
    exact ⟨0, Nat.zero_le _, rfl, HROW.out.congr (fun j _ => by rw [upV_zero, dig_zero_of_lt (Nat.two_pow_pos _)]; rfl), cba (Below.refl _ _) _⟩
  case round =>
    obtain ⟨i, hi, rfl, hrw, hbr⟩ := hrel
    have g0 : wr.cell? ⟨w.heap.size, 0, none⟩ = some (.slice A L ca) := (blk_below S0.out hbr).cell 0
    by_cases hlt : i < L
    · obtain ⟨bA, oA, rfl, hltA, hcA⟩ := HDA.out i hlt
      have gA : wr.cell? ⟨bA, oA + i, none⟩ = some (.int .u64 (dig 64 x i : Nat)) := (hbr.cell (p := ⟨bA, oA + i, none⟩) (show bA < S.heap.size by omega)).trans ((hbS.cell (p := ⟨bA, oA + i, none⟩) hltA).trans hcA)
      have r0 : wr.cell? ⟨S.heap.size, i + k, none⟩ = some (.int .u64 (dig 64 (upV x k r i) (i + k) : Nat)) := hrw.cell (by omega)
      have r1 : wr.cell? ⟨S.heap.size, i + k + 1, none⟩ = some (.int .u64 (dig 64 (upV x k r i) (i + k + 1) : Nat)) := hrw.cell (by omega)
      have fr := hrw.frozen (i + k)
      have fr1 := hrw.frozen (i + k + 1)
      have HW1 := Lib.hid (up_word1 x k r i hr64)
      have HW2 := Lib.hid (up_word2 x k r i hr64)
      have HRW := Lib.hid hrw
      clear hcA hrw
      generalize hd1 : dig 64 x i = d at gA HW1 HW2
      generalize hd2 : dig 64 (upV x k r i) (i + k) = e0 at r0 HW1
      generalize hd3 : dig 64 (upV x k r i) (i + k + 1) = e1 at r1
      clear hd1 hd2 hd3
      rcases Nat.eq_zero_or_pos r with hr0 | hr0
      · have hr1 : r ≤ 0 := by omega
        have HR0 := Lib.hid hr0
        clear hr0
        go_wp2_with fail
        go_roundw
        case rel =>
          refine ⟨i + 1, by omega, by go_num, ?_, hbr.setCell (p := ⟨S.heap.size, i + k, none⟩) (Nat.le_refl _) _⟩
          rw [HW1.out]
          refine (HRW.out.set (i + k) _).congr (fun j hj => ?_)
          by_cases h1 : j = i + k
          · subst h1; rw [if_pos rfl]
          · rw [if_neg h1]
            by_cases h2 : j = i + k + 1
            · subst h2
              have h3 := HR0.out
              subst h3
              rw [up_none]
            · rw [up_else hr64 h1 h2]
        case measure => simp [intOf]; omega
      · have k1 : 0 < (r : Int) := by omega
        go_wp2_with fail
        go_roundw
        case rel =>
          refine ⟨i + 1, by omega, by go_num, ?_, (hbr.setCell (p := ⟨S.heap.size, i + k, none⟩) (Nat.le_refl _) _).setCell (p := ⟨S.heap.size, i + k + 1, none⟩) (Nat.le_refl _) _⟩
          rw [HW1.out, shr64, ← HW2.out]
          refine ((HRW.out.set (i + k) _).set (i + k + 1) _).congr (fun j hj => ?_)
          by_cases h1 : j = i + k + 1
          · subst h1; rw [if_pos rfl]
          · rw [if_neg h1]
            by_cases h2 : j = i + k
            · subst h2; rw [if_pos rfl]
            · rw [if_neg h2, up_else hr64 h2 h1]
        case measure => simp [intOf]; omega
    · obtain rfl : i = L := by omega
      have HEQ := Lib.hid (show upV x k r i = x * 2 ^ nn by unfold upV; rw [Nat.mod_eq_of_lt HXL.out, HNN.out])
      have HLT := Lib.hid (show x * 2 ^ nn < 2 ^ (64 * (i + k + 1)) by
        rw [← HEQ.out]
        refine Nat.lt_of_lt_of_le (upV_lt x k r i) ?_
        rw [← Nat.pow_add]
        exact Nat.pow_le_pow_right (by decide) (by omega))
      have HRW := Lib.hid hrw
      clear hrw
      go_wp2_with fail
      refine (trim_any _ _ _ (x * 2 ^ nn) _ (Nat.le_refl _) (by unfold maxLen; omega) (Digs.of_row HRW.out (Nat.le_refl _) (fun j hj => by rw [HEQ.out])) HLT.out).mono ?_
      rintro e w4 ⟨v, rfl, ⟨A4, cap4, rfl, hl4, hm4, hd4⟩, hb4⟩
      have s4 := (blk_below S1.out hbr).below hb4 (by have := hbr.size; omega)
      have k4 : w4.cell? ⟨w.heap.size + 1, 0, none⟩ = some (.slice none 0 0) := s4.cell 0
      have f4 := s4.frozen 0
      have HD := Lib.hid (hd4.put s4 (.slice A4 (wl 64 (x * 2 ^ nn)) cap4))
      have hbb := (hbS.trans (hbr.mono (by omega))).trans (hb4.mono (by have := hbr.size; omega))
      have hle : w.heap.size ≤ w.heap.size + 1 := by omega
      clear hd4 g0
      go_wp2
      exact bodyPost_ret (v := .agg #[.slice A4 (wl 64 (x * 2 ^ nn)) cap4]) (by simp [results, Try.results31, go_sem, k4]) rfl ⟨_, rfl, ⟨A4, cap4, rfl, hl4, hm4, HD.out⟩, hbb.setCell (p := ⟨w.heap.size + 1, 0, none⟩) hle _⟩
theorem nup_any (v : Value) (x : Nat) (w : World) (h : N64 w v x) (hx : wl 64 x ≤ 1099511627) (n : Int) (hn : n ≤ 1099511627) : Calls Try.prog 31 #[v, .int .i64 n] w (Mk64 w (x * 2 ^ n.toNat)) := by
  rcases (show n ≤ 0 ∨ 0 < n by omega) with h0 | h0
  · have := nup_none v x w h n h0
    rwa [show n.toNat = 0 by omega, Nat.pow_zero, Nat.mul_one]
  · rcases Nat.eq_zero_or_pos x with h1 | h1
    · subst h1
      rw [Nat.zero_mul]
      exact nup_zero v w h n h0
    · obtain ⟨m, rfl⟩ : ∃ m : Nat, n = (m : Int) := ⟨n.toNat, by omega⟩
      exact nup_pos v x w h h1 hx m (by omega) (by omega)
end Go.Proofs.Yteikhnmmkanndaa
namespace Go.Proofs.Yteikhnmmkanndaa
open Go.RowKit Go.Proofs.YteikhnmmkanndaaW.PrintWords
theorem down_word (x k r i : Nat) (hr : r < 64) : dig 64 (x / 2 ^ (64 * k + r)) i = dig 64 x (i + k) / 2 ^ r + dig 64 x (i + k + 1) * 2 ^ (64 - r) % 2 ^ 64 := by
  have h64 : (2 : Nat) ^ 64 = 2 ^ r * 2 ^ (64 - r) := by rw [← Nat.pow_add]; congr 1; omega
  have h1 : x / 2 ^ (64 * k + r) / 2 ^ (64 * i) = x / 2 ^ (64 * (i + k)) / 2 ^ r := by
    rw [Nat.div_div_eq_div_mul, Nat.div_div_eq_div_mul, ← Nat.pow_add, ← Nat.pow_add]
    congr 2
    omega
  have h2 : x / 2 ^ (64 * (i + k)) / 2 ^ r = dig 64 x (i + k) / 2 ^ r + x / 2 ^ (64 * (i + k + 1)) * 2 ^ (64 - r) := by
    rw [div_succ 64 x (i + k), h64, Nat.mul_left_comm, Nat.add_comm, Nat.add_mul_div_left _ _ (Nat.two_pow_pos _)]
  have hT : dig 64 x (i + k) / 2 ^ r < 2 ^ (64 - r) := by
    rw [Nat.div_lt_iff_lt_mul (Nat.two_pow_pos _), Nat.mul_comm, ← h64]
    exact dig_lt 64 x (i + k)
  have h3 : dig 64 (x / 2 ^ (64 * k + r)) i = (dig 64 x (i + k) / 2 ^ r + x / 2 ^ (64 * (i + k + 1)) * 2 ^ (64 - r)) % 2 ^ 64 := by
    rw [← h2, ← h1]
    rfl
  rw [h3, (join_mod hT (by omega) (Nat.mul_mod_left _ _)).1]
  congr 1
  have h4 : dig 64 x (i + k + 1) = x / 2 ^ (64 * (i + k + 1)) % 2 ^ 64 := rfl
  rw [h4]
  generalize x / 2 ^ (64 * (i + k + 1)) = X
  have h5 := Nat.div_add_mod X (2 ^ 64)
  conv => lhs; rw [← h5, Nat.add_mul, Nat.mul_assoc, Nat.add_comm, Nat.add_mul_mod_self_left]
theorem down_or (x k r i : Nat) (hr : r < 64) : bits .or .u64 ((dig 64 x (i + k) / 2 ^ r : Nat) : Int) (IntKind.u64.wrap ((dig 64 x (i + k + 1) : Nat) * 2 ^ (64 - r))) = ((dig 64 (x / 2 ^ (64 * k + r)) i : Nat) : Int) := by
  have h64 : (2 : Nat) ^ 64 = 2 ^ (64 - r) * 2 ^ r := by rw [← Nat.pow_add]; congr 1; omega
  have hT : dig 64 x (i + k) / 2 ^ r < 2 ^ (64 - r) := by
    rw [Nat.div_lt_iff_lt_mul (Nat.two_pow_pos _), ← h64]
    exact dig_lt 64 x (i + k)
  rw [shl64, down_word x k r i hr]
  refine or64 hT (by omega) ?_ (Nat.mod_lt _ (by decide))
  rw [h64, Nat.mod_mul_right_mod, Nat.mul_mod_left]
set_option maxRecDepth 100000 in
set_option maxHeartbeats 2000000 in
theorem ndown_go (v : Value) (x : Nat) (w : World) (h : N64 w v x) (hx : wl 64 x ≤ 1099511627) (n : Int) (nn : Nat) (hn : max n 0 = (nn : Int)) (hnn : nn ≤ 1099511627) (hlt : nn < bl x) : Calls Try.prog 33 #[v, .int .i64 n] w (Mk64 w (x / 2 ^ nn)) := by
  have HN := Lib.hid h
  have hbl := bl_le_wl (k := 64) (by decide) x
  obtain ⟨A, ca, rfl, hla, hma, hda⟩ := h
  have HDA := Lib.hid hda
  have HXL := Lib.hid (wl_lt (k := 64) (by decide) x)
  have HB := Lib.hid (fun W h => bits_any (.agg #[.slice A (wl 64 x) ca]) x W h (by omega))
  obtain ⟨k, hk⟩ : ∃ k, nn / 64 = k := ⟨_, rfl⟩
  obtain ⟨r, hr⟩ : ∃ r, nn % 64 = r := ⟨_, rfl⟩
  have HNN := Lib.hid (show 64 * k + r = nn by omega)
  have hk1 : k ≤ 1099511627 := by omega
  have hr64 : r < 64 := by omega
  have hkL : k < wl 64 x := by omega
  have j0 : (nn : Int) / 64 = (k : Int) := by omega
  have j1 : (nn : Int) % 64 = (r : Int) := by omega
  have j2 : IntKind.u64.wrap (r : Int) = (r : Int) := by rw [PAll.wrap_u64]; omega
  clear hda hk hr
  unfold maxLen at hma
  obtain ⟨p, hp⟩ : ∃ p, bl x = p := ⟨_, rfl⟩
  rw [hp] at hlt hbl HB
  clear hp
  obtain ⟨L, hL⟩ : ∃ L, wl 64 x = L := ⟨_, rfl⟩
  rw [hL] at hla hx HDA HN HXL HB hkL hbl ⊢
  clear hL
  obtain ⟨M, hM⟩ : ∃ M, L - k = M := ⟨_, rfl⟩
  have hM1 : M + k = L := by omega
  clear hM
  subst hM1
  have hmk := run_make_row' (P := Try.prog) 24 62 (.int .u64 0) 8 Try.underlying24 Try.info62 rfl .i64 .i64 M (by omega) (by omega)
  have hb0 := cba (cba (Below.refl _ w) (.cells #[.slice A (M + k) ca] 26)) (.cells #[.slice none 0 0] 26)
  have e0 := (Blk.new w 26 #[.slice A (M + k) ca]).alloc (.cells #[.slice none 0 0] 26)
  have e1 := Blk.new (w.alloc (.cells #[.slice A (M + k) ca] 26)) 26 #[.slice none 0 0]
  have hsz : w.heap.size + 2 ≤ ((w.alloc (.cells #[.slice A (M + k) ca] 26)).alloc (.cells #[.slice none 0 0] 26)).heap.size := by simp
  simp only [World.size_alloc] at e1
  have i0 : ((M : Int) + (k : Int) - (k : Int)) = (M : Int) := by omega
  have hdec : decide (p ≤ nn) = false := by rw [decide_eq_false_iff_not]; omega
  go_enter Try.func33, Try.ntmps33
  go_wp2_with fail
  refine (HB.out _ (HN.out.below hb0)).mono ?_
  rintro e S ⟨rfl, hb1⟩
  have s0 := blk_below e0 hb1
  have hbS := cbt hb0 hb1
  have hg : w.heap.size + 2 ≤ S.heap.size := by have := hb1.size; omega
  have S0 := Lib.hid s0
  have S1 := Lib.hid (blk_below e1 hb1)
  have q0 : S.cell? ⟨w.heap.size, 0, none⟩ = some (.slice A (M + k) ca) := s0.cell 0
  have HROW := Lib.hid (World.rowIs_made S (.int .u64 0) M 62)
  clear e0 e1 hb0 hb1 s0 hsz
  go_upto_region 5 with (fail)
  rw [j1]
  clear j0 j1 j2 hn hdec
  go_wp2_with fail
  clear i0
  clear q0
  go_loopw [29] (fun v29 wr => ∃ i : Nat, i ≤ M ∧ v29 = .int .i64 i ∧ wr.rowIs S.heap.size 62 M (fun j => .int .u64 ((if j < i then dig 64 (x / 2 ^ nn) j else 0 : Nat) : Int)) ∧ Below S.heap.size S wr) (fun v29 _ => M - (intOf v29).toNat)
  case atStart =>
    exact ⟨0, Nat.zero_le _, rfl, HROW.out.congr (fun j _ => by rw [if_neg (by omega)]; rfl), cba (Below.refl _ _) _⟩
  case round =>
    obtain ⟨i, hi, rfl, hrw, hbr⟩ := hrel
    have g0 : wr.cell? ⟨w.heap.size, 0, none⟩ = some (.slice A (M + k) ca) := (blk_below S0.out hbr).cell 0
    by_cases hlt : i < M
    · obtain ⟨bA, oA, rfl, hltA, hcA⟩ := HDA.out (i + k) (by omega)
      have gA : wr.cell? ⟨bA, oA + (i + k), none⟩ = some (.int .u64 (dig 64 x (i + k) : Nat)) := (hbr.cell (p := ⟨bA, oA + (i + k), none⟩) (show bA < S.heap.size by omega)).trans ((hbS.cell (p := ⟨bA, oA + (i + k), none⟩) hltA).trans hcA)
      have r0 : wr.cell? ⟨S.heap.size, i, none⟩ = some (.int .u64 ((if i < i then dig 64 (x / 2 ^ nn) i else 0 : Nat) : Int)) := hrw.cell hlt
      rw [if_neg (by omega)] at r0
      have fr := hrw.frozen i
      have HW0 := Lib.hid (down_word x k r i hr64)
      have HW1 := Lib.hid (down_or x k r i hr64)
      have HRW := Lib.hid hrw
      have HG0 := Lib.hid (blk_below S0.out hbr)
      have hne : w.heap.size ≠ S.heap.size := by omega
      clear hcA hrw
      by_cases hgd : 0 < r ∧ i + k + 1 < M + k
      · obtain ⟨hr0, hik⟩ := hgd
        obtain ⟨bB, oB, e, hltB, hcB⟩ := HDA.out (i + k + 1) (by omega)
        cases e
        have gB : wr.cell? ⟨bA, oA + (i + k + 1), none⟩ = some (.int .u64 (dig 64 x (i + k + 1) : Nat)) := (hbr.cell (p := ⟨bA, oA + (i + k + 1), none⟩) (show bA < S.heap.size by omega)).trans ((hbS.cell (p := ⟨bA, oA + (i + k + 1), none⟩) hltB).trans hcB)
        clear hcB
        generalize hd1 : dig 64 x (i + k) = d at gA HW1 HW0
        generalize hd2 : dig 64 x (i + k + 1) = d2 at gB HW1 HW0
        clear hd1 hd2
        go_wp2_with fail
        have m1 : IntKind.i64.wrap ((i : Int) + (k : Int)) = (i : Int) + (k : Int) := IntWalk.i64_in _ (by omega)
        have m2 : IntKind.i64.wrap ((i : Int) + (k : Int) + 1) = (i : Int) + (k : Int) + 1 := IntWalk.i64_in _ (by omega)
        have m3 : ((i : Int) + (k : Int) + 1).toNat = i + k + 1 := by omega
        have m4 : (0 : Int) ≤ (i : Int) + (k : Int) + 1 := by omega
        have m5 : (i : Int) + (k : Int) + 1 < (M : Int) + (k : Int) := by omega
        have m6 : IntKind.u64.wrap (64 - (r : Int)) = 64 - (r : Int) := by rw [PAll.wrap_u64]; omega
        have m7 : (64 - (r : Int)).toNat = 64 - r := by omega
        have m8 : (0 : Int) ≤ (i : Int) := by omega
        have m9 : (i : Int) < (M : Int) := by omega
        obtain ⟨X, hX⟩ : ∃ X, wr.setCell ⟨S.heap.size, i, none⟩ (.int .u64 ((d : Int) / 2 ^ r)) = X := ⟨_, rfl⟩
        have hrX := HRW.out.set i (.int .u64 ((d : Int) / 2 ^ r))
        have hbX := hbr.setCell (p := ⟨S.heap.size, i, none⟩) (Nat.le_refl _) (.int .u64 ((d : Int) / 2 ^ r))
        have x0 := (HG0.out.far (p := ⟨S.heap.size, i, none⟩) hne (.int .u64 ((d : Int) / 2 ^ r))).cell 0
        have x1 := (World.cell?_of_block (Below.heap_setCell wr ⟨S.heap.size, i, none⟩ (.int .u64 ((d : Int) / 2 ^ r)) bA (show bA ≠ S.heap.size by omega))).trans gB
        rw [hX] at hrX hbX x0 x1 ⊢
        have x0' : X.cell? ⟨w.heap.size, 0, none⟩ = some (.slice (some ⟨bA, oA, none⟩) (M + k) ca) := x0
        have x2 : X.cell? ⟨S.heap.size, i, none⟩ = some (.int .u64 ((d : Int) / 2 ^ r)) := (hrX.cell hlt).trans (by rw [if_pos rfl])
        have fX := hrX.frozen i
        have HRX := Lib.hid hrX
        clear hX hrX g0 gA gB r0 fr x0
        go_still_tail 17, (by kernel_rfl)
        go_wp2
        go_roundw
        case rel =>
          refine ⟨i + 1, by omega, by go_num, ?_, (hbX.setCell (p := ⟨S.heap.size, i, none⟩) (Nat.le_refl _) _).drew⟩
          have hw := HW1.out
          rw [← shr64, HNN.out] at hw
          rw [hw]
          refine (HRX.out.set i _).drew.congr (fun j hj => ?_)
          by_cases h1 : j = i
          · subst h1; rw [if_pos rfl, if_pos (by omega)]
          · rw [if_neg h1, if_neg h1]
            by_cases h2 : j < i
            · rw [if_pos h2, if_pos (by omega)]
            · rw [if_neg h2, if_neg (by omega)]
        case measure => simp [intOf]; omega
      · have HZ := Lib.hid (show dig 64 (x / 2 ^ nn) i = dig 64 x (i + k) / 2 ^ r from by
          rw [← HNN.out, HW0.out]
          by_cases h1 : 0 < r
          · rw [dig_zero_of_lt (i := i + k + 1) (Nat.lt_of_lt_of_le HXL.out (Nat.pow_le_pow_right (by decide) (by omega)))]
            simp
          · rw [show r = 0 by omega, Nat.mul_mod_left, Nat.add_zero])
        generalize hd1 : dig 64 x (i + k) = d at gA HZ
        clear hd1
        have HR2 := Lib.hid (show (wr.setCell ⟨S.heap.size, i, none⟩ (.int .u64 ((d : Int) / 2 ^ r))).rowIs S.heap.size 62 M (fun j => .int .u64 ((if j < i + 1 then dig 64 (x / 2 ^ nn) j else 0 : Nat) : Int)) from by
          rw [shr64, ← HZ.out]
          exact row_upto HRW.out rfl)
        rcases Nat.eq_zero_or_pos r with hr0 | hr0
        · have hr1 : r ≤ 0 := by omega
          clear hr0 hgd
          go_wp2_with fail
          go_roundw
          case rel => exact ⟨i + 1, by omega, by go_num, HR2.out, hbr.setCell (p := ⟨S.heap.size, i, none⟩) (Nat.le_refl _) _⟩
          case measure => simp [intOf]; omega
        · have hr1 : (0 : Int) < (r : Int) := by omega
          have hge : ¬ ((i : Int) + (k : Int) + 1 < (M : Int) + (k : Int)) := by omega
          have g0' : (wr.setCell ⟨S.heap.size, i, none⟩ (.int .u64 ((d : Int) / 2 ^ r))).cell? ⟨w.heap.size, 0, none⟩ = some (.slice (some ⟨bA, oA, none⟩) (M + k) ca) := (HG0.out.far (p := ⟨S.heap.size, i, none⟩) hne (.int .u64 ((d : Int) / 2 ^ r))).cell 0
          clear hgd
          go_wp2_with fail
          go_roundw
          case rel => exact ⟨i + 1, by omega, by go_num, HR2.out, hbr.setCell (p := ⟨S.heap.size, i, none⟩) (Nat.le_refl _) _⟩
          case measure => simp [intOf]; omega
    · obtain rfl : i = M := by omega
      have HLT := Lib.hid (show x / 2 ^ nn < 2 ^ (64 * i) by
        rw [Nat.div_lt_iff_lt_mul (Nat.two_pow_pos _), ← Nat.pow_add]
        refine Nat.lt_of_lt_of_le HXL.out (Nat.pow_le_pow_right (by decide) ?_)
        have := HNN.out
        omega)
      have HRW := Lib.hid hrw
      clear hrw
      go_wp2_with fail
      refine (trim_any _ _ _ (x / 2 ^ nn) _ (Nat.le_refl _) (by unfold maxLen; omega) (Digs.of_row HRW.out (Nat.le_refl _) (fun j hj => by rw [if_pos hj])) HLT.out).mono ?_
      rintro e w4 ⟨v, rfl, ⟨A4, cap4, rfl, hl4, hm4, hd4⟩, hb4⟩
      have s4 := (blk_below S1.out hbr).below hb4 (by have := hbr.size; omega)
      have k4 : w4.cell? ⟨w.heap.size + 1, 0, none⟩ = some (.slice none 0 0) := s4.cell 0
      have f4 := s4.frozen 0
      have HD := Lib.hid (hd4.put s4 (.slice A4 (wl 64 (x / 2 ^ nn)) cap4))
      have hbb := (hbS.trans (hbr.mono (by omega))).trans (hb4.mono (by have := hbr.size; omega))
      have hle : w.heap.size ≤ w.heap.size + 1 := by omega
      clear hd4 g0
      go_wp2
      exact bodyPost_ret (v := .agg #[.slice A4 (wl 64 (x / 2 ^ nn)) cap4]) (by simp [results, Try.results33, go_sem, k4]) rfl ⟨_, rfl, ⟨A4, cap4, rfl, hl4, hm4, HD.out⟩, hbb.setCell (p := ⟨w.heap.size + 1, 0, none⟩) hle _⟩
set_option maxRecDepth 100000 in
set_option maxHeartbeats 2000000 in
theorem ndown_out (v : Value) (x : Nat) (w : World) (h : N64 w v x) (hx : wl 64 x ≤ 1099511627) (n : Int) (nn : Nat) (hn : max n 0 = (nn : Int)) (hge : bl x ≤ nn) : Calls Try.prog 33 #[v, .int .i64 n] w (Mk64 w 0) := by
  have HN := Lib.hid h
  obtain ⟨A, ca, rfl, hla, hma, hda⟩ := h
  have HB := Lib.hid (fun W h => bits_any (.agg #[.slice A (wl 64 x) ca]) x W h (by omega))
  clear hda
  obtain ⟨p, hp⟩ : ∃ p, bl x = p := ⟨_, rfl⟩
  rw [hp] at hge HB
  clear hp
  obtain ⟨L, hL⟩ : ∃ L, wl 64 x = L := ⟨_, rfl⟩
  rw [hL] at hla hx HN HB ⊢
  clear hL
  have hb0 := cba (cba (Below.refl _ w) (.cells #[.slice A L ca] 26)) (.cells #[.slice none 0 0] 26)
  have e1 := Blk.new (w.alloc (.cells #[.slice A L ca] 26)) 26 #[.slice none 0 0]
  simp only [World.size_alloc] at e1
  go_enter Try.func33, Try.ntmps33
  go_wp2_with fail
  refine (HB.out _ (HN.out.below hb0)).mono ?_
  rintro e S ⟨rfl, hb1⟩
  have s1 := blk_below e1 hb1
  have hbS := cbt hb0 hb1
  have k1 : S.cell? ⟨w.heap.size + 1, 0, none⟩ = some (.slice none 0 0) := s1.cell 0
  have f1 := s1.frozen 0
  have hle : w.heap.size ≤ w.heap.size + 1 := by omega
  go_wp2_with fail
  exact bodyPost_ret (v := .agg #[.slice none 0 0]) (by simp [results, Try.results33, go_sem, k1]) rfl ⟨_, rfl, N64.zero _, hbS.setCell (p := ⟨w.heap.size + 1, 0, none⟩) hle _⟩
theorem ndown_any (v : Value) (x : Nat) (w : World) (h : N64 w v x) (hx : wl 64 x ≤ 1099511627) (n : Int) (hn : n ≤ 1099511627) : Calls Try.prog 33 #[v, .int .i64 n] w (Mk64 w (x / 2 ^ n.toNat)) := by
  rcases Nat.lt_or_ge n.toNat (bl x) with h0 | h0
  · exact ndown_go v x w h hx n n.toNat (by omega) (by omega) h0
  · have := ndown_out v x w h hx n n.toNat (by omega) h0
    rwa [show x / 2 ^ n.toNat = 0 from Nat.div_eq_of_lt ((bl_le x _).1 h0)]
end Go.Proofs.Yteikhnmmkanndaa
namespace Go.Proofs.Yteikhnmmkanndaa
open Go.RowKit
theorem prod_step (x y k : Nat) : (x * dig 64 y k % 2 ^ 64 + mulCarry 64 0 x y k) % 2 ^ 64 = dig 64 (x * y) k ∧ x * dig 64 y k / 2 ^ 64 + (x * dig 64 y k % 2 ^ 64 + mulCarry 64 0 x y k) / 2 ^ 64 = mulCarry 64 0 x y (k + 1) := by
  have h0 : dig 64 0 k = 0 := dig_zero_of_lt (Nat.two_pow_pos _)
  have h1 := mul_dig 64 0 x y k
  have h2 := mulCarry_succ 64 0 x y k
  obtain ⟨h3, h4⟩ := mul_step (2 ^ 64) (x * dig 64 y k) (mulCarry 64 0 x y k) 0 (Nat.two_pow_pos 64)
  rw [h0] at h1 h2
  rw [Nat.zero_add] at h1
  rw [h3, Nat.zero_add, Nat.mod_mod] at h1
  rw [h4, Nat.zero_add, Nat.div_eq_of_lt (Nat.mod_lt _ (Nat.two_pow_pos 64)), Nat.add_zero] at h2
  exact ⟨h1.symm, h2.symm⟩
theorem prod_top {x y m : Nat} (hx : x < 2 ^ 64) (hy : y < 2 ^ (64 * m)) : mulCarry 64 0 x y m = dig 64 (x * y) m ∧ x * y < 2 ^ (64 * (m + 1)) := by
  have h : x * y < 2 ^ (64 * (m + 1)) := by
    rw [pow_succ_mul, Nat.mul_comm (2 ^ (64 * m))]
    exact Nat.mul_lt_mul'' hx hy
  refine ⟨?_, h⟩
  rw [dig_top h]
  unfold mulCarry
  rw [Nat.zero_mod, Nat.zero_add, Nat.mod_eq_of_lt hy]
def win (f : Nat → Nat) (o V k : Nat) (j : Nat) : Nat := if o ≤ j ∧ j < o + k then dig 64 V (j - o) else f j
theorem win_succ (f : Nat → Nat) (o V k j : Nat) : win f o V (k + 1) j = if j = o + k then dig 64 V k else win f o V k j := by
  unfold win
  by_cases h1 : j = o + k
  · subst h1; rw [if_pos rfl, if_pos (by omega), Nat.add_sub_cancel_left]
  · rw [if_neg h1]
    by_cases h2 : o ≤ j ∧ j < o + k
    · rw [if_pos h2, if_pos (by omega)]
    · rw [if_neg h2, if_neg (by omega)]
theorem win_at (f : Nat → Nat) (o V k : Nat) : win f o V k (o + k) = f (o + k) := by unfold win; rw [if_neg (by omega)]
theorem win_row {w : World} {g N o V k : Nat} {f : Nat → Nat} {d : Nat} (h : w.rowIs g 62 N (fun j => .int .u64 (win f o V k j : Nat))) (hd : d = dig 64 V k) :
    (w.setCell ⟨g, o + k, none⟩ (.int .u64 (d : Nat))).rowIs g 62 N (fun j => .int .u64 (win f o V (k + 1) j : Nat)) :=
  (h.set (o + k) (.int .u64 (d : Nat))).congr (fun j _ => by
    rw [win_succ]
    by_cases h1 : j = o + k
    · rw [if_pos h1, if_pos h1, hd]
    · rw [if_neg h1, if_neg h1])
set_option maxRecDepth 100000 in
set_option maxHeartbeats 2000000 in
theorem addback_any (g o nt ct N : Nat) (B : Option Addr) (m cb : Nat) (f : Nat → Nat) (z y : Nat) (w : World) (hrow : w.rowIs g 62 N (fun j => .int .u64 (f j : Nat))) (hT : ∀ j, j < m + 1 → f (o + j) = dig 64 z j)
    (hN : o + (m + 1) ≤ N) (hnt : m < nt) (hm : m ≤ 1099511627776) (hB : Digs w B .u64 64 y m) (hy : y < 2 ^ (64 * m)) (hz : z < 2 ^ (64 * (m + 1))) (hne : ∀ b p, B = some ⟨b, p, none⟩ → 0 < m → b ≠ g) :
    Calls Try.prog 99 #[.slice (some ⟨g, o, none⟩) nt ct, .slice B m cb] w fun e w' => e = .returned (.bool (decide (2 ^ (64 * (m + 1)) ≤ z + y))) ∧
      w'.rowIs g 62 N (fun j => .int .u64 (win f o (z + y) (m + 1) j : Nat)) ∧ w.grownBy w' (some g) := by
  have HROW := Lib.hid hrow
  have HT := Lib.hid hT
  have HB := Lib.hid hB
  have HNE := Lib.hid hne
  have hym : dig 64 y m = 0 := dig_zero_of_lt hy
  have hct := carry_top hz (Nat.lt_of_lt_of_le hy (Nat.pow_le_pow_right (by decide) (by omega)))
  have hcl1 := carry_le 64 z y (m + 1)
  have hd : decide (2 ^ (64 * (m + 1)) ≤ z + y) = decide (0 < carryOf 64 z y (m + 1)) := by
    rw [hct]
    have hb := Nat.two_pow_pos (64 * (m + 1))
    by_cases h : 2 ^ (64 * (m + 1)) ≤ z + y
    · rw [decide_eq_true h, decide_eq_true (Nat.div_pos h hb)]
    · rw [decide_eq_false h, Nat.div_eq_of_lt (by omega)]
      rfl
  rw [hd]
  have HYM := Lib.hid hym
  clear hrow hT hB hne hd hct hym hcl1 hz hy
  go_enter Try.func99, Try.ntmps99
  go_wp2_with fail
  go_loopw [5, 10] (fun v5 v10 wr => ∃ k : Nat, k ≤ m ∧ v10 = .int .i64 k ∧ v5 = .int .u64 (carryOf 64 z y k : Nat) ∧ wr.rowIs g 62 N (fun j => .int .u64 (win f o (z + y) k j : Nat)) ∧ w.grownBy wr (some g)) (fun _ v10 _ => m - (intOf v10).toNat)
  case atStart =>
    exact ⟨0, Nat.zero_le _, rfl, by rw [carry_zero]; rfl, HROW.out.congr (fun j _ => by unfold win; rw [if_neg (by omega)]), World.grownBy.refl _ _⟩
  case round =>
    obtain ⟨k, hk, rfl, rfl, hrw, hgr⟩ := hrel
    have r0 : wr.cell? ⟨g, o + k, none⟩ = some (.int .u64 (win f o (z + y) k (o + k) : Nat)) := hrw.cell (by omega)
    rw [win_at, HT.out k (by omega)] at r0
    have fr := hrw.frozen (o + k)
    have hcl := carry_le 64 z y k
    have hadd := add64_run (dig 64 z k) (dig 64 y k) (carryOf 64 z y k) hcl
    rw [← sum_dig, ← carry_succ] at hadd
    have HRW := Lib.hid hrw
    clear hrw
    by_cases hlt : k < m
    · obtain ⟨bB, oB, rfl, hltB, hcB⟩ := HB.out k hlt
      have hnb := HNE.out bB oB rfl (by omega)
      have gB : wr.cell? ⟨bB, oB + k, none⟩ = some (.int .u64 (dig 64 y k : Nat)) := (World.cell?_of_block (hgr.block bB hltB (by simpa using hnb))).trans hcB
      clear hcB hnb
      generalize hd1 : dig 64 z k = d1 at r0 hadd
      generalize hd2 : dig 64 y k = d2 at gB hadd
      generalize hd3 : carryOf 64 z y k = c1 at hadd hcl ⊢
      generalize hd4 : carryOf 64 z y (k + 1) = c2 at hadd
      have HC2 := Lib.hid hd4
      generalize hd5 : dig 64 (z + y) k = d3 at hadd
      have HD := Lib.hid hd5
      clear hd1 hd2 hd3 hd4 hd5
      go_wp2_with fail
      go_roundw
      case rel => exact ⟨k + 1, by omega, by go_num, by rw [HC2.out], win_row HRW.out HD.out.symm, only_setCell hgr (.inl rfl) _⟩
      case measure => simp [intOf]; omega
    · obtain rfl : k = m := by omega
      rw [HYM.out] at hadd
      have hadd : ∀ W, (callFunc 102 #[.int .u64 (dig 64 z k : Nat), .int .u64 0, .int .u64 (carryOf 64 z y k : Nat)]).run Try.prog W = .ok (.value (.tuple #[.int .u64 (dig 64 (z + y) k : Nat), .int .u64 (carryOf 64 z y (k + 1) : Nat)])) W := hadd
      generalize hd1 : dig 64 z k = d1 at r0 hadd
      generalize hd3 : carryOf 64 z y k = c1 at hadd hcl ⊢
      generalize hd4 : carryOf 64 z y (k + 1) = c2 at hadd ⊢
      generalize hd5 : dig 64 (z + y) k = d3 at hadd
      have HD := Lib.hid hd5
      have HC9 := Lib.hid hd4
      clear hd1 hd3 hd4 hd5
      go_wp2
      go_ret
      exact ⟨by rw [HC9.out]; simp, win_row HRW.out HD.out.symm, only_setCell hgr (.inl rfl) _⟩
set_option maxRecDepth 100000 in
set_option maxHeartbeats 4000000 in
theorem submul_any (g o nt ct N : Nat) (B : Option Addr) (m cb : Nat) (f : Nat → Nat) (p x y : Nat) (w : World) (hrow : w.rowIs g 62 N (fun j => .int .u64 (f j : Nat))) (hT : ∀ j, j < m + 1 → f (o + j) = dig 64 p j) (hx : x < 2 ^ 64)
    (hN : o + (m + 1) ≤ N) (hnt : m < nt) (hm : m ≤ 1099511627776) (hB : Digs w B .u64 64 y m) (hy : y < 2 ^ (64 * m)) (hp : p < 2 ^ (64 * (m + 1))) (hne : ∀ b p, B = some ⟨b, p, none⟩ → 0 < m → b ≠ g) :
    Calls Try.prog 98 #[.slice (some ⟨g, o, none⟩) nt ct, .slice B m cb, .int .u64 (x : Nat)] w fun e w' => e = .returned (.bool (decide (p < x * y))) ∧
      w'.rowIs g 62 N (fun j => .int .u64 (win f o (less 64 (m + 1) p (x * y)) (m + 1) j : Nat)) ∧ w.grownBy w' (some g) := by
  have HROW := Lib.hid hrow
  have HT := Lib.hid hT
  have HB := Lib.hid hB
  have HNE := Lib.hid hne
  have HX := Lib.hid hx
  obtain ⟨ht1, ht2⟩ := prod_top hx hy
  have HTOP := Lib.hid ht1
  have hov := less_over hp ht2
  have HLD := Lib.hid (fun i (hi : i < m + 1) => less_dig (k := 64) (p := p) hi ht2)
  have hd : decide (p < x * y) = decide (0 < carryOf 64 (less 64 (m + 1) p (x * y)) (x * y) (m + 1)) := by
    rw [hov]
    by_cases h : p < x * y
    · rw [decide_eq_true h, if_pos h]; rfl
    · rw [decide_eq_false h, if_neg h]; rfl
  rw [hd]
  clear hrow hT hB hne hd hov ht1 ht2 hx hy hp
  obtain ⟨Z, hZ⟩ : ∃ Z, less 64 (m + 1) p (x * y) = Z := ⟨_, rfl⟩
  rw [hZ] at HLD ⊢
  clear hZ
  go_enter Try.func98, Try.ntmps98
  go_wp2_with fail
  go_loopw [7, 8, 17] (fun v7 v8 v17 wr => ∃ k : Nat, k ≤ m ∧ v17 = .int .i64 k ∧ v7 = .int .u64 (mulCarry 64 0 x y k : Nat) ∧ v8 = .int .u64 (carryOf 64 Z (x * y) k : Nat) ∧ wr.rowIs g 62 N (fun j => .int .u64 (win f o Z k j : Nat)) ∧ w.grownBy wr (some g)) (fun _ _ v17 _ => m - (intOf v17).toNat)
  case atStart =>
    exact ⟨0, Nat.zero_le _, rfl, by rw [mulCarry_zero]; rfl, by rw [carry_zero]; rfl, HROW.out.congr (fun j _ => by unfold win; rw [if_neg (by omega)]), World.grownBy.refl _ _⟩
  case round =>
    obtain ⟨k, hk, rfl, rfl, rfl, hrw, hgr⟩ := hrel
    have r0 : wr.cell? ⟨g, o + k, none⟩ = some (.int .u64 (win f o Z k (o + k) : Nat)) := hrw.cell (by omega)
    rw [win_at, HT.out k (by omega)] at r0
    have fr := hrw.frozen (o + k)
    have hsub := sub64_dig Z (x * y) k
    rw [HLD.out k (by omega)] at hsub
    have HRW := Lib.hid hrw
    clear hrw
    by_cases hlt : k < m
    · obtain ⟨bB, oB, rfl, hltB, hcB⟩ := HB.out k hlt
      have hnb := HNE.out bB oB rfl (by omega)
      have gB : wr.cell? ⟨bB, oB + k, none⟩ = some (.int .u64 (dig 64 y k : Nat)) := (World.cell?_of_block (hgr.block bB hltB (by simpa using hnb))).trans hcB
      have hmul := mul64_any x (dig 64 y k) HX.out (dig_lt 64 y k)
      obtain ⟨st1, st2⟩ := prod_step x y k
      have hc' := mulCarry_lt (k := 64) (T := 0) (y := y) (i := k + 1) HX.out
      clear hcB hnb
      generalize hd1 : mulCarry 64 0 x y k = c at st1 st2 ⊢
      generalize hd2 : mulCarry 64 0 x y (k + 1) = c' at hc' st2
      have HC := Lib.hid hd2
      generalize hd3 : dig 64 p k = t at r0 hsub
      generalize hd4 : dig 64 (x * y) k = yk at st1 hsub
      generalize hd5 : dig 64 y k = yd at gB hmul st1 st2
      generalize hd6 : x * yd / 2 ^ 64 = hi at hmul st2
      generalize hd7 : x * yd % 2 ^ 64 = lo at hmul st1 st2
      have add1 := fun W => add64_run lo c 0 (by omega) W
      simp only [Nat.add_zero] at add1
      rw [st1] at add1
      generalize hd8 : (lo + c) / 2 ^ 64 = c1 at add1 st2
      generalize hd9 : carryOf 64 Z (x * y) k = b0 at hsub ⊢
      generalize hd10 : carryOf 64 Z (x * y) (k + 1) = b1 at hsub
      have HB1 := Lib.hid hd10
      generalize hd11 : dig 64 Z k = zk at hsub
      have HZK := Lib.hid hd11
      have add1' : ∀ W, (callFunc 102 #[.int .u64 (lo : Nat), .int .u64 (c : Nat), .int .u64 0]).run Try.prog W = .ok (.value (.tuple #[.int .u64 (yk : Nat), .int .u64 (c1 : Nat)])) W := add1
      have hb1 : hi + c1 ≤ 18446744073709551615 := by omega
      have HS := Lib.hid st2
      have HMUL := Lib.hid hmul
      clear hd1 hd2 hd3 hd4 hd5 hd6 hd7 hd8 hd9 hd10 hd11 st1 st2 add1 hmul
      go_wp2_with fail
      refine (HMUL.out _).mono ?_
      rintro e w1 ⟨rfl, rfl⟩
      go_wp2_with fail
      go_roundw
      case rel => exact ⟨k + 1, by omega, by go_num, by rw [HC.out, ← HS.out, Int.natCast_add], by rw [HB1.out], win_row HRW.out HZK.out.symm, only_setCell hgr (.inl rfl) _⟩
      case measure => simp [intOf]; omega
    · obtain rfl : k = m := by omega
      have htop := HTOP.out
      rw [htop]
      generalize hd3 : dig 64 p k = t at r0 hsub
      generalize hd4 : dig 64 (x * y) k = yk at hsub ⊢
      generalize hd9 : carryOf 64 Z (x * y) k = b0 at hsub ⊢
      generalize hd10 : carryOf 64 Z (x * y) (k + 1) = b1 at hsub ⊢
      generalize hd11 : dig 64 Z k = zk at hsub
      have HZK := Lib.hid hd11
      have HC9 := Lib.hid hd10
      clear hd3 hd4 hd9 hd10 hd11 htop
      go_wp2
      go_ret
      exact ⟨by rw [HC9.out]; simp, win_row HRW.out HZK.out.symm, only_setCell hgr (.inl rfl) _⟩
end Go.Proofs.Yteikhnmmkanndaa
namespace Go.Proofs.Yteikhnmmkanndaa
structure Half (un d Y q r : Nat) : Prop where
  sum : q * (Y / 4294967296) + r = un
  ge : (un * 4294967296 + d) / Y ≤ q
  le : q ≤ 4294967297
section
variable {un d Y q r : Nat}
theorem half_eq (Y : Nat) : Y = Y / 4294967296 * 4294967296 + Y % 4294967296 := by omega
theorem half_bound (hun : un < Y) (hd : d < 4294967296) : (un * 4294967296 + d) / Y < 4294967296 := by
  rw [Nat.div_lt_iff_lt_mul (by omega)]
  have : (un + 1) * 4294967296 ≤ 4294967296 * Y := by rw [Nat.mul_comm]; exact Nat.mul_le_mul_left _ hun
  omega
theorem half_start (hY : 9223372036854775808 ≤ Y) (hun : un < Y) (hd : d < 4294967296) : Half un d Y (un / (Y / 4294967296)) (un % (Y / 4294967296)) := by
  have h1 : 2147483648 ≤ Y / 4294967296 := by omega
  refine ⟨Nat.div_add_mod' _ _, ?_, ?_⟩
  · rw [Nat.le_div_iff_mul_le (by omega)]
    have h2 : (un * 4294967296 + d) / Y * Y ≤ un * 4294967296 + d := Nat.div_mul_le_self _ _
    have h3 := half_eq Y
    generalize (un * 4294967296 + d) / Y = t at *
    generalize Y / 4294967296 = y1 at *
    generalize Y % 4294967296 = y0 at *
    rw [h3, Nat.mul_add, ← Nat.mul_assoc] at h2
    have h4 : 0 ≤ t * y0 := Nat.zero_le _
    generalize t * y1 = a at *
    generalize t * y0 = b at *
    omega
  · have h3 : un / (Y / 4294967296) < 4294967298 := by
      rw [Nat.div_lt_iff_lt_mul (by omega)]
      omega
    omega
theorem half_big (_h : Half un d Y q r) (hun : un < Y) (hd : d < 4294967296) (hq : 4294967296 ≤ q) : (un * 4294967296 + d) / Y ≤ q - 1 := by
  have := half_bound hun hd
  omega
theorem half_mul (h : Half un d Y q r) : q * Y + r * 4294967296 = un * 4294967296 + q * (Y % 4294967296) := by
  have h3 := half_eq Y
  rw [← h.sum]
  conv => lhs; rw [h3, Nat.mul_add, ← Nat.mul_assoc]
  rw [Nat.add_mul]
  omega
theorem half_more (h : Half un d Y q r) (hY : 0 < Y) (hc : 4294967296 * r + d < q * (Y % 4294967296)) : (un * 4294967296 + d) / Y ≤ q - 1 := by
  have h1 := half_mul h
  have h2 : (un * 4294967296 + d) / Y < q := by
    rw [Nat.div_lt_iff_lt_mul hY]
    omega
  omega
theorem half_pos (h : Half un d Y q r) (hc : 4294967296 ≤ q ∨ 4294967296 * r + d < q * (Y % 4294967296)) : 0 < q := by
  rcases Nat.eq_zero_or_pos q with h0 | h0
  · subst h0
    rw [Nat.zero_mul] at hc
    omega
  · exact h0
theorem half_next (h : Half un d Y q r) (hY : 0 < Y) (hun : un < Y) (hd : d < 4294967296) (hc : 4294967296 ≤ q ∨ 4294967296 * r + d < q * (Y % 4294967296)) : Half un d Y (q - 1) (r + Y / 4294967296) := by
  have h0 := half_pos h hc
  refine ⟨?_, ?_, ?_⟩
  · have := h.sum
    obtain ⟨p, rfl⟩ : ∃ p, q = p + 1 := ⟨q - 1, by omega⟩
    rw [Nat.add_mul, Nat.one_mul] at this
    rw [Nat.add_sub_cancel]
    omega
  · rcases hc with hc | hc
    · exact half_big h hun hd hc
    · exact half_more h hY hc
  · have := h.le
    omega
theorem half_done (h : Half un d Y q r) (hY : 0 < Y) (hc : q * (Y % 4294967296) ≤ 4294967296 * r + d) : q = (un * 4294967296 + d) / Y := by
  refine Nat.le_antisymm ?_ h.ge
  rw [Nat.le_div_iff_mul_le hY]
  have h1 := half_mul h
  omega
theorem half_break (h : Half un d Y q r) (hY : 0 < Y) (hq : q ≤ 4294967296) (hr : 4294967296 ≤ r) : q = (un * 4294967296 + d) / Y := by
  refine half_done h hY ?_
  have h1 : Y % 4294967296 < 4294967296 := Nat.mod_lt _ (by decide)
  have h2 : q * (Y % 4294967296) ≤ 4294967296 * 4294967295 := Nat.mul_le_mul hq (by omega)
  omega
end
theorem halves {un u1 u0 Y t1 R1 t0 R0 : Nat} (hY : 0 < Y) (h1 : t1 = (un * 4294967296 + u1) / Y) (h2 : R1 = (un * 4294967296 + u1) % Y) (h3 : t0 = (R1 * 4294967296 + u0) / Y) (h4 : R0 = (R1 * 4294967296 + u0) % Y) :
    (un * 18446744073709551616 + (u1 * 4294967296 + u0)) / Y = t1 * 4294967296 + t0 ∧ (un * 18446744073709551616 + (u1 * 4294967296 + u0)) % Y = R0 := by
  have e1 := Nat.div_add_mod (un * 4294967296 + u1) Y
  have e2 := Nat.div_add_mod (R1 * 4294967296 + u0) Y
  rw [← h1, ← h2] at e1
  rw [← h3, ← h4] at e2
  have hl : R0 < Y := by rw [h4]; exact Nat.mod_lt _ hY
  have e3 : un * 18446744073709551616 + (u1 * 4294967296 + u0) = R0 + Y * (t1 * 4294967296 + t0) := by
    rw [Nat.mul_add, ← Nat.mul_assoc]
    clear h1 h2 h3 h4
    generalize Y * t1 = a at *
    generalize Y * t0 = b at *
    omega
  rw [e3, Nat.add_mul_div_left _ _ hY, Nat.div_eq_of_lt hl, Nat.zero_add, Nat.add_mul_mod_self_left, Nat.mod_eq_of_lt hl]
  exact ⟨rfl, rfl⟩
theorem shifted (X y s : Nat) : X * 2 ^ s / (y * 2 ^ s) = X / y ∧ X * 2 ^ s % (y * 2 ^ s) / 2 ^ s = X % y := by
  rw [Nat.mul_div_mul_right _ _ (Nat.two_pow_pos s), Nat.mul_mod_mul_right, Nat.mul_div_cancel _ (Nat.two_pow_pos s)]
  exact ⟨rfl, rfl⟩
theorem shift_words {hi lo y s : Nat} (hs : s < 64) (hlo : lo < 2 ^ 64) (hy : y * 2 ^ s < 2 ^ 64) (hlt : hi < y) :
    hi * 2 ^ s < 2 ^ 64 ∧ hi * 2 ^ s + lo / 2 ^ (64 - s) < y * 2 ^ s ∧ (hi * 2 ^ s + lo / 2 ^ (64 - s)) * 2 ^ 64 + lo * 2 ^ s % 2 ^ 64 = (hi * 2 ^ 64 + lo) * 2 ^ s := by
  have h64 : (2 : Nat) ^ 64 = 2 ^ s * 2 ^ (64 - s) := by rw [← Nat.pow_add]; congr 1; omega
  have h1 : hi * 2 ^ s ≤ y * 2 ^ s := Nat.mul_le_mul_right _ (by omega)
  have h2 : lo / 2 ^ (64 - s) < 2 ^ s := by rw [Nat.div_lt_iff_lt_mul (Nat.two_pow_pos _), ← h64]; exact hlo
  have h3 : (hi + 1) * 2 ^ s ≤ y * 2 ^ s := Nat.mul_le_mul_right _ hlt
  rw [Nat.add_mul, Nat.one_mul] at h3
  refine ⟨by omega, by omega, ?_⟩
  have h4 : lo * 2 ^ s = lo / 2 ^ (64 - s) * 2 ^ 64 + lo * 2 ^ s % 2 ^ 64 := by
    have h5 : lo * 2 ^ s / 2 ^ 64 = lo / 2 ^ (64 - s) := by rw [h64, Nat.mul_comm lo, Nat.mul_div_mul_left _ _ (Nat.two_pow_pos _)]
    rw [← h5]
    exact (Nat.div_add_mod' _ _).symm
  conv => rhs; rw [Nat.add_mul, h4]
  rw [Nat.add_mul, Nat.mul_right_comm]
  omega
theorem norm_word {y : Nat} (hy : 0 < y) (hb : y < 2 ^ 64) : 2 ^ 63 ≤ y * 2 ^ (64 - bl y) ∧ y * 2 ^ (64 - bl y) < 2 ^ 64 ∧ 64 - bl y < 64 := by
  have h1 := (bl_le y 64).2 hb
  have h2 : 0 < bl y := by
    rcases Nat.eq_zero_or_pos (bl y) with h | h
    · have := bl_eq_zero.1 h; omega
    · exact h
  have h3 := (lt_bl y (bl y - 1)).1 (by omega)
  have h4 := (bl_le y (bl y)).1 (Nat.le_refl _)
  refine ⟨?_, ?_, by omega⟩
  · calc 2 ^ 63 = 2 ^ (bl y - 1) * 2 ^ (64 - bl y) := by rw [← Nat.pow_add]; congr 1; omega
      _ ≤ y * 2 ^ (64 - bl y) := Nat.mul_le_mul_right _ h3
  · calc y * 2 ^ (64 - bl y) < 2 ^ bl y * 2 ^ (64 - bl y) := Nat.mul_lt_mul_of_pos_right h4 (Nat.two_pow_pos _)
      _ = 2 ^ 64 := by rw [← Nat.pow_add]; congr 1; omega
end Go.Proofs.Yteikhnmmkanndaa
namespace Go.Proofs.Yteikhnmmkanndaa
open Go.RowKit
set_option maxRecDepth 100000 in
set_option maxHeartbeats 1000000 in
theorem div64_small (lo y : Nat) (hlo : lo < 18446744073709551616) (hy : y < 18446744073709551616) (h0 : 0 < y) (w : World) :
    Calls Try.prog 129 #[.int .u64 0, .int .u64 (lo : Nat), .int .u64 (y : Nat)] w fun e w' => e = .returned (.tuple #[.int .u64 ((lo / y : Nat) : Int), .int .u64 ((lo % y : Nat) : Int)]) ∧ Drew w w' := by
  have hz : ((y : Int) == 0) = false := by rw [beq_eq_false_iff_ne]; omega
  have hq : (lo : Int) / (y : Int) = ((lo / y : Nat) : Int) := (Int.natCast_ediv _ _).symm
  have hr : (lo : Int) % (y : Int) = ((lo % y : Nat) : Int) := (Int.natCast_emod _ _).symm
  have HW := Lib.hid (show IntKind.u64.wrap ((lo : Int) / (y : Int)) = (lo : Int) / (y : Int) from by
    rw [hq, u64_nat, Nat.mod_eq_of_lt (Nat.lt_of_le_of_lt (Nat.div_le_self lo y) hlo)])
  have HQ := Lib.hid hq
  have HR := Lib.hid hr
  clear hq hr
  go_enter Try.func129, Try.ntmps129
  go_wp2_with fail
  go_region
  go_wp2
  exact bodyPost_ret (v := .tuple #[.int .u64 ((lo : Int) / (y : Int)), .int .u64 ((lo : Int) % (y : Int))]) (by simp [results, Try.results129, go_sem, HW.out]) rfl ⟨by rw [HQ.out, HR.out], 1, rfl⟩
theorem and32 {a : Nat} (h : a < 2 ^ 64) : bits .and .u64 (a : Int) 4294967295 = ((a % 4294967296 : Nat) : Int) := by
  have := bits_mask .u64 64 (by decide) u64_id 32 (by decide) (a : Int) (Int.natCast_nonneg _) (by exact_mod_cast h)
  rw [show (2 : Int) ^ 32 - 1 = 4294967295 from rfl, show (2 : Int) ^ 32 = 4294967296 from rfl] at this
  rw [this]
  rfl
def HalfQ (un d Y : Nat) (v : Value) : Prop := v = .int .u64 (((un * 4294967296 + d) / Y : Nat) : Int)
set_option maxRecDepth 100000 in
set_option maxHeartbeats 2000000 in
theorem div64_big (hi lo y : Nat) (hlo : lo < 2 ^ 64) (hy : y < 2 ^ 64) (h0 : 0 < hi) (hlt : hi < y) (w : World) :
    Calls Try.prog 129 #[.int .u64 (hi : Nat), .int .u64 (lo : Nat), .int .u64 (y : Nat)] w fun e w' => e = .returned (.tuple #[.int .u64 (((hi * 2 ^ 64 + lo) / y : Nat) : Int), .int .u64 (((hi * 2 ^ 64 + lo) % y : Nat) : Int)]) ∧ Drew w w' := by
  obtain ⟨hn1, hn2, hn3⟩ := norm_word (show 0 < y by omega) hy
  have hz : ((y : Int) == 0) = false := by rw [beq_eq_false_iff_ne]; omega
  have hz2 : ((hi : Int) == 0) = false := by rw [beq_eq_false_iff_ne]; omega
  have HL := Lib.hid (fun W => lead64_any y hy W)
  obtain ⟨s, hs⟩ : ∃ s, 64 - bl y = s := ⟨_, rfl⟩
  rw [hs] at hn1 hn2 hn3 HL
  clear hs
  obtain ⟨hw1, hw2, hw3⟩ := shift_words hn3 hlo hn2 hlt
  obtain ⟨hd, hm⟩ := shifted (hi * 2 ^ 64 + lo) y s
  rw [← hw3] at hd hm
  have EO := or64' (T := lo / 2 ^ (64 - s)) (y := hi * 2 ^ s) (i := s) (by rw [Nat.div_lt_iff_lt_mul (Nat.two_pow_pos _), ← Nat.pow_add, show s + (64 - s) = 64 by omega]; exact hlo) (by omega) (Nat.mul_mod_left _ _) hw1
  rw [Nat.add_comm] at EO
  have EH : IntKind.u64.wrap ((hi : Int) * 2 ^ s) = ((hi * 2 ^ s : Nat) : Int) := by rw [shl64, Nat.mod_eq_of_lt hw1]
  have EZ : IntKind.u64.wrap ((lo : Int) * 2 ^ s) = ((lo * 2 ^ s % 2 ^ 64 : Nat) : Int) := shl64 lo s
  have EY : IntKind.u64.wrap ((y : Int) * 2 ^ s) = ((y * 2 ^ s : Nat) : Int) := by rw [shl64, Nat.mod_eq_of_lt hn2]
  have hzb : lo * 2 ^ s % 2 ^ 64 < 2 ^ 64 := Nat.mod_lt _ (by decide)
  have HEO := Lib.hid EO
  have HEH := Lib.hid EH
  have HEZ := Lib.hid EZ
  have HEY := Lib.hid EY
  have HHD := Lib.hid hd
  have HHM := Lib.hid hm
  clear hd hm hw3 EO EZ EY EH
  go_enter Try.func129, Try.ntmps129
  go_wp2_with fail
  refine (HL.out _).mono ?_
  rintro e w1 ⟨rfl, rfl⟩
  go_upto_region 15 with (fail)
  rw [HEH.out, shr64, HEO.out, HEZ.out, HEY.out]
  generalize hun : hi * 2 ^ s + lo / 2 ^ (64 - s) = un at *
  generalize hz10 : lo * 2 ^ s % 2 ^ 64 = z at *
  generalize hYY : y * 2 ^ s = Y at *
  clear hun hz10 hYY HEO HEZ HEY HEH hw1
  rw [and32 hn2, and32 hzb, show (Y : Int) / 4294967296 = ((Y / 4294967296 : Nat) : Int) from rfl, show (z : Int) / 4294967296 = ((z / 4294967296 : Nat) : Int) from rfl]
  have hY1 : 2147483648 ≤ Y / 4294967296 := by omega
  have hY2 : Y / 4294967296 < 4294967296 := by omega
  have hY3 : Y % 4294967296 < 4294967296 := by omega
  have hu1 : z / 4294967296 < 4294967296 := by omega
  have hu0 : z % 4294967296 < 4294967296 := by omega
  have HZ := Lib.hid (show z = z / 4294967296 * 4294967296 + z % 4294967296 by omega)
  have HST := Lib.hid (half_start (d := z / 4294967296) (by omega) hw2 hu1)
  have HNX := Lib.hid (fun q r (h : Half un (z / 4294967296) Y q r) => half_next h (by omega) hw2 hu1)
  have HDN := Lib.hid (fun q r (h : Half un (z / 4294967296) Y q r) => half_done h (by omega))
  have HBR := Lib.hid (fun q r (h : Half un (z / 4294967296) Y q r) => half_break h (by omega))
  have HPS := Lib.hid (fun q r (h : Half un (z / 4294967296) Y q r) => half_pos h)
  generalize hg1 : Y / 4294967296 = Y1 at *
  generalize hg2 : Y % 4294967296 = Y0 at *
  generalize hg3 : z / 4294967296 = u1 at *
  generalize hg4 : z % 4294967296 = u0 at *
  have HG1 := Lib.hid hg1
  have HG2 := Lib.hid hg2
  clear hg1 hg2 hg3 hg4
  have hY1z : ((Y1 : Int) == 0) = false := by rw [beq_eq_false_iff_ne]; omega
  have E15 : (un : Int) / (Y1 : Int) = ((un / Y1 : Nat) : Int) := (Int.natCast_ediv _ _).symm
  have hr1 := Nat.div_add_mod' un Y1
  have hr2 := Nat.mod_lt un (show 0 < Y1 by omega)
  have E16 : IntKind.u64.wrap (((un / Y1 : Nat) : Int) * (Y1 : Int)) = ((un / Y1 * Y1 : Nat) : Int) := by
    rw [← Int.natCast_mul, u64_nat, Nat.mod_eq_of_lt (by omega)]
  have E17 : (un : Int) - ((un / Y1 * Y1 : Nat) : Int) = ((un % Y1 : Nat) : Int) := by omega
  have hq0 : un / Y1 ≤ 4294967297 := HST.out.le
  have hqb : un / Y1 * Y1 ≤ un := by omega
  generalize hq : un / Y1 = q0 at *
  generalize hr : un % Y1 = r0 at *
  generalize hqy : q0 * Y1 = qy at *
  clear hq hr hqy
  go_upto_block 0 with (fail)
  have HQ := Lib.hid E15
  clear E15 E16 E17 hr1 hqb
  go_cut [15] (fun v15 wx => HalfQ un u1 Y v15 ∧ wx = w1)
  case first =>
    go_wp2_with fail
    go_loop [15, 16] (fun v15 v16 => ∃ q r : Nat, v15 = .int .u64 (q : Nat) ∧ v16 = .int .u64 (r : Nat) ∧ q ≤ 4294967297 ∧ r < 4294967296 ∧ Hid (Half un u1 Y q r)) (fun v15 _ => (intOf v15).toNat)
    case atStart => exact ⟨q0, r0, rfl, rfl, hq0, by omega, HST⟩
    case round =>
      obtain ⟨q, r, rfl, rfl, hqb, hrb, hh⟩ := hrel
      have hqI : (q : Int) ≤ 4294967297 := by omega
      have hrI : (r : Int) < 4294967296 := by omega
      have hY1I : (Y1 : Int) < 4294967296 := by omega
      have hY0I : (Y0 : Int) < 4294967296 := by omega
      have hu1I : (u1 : Int) < 4294967296 := by omega
      have HQB := Lib.hid hqb
      have HRB := Lib.hid hrb
      clear hqb hrb hn1 hn2 hzb hY1 hY2 hY3 hu1 hu0 hq0
      by_cases hc : (4294967296 : Int) ≤ (q : Int)
      · have HH := Lib.hid (HNX.out q r hh.out (.inl (by omega)))
        by_cases hr2 : (4294967296 : Int) ≤ (r : Int) + (Y1 : Int)
        · have HX := Lib.hid (HBR.out (q - 1) (r + Y1) HH.out (by omega) (by omega))
          go_wp2_with fail
          go_meet
          refine ⟨?_, rfl⟩
          unfold HalfQ
          rw [← HX.out]
          exact congrArg (Value.int .u64) (by omega)
        · go_wp2_with fail
          go_round
          case rel => exact ⟨q - 1, r + Y1, congrArg (Value.int .u64) (by omega), congrArg (Value.int .u64) (by omega), by omega, by omega, HH⟩
          case measure => simp [intOf]; omega
      · have hP : q * Y0 ≤ 4294967295 * 4294967295 := Nat.mul_le_mul (by omega) (by omega)
        have HE := Lib.hid (show ((q : Int) * (Y0 : Int)) = ((q * Y0 : Nat) : Int) from (Int.natCast_mul _ _).symm)
        have HNX2 := Lib.hid (fun h => HNX.out q r hh.out (.inr h))
        have HDN2 := Lib.hid (HDN.out q r hh.out)
        have hPI : ((q * Y0 : Nat) : Int) ≤ 18446744065119617025 := by omega
        have HNX3 := Lib.hid (show ((4294967296 : Int) * (r : Int) + (u1 : Int) < ((q * Y0 : Nat) : Int)) → Half un u1 Y (q - 1) (r + Y1) from fun h => HNX2.out (by omega))
        have HDN3 := Lib.hid (show (((q * Y0 : Nat) : Int) ≤ (4294967296 : Int) * (r : Int) + (u1 : Int)) → q = (un * 4294967296 + u1) / Y from fun h => HDN2.out (by omega))
        have HPS3 := Lib.hid (show ((4294967296 : Int) * (r : Int) + (u1 : Int) < ((q * Y0 : Nat) : Int)) → (1 : Int) ≤ (q : Int) from fun h => by have := HPS.out q r hh.out (.inr (by omega)); omega)
        have hE := HE.out
        have hP0 : (0 : Int) ≤ ((q * Y0 : Nat) : Int) := Int.natCast_nonneg _
        clear hP HNX2 HDN2 HE
        generalize ((q * Y0 : Nat) : Int) = P at *
        by_cases hm : (4294967296 : Int) * (r : Int) + (u1 : Int) < P
        · have HH := Lib.hid (HNX3.out hm)
          have hq1 := HPS3.out hm
          by_cases hr2 : (4294967296 : Int) ≤ (r : Int) + (Y1 : Int)
          · have HX := Lib.hid (HBR.out (q - 1) (r + Y1) HH.out (by omega) (by omega))
            go_wp2_with fail
            go_meet
            refine ⟨?_, rfl⟩
            unfold HalfQ
            rw [← HX.out]
            exact congrArg (Value.int .u64) (by omega)
          · go_wp2_with fail
            go_round
            case rel => exact ⟨q - 1, r + Y1, congrArg (Value.int .u64) (by omega), congrArg (Value.int .u64) (by omega), by omega, by omega, HH⟩
            case measure => simp [intOf]; omega
        · have hmI : P ≤ (4294967296 : Int) * (r : Int) + (u1 : Int) := by omega
          have hmd : decide ((4294967296 : Int) * (r : Int) + (u1 : Int) < P) = false := by rw [decide_eq_false_iff_not]; exact hm
          have HMI := Lib.hid hmI
          clear hm hmI
          go_wp2_with fail
          go_meet
          refine ⟨?_, rfl⟩
          unfold HalfQ
          rw [← HDN3.out HMI.out]
  case rest =>
    obtain ⟨hcut, rfl⟩ := hcut
    unfold HalfQ at hcut
    have ht1 := half_bound (Y := Y) hw2 hu1
    have hN1 := Nat.div_add_mod' (un * 4294967296 + u1) Y
    have hR1 := Nat.mod_lt (un * 4294967296 + u1) (show 0 < Y by omega)
    obtain ⟨t1, htt⟩ : ∃ t1, (un * 4294967296 + u1) / Y = t1 := ⟨_, rfl⟩
    obtain ⟨R1, hRR⟩ : ∃ R1, (un * 4294967296 + u1) % Y = R1 := ⟨_, rfl⟩
    rw [htt] at hcut ht1 hN1
    rw [hRR] at hR1 hN1
    subst hcut
    have E21 : IntKind.u64.wrap (IntKind.u64.wrap (IntKind.u64.wrap ((un : Int) * 4294967296) + (u1 : Int)) - IntKind.u64.wrap ((t1 : Int) * (Y : Int))) = (R1 : Int) := by
      rw [← Int.natCast_mul]
      simp only [PAll.wrap_u64]
      generalize t1 * Y = m at *
      omega
    have HE21 := Lib.hid E21
    have HTT := Lib.hid htt
    have HRR := Lib.hid hRR
    have HR1 := Lib.hid hR1
    have HT1 := Lib.hid ht1
    clear hR1 ht1 E21 htt hRR hN1
    go_upto_region 22 with (fail)
    rw [HE21.out]
    have HST := Lib.hid (half_start (d := u0) (by omega) HR1.out hu0)
    have HNX := Lib.hid (fun q r (h : Half R1 u0 Y q r) => half_next h (by omega) HR1.out hu0)
    have HDN := Lib.hid (fun q r (h : Half R1 u0 Y q r) => half_done h (by omega))
    have HBR := Lib.hid (fun q r (h : Half R1 u0 Y q r) => half_break h (by omega))
    have HPS := Lib.hid (fun q r (h : Half R1 u0 Y q r) => half_pos h)
    have ht2 := half_bound (Y := Y) HR1.out hu0
    rw [HG1.out] at HST HNX
    rw [HG2.out] at HNX HDN HPS
    have E15 : (R1 : Int) / (Y1 : Int) = ((R1 / Y1 : Nat) : Int) := (Int.natCast_ediv _ _).symm
    have hr1 := Nat.div_add_mod' R1 Y1
    have hr2 := Nat.mod_lt R1 (show 0 < Y1 by omega)
    have hR1b : R1 < 2 ^ 64 := Nat.lt_trans HR1.out hn2
    have E16 : IntKind.u64.wrap (((R1 / Y1 : Nat) : Int) * (Y1 : Int)) = ((R1 / Y1 * Y1 : Nat) : Int) := by
      rw [← Int.natCast_mul, u64_nat, Nat.mod_eq_of_lt (by omega)]
    have E17 : (R1 : Int) - ((R1 / Y1 * Y1 : Nat) : Int) = ((R1 % Y1 : Nat) : Int) := by omega
    have hq2 : R1 / Y1 ≤ 4294967297 := HST.out.le
    have hqb : R1 / Y1 * Y1 ≤ R1 := by omega
    obtain ⟨q2, hq⟩ : ∃ q2, R1 / Y1 = q2 := ⟨_, rfl⟩
    obtain ⟨r2, hr⟩ : ∃ r2, R1 % Y1 = r2 := ⟨_, rfl⟩
    rw [hq] at E15 hr1 E16 E17 hq2 hqb HST
    rw [hr] at hr1 hr2 E17 HST
    obtain ⟨qz, hqz⟩ : ∃ qz, q2 * Y1 = qz := ⟨_, rfl⟩
    rw [hqz] at hr1 E16 E17 hqb
    have HN2 := Lib.hid hn2
    clear hq hr hqz hn1 hn2 hzb
    go_upto_block 2 with (fail)
    clear E15 E16 E17 hr1 hqb
    go_cut [18] (fun v18 wx => HalfQ R1 u0 Y v18 ∧ wx = wc)
    case first =>
      go_wp2_with fail
      go_loop [18, 16] (fun v18 v16 => ∃ q r : Nat, v18 = .int .u64 (q : Nat) ∧ v16 = .int .u64 (r : Nat) ∧ q ≤ 4294967297 ∧ r < 4294967296 ∧ Hid (Half R1 u0 Y q r)) (fun v18 _ => (intOf v18).toNat)
      case atStart => exact ⟨q2, r2, rfl, rfl, hq2, by omega, HST⟩
      case round =>
        obtain ⟨q, r, rfl, rfl, hqb, hrb, hh⟩ := hrel
        have hqI : (q : Int) ≤ 4294967297 := by omega
        have hrI : (r : Int) < 4294967296 := by omega
        have hY1I : (Y1 : Int) < 4294967296 := by omega
        have hY0I : (Y0 : Int) < 4294967296 := by omega
        have hu0I : (u0 : Int) < 4294967296 := by omega
        have HQB := Lib.hid hqb
        have HRB := Lib.hid hrb
        clear hqb hrb hY1 hY2 hY3 hu0 hq2
        by_cases hc : (4294967296 : Int) ≤ (q : Int)
        · have HH := Lib.hid (HNX.out q r hh.out (.inl (by omega)))
          by_cases hr2 : (4294967296 : Int) ≤ (r : Int) + (Y1 : Int)
          · have HX := Lib.hid (HBR.out (q - 1) (r + Y1) HH.out (by omega) (by omega))
            go_wp2_with fail
            go_meet
            refine ⟨?_, rfl⟩
            unfold HalfQ
            rw [← HX.out]
            exact congrArg (Value.int .u64) (by omega)
          · go_wp2_with fail
            go_round
            case rel => exact ⟨q - 1, r + Y1, congrArg (Value.int .u64) (by omega), congrArg (Value.int .u64) (by omega), by omega, by omega, HH⟩
            case measure => simp [intOf]; omega
        · have hP : q * Y0 ≤ 4294967295 * 4294967295 := Nat.mul_le_mul (by omega) (by omega)
          have HE := Lib.hid (show ((q : Int) * (Y0 : Int)) = ((q * Y0 : Nat) : Int) from (Int.natCast_mul _ _).symm)
          have HNX2 := Lib.hid (fun h => HNX.out q r hh.out (.inr h))
          have HDN2 := Lib.hid (HDN.out q r hh.out)
          have hPI : ((q * Y0 : Nat) : Int) ≤ 18446744065119617025 := by omega
          have HNX3 := Lib.hid (show ((4294967296 : Int) * (r : Int) + (u0 : Int) < ((q * Y0 : Nat) : Int)) → Half R1 u0 Y (q - 1) (r + Y1) from fun h => HNX2.out (by omega))
          have HDN3 := Lib.hid (show (((q * Y0 : Nat) : Int) ≤ (4294967296 : Int) * (r : Int) + (u0 : Int)) → q = (R1 * 4294967296 + u0) / Y from fun h => HDN2.out (by omega))
          have HPS3 := Lib.hid (show ((4294967296 : Int) * (r : Int) + (u0 : Int) < ((q * Y0 : Nat) : Int)) → (1 : Int) ≤ (q : Int) from fun h => by have := HPS.out q r hh.out (.inr (by omega)); omega)
          have hE := HE.out
          have hP0 : (0 : Int) ≤ ((q * Y0 : Nat) : Int) := Int.natCast_nonneg _
          clear hP HNX2 HDN2 HE
          generalize ((q * Y0 : Nat) : Int) = P at *
          by_cases hm : (4294967296 : Int) * (r : Int) + (u0 : Int) < P
          · have HH := Lib.hid (HNX3.out hm)
            have hq1 := HPS3.out hm
            by_cases hr2 : (4294967296 : Int) ≤ (r : Int) + (Y1 : Int)
            · have HX := Lib.hid (HBR.out (q - 1) (r + Y1) HH.out (by omega) (by omega))
              go_wp2_with fail
              go_meet
              refine ⟨?_, rfl⟩
              unfold HalfQ
              rw [← HX.out]
              exact congrArg (Value.int .u64) (by omega)
            · go_wp2_with fail
              go_round
              case rel => exact ⟨q - 1, r + Y1, congrArg (Value.int .u64) (by omega), congrArg (Value.int .u64) (by omega), by omega, by omega, HH⟩
              case measure => simp [intOf]; omega
          · have hmI : P ≤ (4294967296 : Int) * (r : Int) + (u0 : Int) := by omega
            have hmd : decide ((4294967296 : Int) * (r : Int) + (u0 : Int) < P) = false := by rw [decide_eq_false_iff_not]; exact hm
            have HMI := Lib.hid hmI
            clear hm hmI
            go_wp2_with fail
            go_meet
            refine ⟨?_, rfl⟩
            unfold HalfQ
            rw [← HDN3.out HMI.out]
    case rest =>
      obtain ⟨hcut, rfl⟩ := hcut
      unfold HalfQ at hcut
      have hN2 := Nat.div_add_mod' (R1 * 4294967296 + u0) Y
      have hR0 := Nat.mod_lt (R1 * 4294967296 + u0) (show 0 < Y by omega)
      obtain ⟨hfin1, hfin2⟩ := halves (un := un) (u1 := u1) (u0 := u0) (Y := Y) (show 0 < Y by omega) HTT.out.symm HRR.out.symm rfl rfl
      obtain ⟨t0, htt0⟩ : ∃ t0, (R1 * 4294967296 + u0) / Y = t0 := ⟨_, rfl⟩
      obtain ⟨R0, hRR0⟩ : ∃ R0, (R1 * 4294967296 + u0) % Y = R0 := ⟨_, rfl⟩
      rw [htt0] at hcut hN2 ht2 hfin1
      rw [hRR0] at hR0 hN2 hfin2
      subst hcut
      have hn2 := HN2.out
      have E28 : IntKind.u64.wrap (IntKind.u64.wrap (IntKind.u64.wrap ((R1 : Int) * 4294967296) + (u0 : Int)) - IntKind.u64.wrap ((t0 : Int) * (Y : Int))) = (R0 : Int) := by
        rw [← Int.natCast_mul]
        simp only [PAll.wrap_u64]
        generalize t0 * Y = m at *
        omega
      have HE28 := Lib.hid E28
      have HF1 := Lib.hid hfin1
      have HF2 := Lib.hid hfin2
      have ht1I : (t1 : Int) < 4294967296 := by have := HT1.out; omega
      have ht0I : (t0 : Int) < 4294967296 := by omega
      have hsI : (s : Int) < 64 := by omega
      clear E28 hfin1 hfin2 htt0 hRR0 hN2 hR0 hn2 ht2 hY1 hY2 hY3 hu1 hu0 hq0 hq2
      go_upto_region 28 with (fail)
      go_wp2
      rw [HE28.out]
      refine bodyPost_ret (v := .tuple #[.int .u64 ((t1 : Int) * 4294967296 + (t0 : Int)), .int .u64 ((R0 : Int) / 2 ^ s)]) (by simp [results, Try.results129, go_sem]) rfl ⟨?_, Drew.refl _⟩
      rw [← HHD.out, ← HHM.out, HZ.out, show (2 : Nat) ^ 64 = 18446744073709551616 from rfl, HF1.out, HF2.out, shr64, Int.natCast_add, Int.natCast_mul]
      rfl
theorem div64_any (hi lo y : Nat) (hlo : lo < 2 ^ 64) (hy : y < 2 ^ 64) (hlt : hi < y) (w : World) :
    Calls Try.prog 129 #[.int .u64 (hi : Nat), .int .u64 (lo : Nat), .int .u64 (y : Nat)] w fun e w' => e = .returned (.tuple #[.int .u64 (((hi * 2 ^ 64 + lo) / y : Nat) : Int), .int .u64 (((hi * 2 ^ 64 + lo) % y : Nat) : Int)]) ∧ Drew w w' := by
  rcases Nat.eq_zero_or_pos hi with h | h
  · subst h
    rw [Nat.zero_mul, Nat.zero_add]
    exact div64_small lo y hlo hy (by omega) w
  · exact div64_big hi lo y hlo hy h hlt w
end Go.Proofs.Yteikhnmmkanndaa
namespace Go.Proofs.Yteikhnmmkanndaa
open Go.RowKit
def Above (top next u2 u1 u0 x : Nat) : Prop := ∀ q, q < 2 ^ 64 → q * (top * 2 ^ 64 + next) ≤ (u2 * 2 ^ 64 + u1) * 2 ^ 64 + u0 → q ≤ x
theorem Above.first {top next u2 u1 u0 : Nat} (ht : 0 < top) (h0 : u0 < 2 ^ 64) : Above top next u2 u1 u0 ((u2 * 2 ^ 64 + u1) / top) := fun _ _ h => guess_first ht h0 h
theorem Above.next {top next u2 u1 u0 x left : Nat} (h : Above top next u2 u1 u0 x) (hx : x * top + left = u2 * 2 ^ 64 + u1) (hn : left * 2 ^ 64 + u0 < x * next) : Above top next u2 u1 u0 (x - 1) := fun q hq hm => guess_next hm hx (h q hq hm) hn
def GuessEnd (w : World) (top next u2 u1 u0 : Nat) : Ending → World → Prop := fun e w' => ∃ x : Nat, x < 2 ^ 64 ∧ Above top next u2 u1 u0 x ∧ e = .returned (.int .u64 (x : Nat)) ∧ Drew w w'
set_option maxRecDepth 100000 in
set_option maxHeartbeats 2000000 in
theorem guess_full (b o n c : Nat) (top next u2 u1 u0 : Nat) (w : World) (hn : 3 ≤ n) (hn2 : n ≤ 1099511627776) (c2 : w.cell? ⟨b, o + (n - 1), none⟩ = some (.int .u64 (u2 : Nat))) (ht : top ≤ u2) :
    Calls Try.prog 97 #[.slice (some ⟨b, o, none⟩) n c, .int .u64 (top : Nat), .int .u64 (next : Nat)] w (GuessEnd w top next u2 u1 u0) := by
  obtain ⟨k, rfl⟩ : ∃ k, n = k + 3 := ⟨n - 3, by omega⟩
  rw [show k + 3 - 1 = k + 2 by omega] at c2
  have HE := Lib.hid (show GuessEnd w top next u2 u1 u0 (.returned (.int .u64 18446744073709551615)) w from ⟨18446744073709551615, by decide, fun q hq _ => by omega, rfl, Drew.refl _⟩)
  have c2' : w.cell? ⟨b, o + (k + 3 - 1), none⟩ = some (.int .u64 (u2 : Nat)) := c2
  go_enter Try.func97, Try.ntmps97
  go_wp2
  go_ret
  exact HE.out
set_option maxRecDepth 100000 in
set_option maxHeartbeats 2000000 in
theorem guess_less (b o n c : Nat) (top next u2 u1 u0 : Nat) (w : World) (hn : 3 ≤ n) (hn2 : n ≤ 1099511627776) (c2 : w.cell? ⟨b, o + (n - 1), none⟩ = some (.int .u64 (u2 : Nat))) (c1 : w.cell? ⟨b, o + (n - 2), none⟩ = some (.int .u64 (u1 : Nat))) (c0 : w.cell? ⟨b, o + (n - 3), none⟩ = some (.int .u64 (u0 : Nat)))
    (ht : u2 < top) (htb : top < 2 ^ 64) (hnx : next < 2 ^ 64) (hu1 : u1 < 2 ^ 64) (hu0 : u0 < 2 ^ 64) :
    Calls Try.prog 97 #[.slice (some ⟨b, o, none⟩) n c, .int .u64 (top : Nat), .int .u64 (next : Nat)] w (GuessEnd w top next u2 u1 u0) := by
  obtain ⟨k, rfl⟩ : ∃ k, n = k + 3 := ⟨n - 3, by omega⟩
  rw [show k + 3 - 1 = k + 2 by omega] at c2
  rw [show k + 3 - 2 = k + 1 by omega] at c1
  rw [show k + 3 - 3 = k by omega] at c0
  have HDV := Lib.hid (fun W => div64_any u2 u1 top hu1 htb ht W)
  have hq1 : (u2 * 2 ^ 64 + u1) / top < 2 ^ 64 := by
    rw [Nat.div_lt_iff_lt_mul (by omega), Nat.mul_comm]
    have : (u2 + 1) * 2 ^ 64 ≤ top * 2 ^ 64 := Nat.mul_le_mul_right _ ht
    omega
  have hr1 := Nat.mod_lt (u2 * 2 ^ 64 + u1) (show 0 < top by omega)
  have HS := Lib.hid (Nat.div_add_mod' (u2 * 2 ^ 64 + u1) top)
  have HA := Lib.hid (Above.first (top := top) (next := next) (u2 := u2) (u1 := u1) (by omega) hu0)
  have HM := Lib.hid (fun q (hq : q < 2 ^ 64) W => mul64_any q next hq hnx W)
  obtain ⟨q0, hq⟩ : ∃ q0, (u2 * 2 ^ 64 + u1) / top = q0 := ⟨_, rfl⟩
  obtain ⟨r0, hr⟩ : ∃ r0, (u2 * 2 ^ 64 + u1) % top = r0 := ⟨_, rfl⟩
  rw [hq] at HDV hq1 HS HA
  rw [hr] at HDV hr1 HS
  have HNX := Lib.hid hnx
  have HU0 := Lib.hid hu0
  have HTB := Lib.hid htb
  clear hq hr hnx hu1 hu0
  go_enter Try.func97, Try.ntmps97
  go_wp2_with fail
  have m1 : IntKind.i64.wrap ((k : Int) + 3 - 1) = (k : Int) + 2 := (IntWalk.i64_in _ (by omega)).trans (by omega)
  have m2 : IntKind.i64.wrap ((k : Int) + 3 - 2) = (k : Int) + 1 := (IntWalk.i64_in _ (by omega)).trans (by omega)
  have m3 : (0 : Int) ≤ (k : Int) + 2 := by omega
  have m4 : (k : Int) + 2 < (k : Int) + 3 := by omega
  have m5 : (0 : Int) ≤ (k : Int) + 1 := by omega
  have m6 : (k : Int) + 1 < (k : Int) + 3 := by omega
  have m7 : ((k : Int) + 2).toNat = k + 2 := by omega
  have m8 : ((k : Int) + 1).toNat = k + 1 := by omega
  go_quiet ((go_at_call 129; exact quiet_drew (HDV.out _)))
  clear m1 m2 m3 m4 m5 m6 m7 m8 c2 c1
  have hrb : r0 < 2 ^ 64 := Nat.lt_trans hr1 HTB.out
  have hdec : decide (top ≤ u2) = false := by rw [decide_eq_false_iff_not]; omega
  have HT := Lib.hid ht
  have c0' : (w.drewN nq).cell? ⟨b, o + k, none⟩ = some (.int .u64 (u0 : Nat)) := c0
  have HW := Lib.hid (show Drew w (w.drewN nq) from ⟨nq, rfl⟩)
  go_wp2_with fail
  rw [hdec, show ((k : Int) + 3 - 1) = (k : Int) + 2 by omega, show k + 3 - 1 = k + 2 from rfl]
  clear hdec ht hr1 c0
  obtain ⟨S, hS⟩ : ∃ S, w.drewN nq = S := ⟨_, rfl⟩
  rw [hS] at c0' HW ⊢
  clear hS
  go_loopw [8, 9] (fun v8 v9 wr => ∃ q r : Nat, v8 = .int .u64 (q : Nat) ∧ v9 = .int .u64 (r : Nat) ∧ q < 2 ^ 64 ∧ r < 2 ^ 64 ∧ Hid (q * top + r = u2 * 2 ^ 64 + u1) ∧ Hid (Above top next u2 u1 u0 q) ∧ wr = S) (fun _ v9 _ => 2 ^ 64 - (intOf v9).toNat)
  case atStart => exact ⟨q0, r0, rfl, rfl, hq1, hrb, HS, HA, rfl⟩
  case round =>
    obtain ⟨q, r, rfl, rfl, hqb, hrb, hs, ha, rfl⟩ := hrel
    have hmul := HM.out q hqb
    have hdm := Nat.div_add_mod' (q * next) (2 ^ 64)
    have hlo := Nat.mod_lt (q * next) (show 0 < 2 ^ 64 by decide)
    have HNXT := Lib.hid (fun h => ha.out.next hs.out h)
    obtain ⟨hi, hhi⟩ : ∃ hi, q * next / 2 ^ 64 = hi := ⟨_, rfl⟩
    obtain ⟨lo, hlo'⟩ : ∃ lo, q * next % 2 ^ 64 = lo := ⟨_, rfl⟩
    rw [hhi] at hmul hdm
    rw [hlo'] at hmul hdm hlo
    have HMUL := Lib.hid hmul
    have HDM := Lib.hid hdm
    clear hmul hdm hhi hlo'
    have hu0 := HU0.out
    have htop := HTB.out
    by_cases hA : hi < r
    · go_wp2_with fail
      refine (HMUL.out _).mono ?_
      rintro e w1 ⟨rfl, rfl⟩
      go_wp2
      go_ret
      exact ⟨q, hqb, ha.out, rfl, HW.out⟩
    · by_cases hB : hi = r ∧ lo ≤ u0
      · obtain ⟨rfl, hlu⟩ := hB
        go_wp2_with fail
        refine (HMUL.out _).mono ?_
        rintro e w1 ⟨rfl, rfl⟩
        go_wp2
        go_ret
        exact ⟨q, hqb, ha.out, rfl, HW.out⟩
      · have hmore : r * 2 ^ 64 + u0 < q * next := by
          have := HDM.out
          omega
        have hq1 : 1 ≤ q := by
          rcases Nat.eq_zero_or_pos q with h | h
          · subst h; rw [Nat.zero_mul] at hmore; omega
          · exact h
        have hs' : (q - 1) * top + (r + top) = u2 * 2 ^ 64 + u1 := by
          have := hs.out
          obtain ⟨p, rfl⟩ : ∃ p, q = p + 1 := ⟨q - 1, by omega⟩
          rw [Nat.add_mul, Nat.one_mul] at this
          rw [Nat.add_sub_cancel]
          omega
        have ha' := Lib.hid (HNXT.out hmore)
        have HS' := Lib.hid hs'
        have hadd := add64_run r top 0 (by omega)
        simp only [Nat.add_zero] at hadd
        have hadd : ∀ W, (callFunc 102 #[.int .u64 (r : Nat), .int .u64 (top : Nat), .int .u64 0]).run Try.prog W = .ok (.value (.tuple #[.int .u64 (((r + top) % 2 ^ 64 : Nat) : Int), .int .u64 (((r + top) / 2 ^ 64 : Nat) : Int)])) W := hadd
        clear hmore hs'
        by_cases hov : r + top < 2 ^ 64
        · rw [Nat.mod_eq_of_lt hov, Nat.div_eq_of_lt hov] at hadd
          have hadd : ∀ W, (callFunc 102 #[.int .u64 (r : Nat), .int .u64 (top : Nat), .int .u64 0]).run Try.prog W = .ok (.value (.tuple #[.int .u64 ((r + top : Nat) : Int), .int .u64 0])) W := hadd
          have hr64 : r + top < 18446744073709551616 := hov
          generalize hz : r + top = z at hadd hr64
          have HZ := Lib.hid hz
          have hzr : r < z := by have := HT.out; omega
          have HZB := Lib.hid hov
          have HS2 := Lib.hid (show (q - 1) * top + z = u2 * 2 ^ 64 + u1 from by rw [← hz]; exact HS'.out)
          have hzb : z < 2 ^ 64 := by rw [← hz]; exact hov
          clear hov hz hr64
          rcases Nat.lt_or_ge r hi with hlt | hge
          · have hne : ((hi : Int) == (r : Int)) = false := by rw [beq_eq_false_iff_ne]; omega
            clear hA hB
            go_wp2_with fail
            refine (HMUL.out _).mono ?_
            rintro e w1 ⟨rfl, rfl⟩
            go_wp2_with fail
            go_roundw
            case rel => exact ⟨q - 1, z, congrArg (Value.int .u64) (by omega), congrArg (Value.int .u64) (by have := HZ.out; omega), by omega, hzb, HS2, ha', trivial⟩
            case measure => simp [intOf]; have := HZ.out; omega
          · obtain rfl : hi = r := by omega
            have hlu : u0 < lo := by omega
            clear hA hB hge
            go_wp2_with fail
            refine (HMUL.out _).mono ?_
            rintro e w1 ⟨rfl, rfl⟩
            go_wp2_with fail
            go_roundw
            case rel => exact ⟨q - 1, z, congrArg (Value.int .u64) (by omega), congrArg (Value.int .u64) (by have := HZ.out; omega), by omega, hzb, HS2, ha', trivial⟩
            case measure => simp [intOf]; have := HZ.out; omega
        · have h1 : (r + top) / 2 ^ 64 = 1 := by omega
          rw [h1] at hadd
          have hadd : ∀ W, (callFunc 102 #[.int .u64 (r : Nat), .int .u64 (top : Nat), .int .u64 0]).run Try.prog W = .ok (.value (.tuple #[.int .u64 (((r + top) % 2 ^ 64 : Nat) : Int), .int .u64 1])) W := hadd
          generalize (r + top) % 2 ^ 64 = z at hadd
          clear h1 hov
          rcases Nat.lt_or_ge r hi with hlt | hge
          · have hne : ((hi : Int) == (r : Int)) = false := by rw [beq_eq_false_iff_ne]; omega
            clear hA hB
            go_wp2_with fail
            refine (HMUL.out _).mono ?_
            rintro e w1 ⟨rfl, rfl⟩
            go_wp2_with fail
            go_ret
            exact ⟨q - 1, by omega, ha'.out, congrArg (fun z => Ending.returned (.int .u64 z)) (by omega), HW.out⟩
          · obtain rfl : hi = r := by omega
            have hlu : u0 < lo := by omega
            clear hA hB hge
            go_wp2_with fail
            refine (HMUL.out _).mono ?_
            rintro e w1 ⟨rfl, rfl⟩
            go_wp2_with fail
            go_ret
            exact ⟨q - 1, by omega, ha'.out, congrArg (fun z => Ending.returned (.int .u64 z)) (by omega), HW.out⟩
end Go.Proofs.Yteikhnmmkanndaa
namespace Go.Proofs.Yteikhnmmkanndaa
open Go.RowKit
def hiw (q i : Nat) (p : Nat) : Nat := if i ≤ p then dig 64 q p else 0
theorem hiw_step {q i p : Nat} : hiw q i p = if p = i then dig 64 q i else hiw q (i + 1) p := by
  unfold hiw
  by_cases h : p = i
  · subst h; rw [if_pos (Nat.le_refl _), if_pos rfl]
  · rw [if_neg h]
    by_cases h2 : i ≤ p
    · rw [if_pos h2, if_pos (by omega)]
    · rw [if_neg h2, if_neg (by omega)]
theorem word_next (x b i : Nat) (hb : 0 < b) : (x / 2 ^ (64 * (i + 1)) % b * 2 ^ 64 + dig 64 x i) / b = dig 64 (x / b) i ∧ (x / 2 ^ (64 * (i + 1)) % b * 2 ^ 64 + dig 64 x i) % b = x / 2 ^ (64 * i) % b := by
  have h1 := div_succ 64 x i
  have h2 := Nat.div_add_mod (x / 2 ^ (64 * (i + 1))) b
  have h3 : x / 2 ^ (64 * i) = (x / 2 ^ (64 * (i + 1)) % b * 2 ^ 64 + dig 64 x i) + b * (2 ^ 64 * (x / 2 ^ (64 * (i + 1)) / b)) := by
    rw [h1]
    generalize x / 2 ^ (64 * (i + 1)) = X at *
    conv => lhs; rw [← h2]
    rw [Nat.add_mul, Nat.mul_left_comm b, Nat.mul_comm (b * (X / b))]
    omega
  constructor
  · have h4 : dig 64 (x / b) i = x / 2 ^ (64 * i) / b % 2 ^ 64 := by
      unfold dig
      rw [Nat.div_div_eq_div_mul, Nat.mul_comm, ← Nat.div_div_eq_div_mul]
    rw [h4, h3, Nat.add_mul_div_left _ _ hb, Nat.add_mul_mod_self_left]
    refine (Nat.mod_eq_of_lt ?_).symm
    rw [Nat.div_lt_iff_lt_mul hb]
    have h5 := Nat.mod_lt (x / 2 ^ (64 * (i + 1))) hb
    have h6 := dig_lt 64 x i
    generalize dig 64 x i = d at *
    generalize x / 2 ^ (64 * (i + 1)) % b = r at *
    clear h1 h2 h3 h4
    have h7 : (r + 1) * 2 ^ 64 ≤ b * 2 ^ 64 := Nat.mul_le_mul_right _ h5
    rw [Nat.mul_comm (2 ^ 64)]
    omega
  · rw [h3, Nat.add_mul_mod_self_left]
set_option maxRecDepth 100000 in
set_option maxHeartbeats 2000000 in
theorem nsmall_any (v : Value) (x d : Nat) (w : World) (h : N64 w v x) (hx : wl 64 x ≤ 1099511627776) (hd0 : 0 < d) (hd : d < 2 ^ 64) :
    Calls Try.prog 95 #[v, .int .u64 (d : Nat)] w fun e w' => ∃ q, e = .returned (.tuple #[q, .int .u64 (x % d : Nat)]) ∧ N64 w' q (x / d) ∧ Below w.heap.size w w' := by
  obtain ⟨A, ca, rfl, hla, hma, hda⟩ := h
  have HDA := Lib.hid hda
  have HXL := Lib.hid (wl_lt (k := 64) (by decide) x)
  have HQL := Lib.hid (Nat.lt_of_le_of_lt (Nat.div_le_self x d) HXL.out)
  have HD := Lib.hid hd
  have HWN := Lib.hid (fun i => word_next x d i hd0)
  clear hda hd
  unfold maxLen at hma
  obtain ⟨n, hn⟩ : ∃ n, wl 64 x = n := ⟨_, rfl⟩
  rw [hn] at hla hx HDA HXL HQL ⊢
  clear hn
  have hmk := run_make_row' (P := Try.prog) 24 62 (.int .u64 0) 8 Try.underlying24 Try.info62 rfl .i64 .i64 n (by omega) (by omega)
  have e0 := (Blk.new w 26 #[.slice A n ca]).alloc (.cells #[.slice none 0 0] 26)
  have e1 := Blk.new (w.alloc (.cells #[.slice A n ca] 26)) 26 #[.slice none 0 0]
  simp only [World.size_alloc] at e1
  have hbS := cba (cba (Below.refl _ w) (.cells #[.slice A n ca] 26)) (.cells #[.slice none 0 0] 26)
  have hg : w.heap.size + 2 ≤ ((w.alloc (.cells #[.slice A n ca] 26)).alloc (.cells #[.slice none 0 0] 26)).heap.size := by simp
  go_enter Try.func95, Try.ntmps95
  go_upto_region 1 with (fail)
  obtain ⟨S, hS⟩ : ∃ S, (w.alloc (.cells #[.slice A n ca] 26)).alloc (.cells #[.slice none 0 0] 26) = S := ⟨_, rfl⟩
  rw [hS] at e0 e1 hbS hg ⊢
  clear hS
  have S0 := Lib.hid e0
  have S1 := Lib.hid e1
  have q0 : S.cell? ⟨w.heap.size, 0, none⟩ = some (.slice A n ca) := e0.cell 0
  have q0' : (S.alloc (.cells (madeCells #[.int .u64 0] n) 62)).cell? ⟨w.heap.size, 0, none⟩ = some (.slice A n ca) := (e0.alloc _).cell 0
  have HROW := Lib.hid (World.rowIs_made S (.int .u64 0) n 62)
  clear e0 e1
  go_wp2_with fail
  clear q0 q0'
  go_loopw [7, 8] (fun v7 v8 wr => ∃ m : Nat, m ≤ n ∧ v8 = .int .i64 ((m : Int) - 1) ∧ v7 = .int .u64 (x / 2 ^ (64 * m) % d : Nat) ∧ wr.rowIs S.heap.size 62 n (fun j => .int .u64 (hiw (x / d) m j : Nat)) ∧ Below S.heap.size S wr) (fun _ v8 _ => (intOf v8 + 1).toNat)
  case atStart =>
    exact ⟨n, Nat.le_refl _, rfl, by rw [Nat.div_eq_of_lt HXL.out, Nat.zero_mod]; rfl, HROW.out.congr (fun j hj => by unfold hiw; rw [if_neg (by omega)]; rfl), cba (Below.refl _ _) _⟩
  case round =>
    obtain ⟨m, hm, rfl, rfl, hrw, hbr⟩ := hrel
    have g0 : wr.cell? ⟨w.heap.size, 0, none⟩ = some (.slice A n ca) := (blk_below S0.out hbr).cell 0
    rcases Nat.eq_zero_or_pos m with h0 | h0
    · subst h0
      have HRW := Lib.hid hrw
      rw [Nat.mul_zero, Nat.pow_zero, Nat.div_one]
      clear hrw
      go_wp2_with fail
      refine (trim_any _ _ _ (x / d) _ (Nat.le_refl _) (by unfold maxLen; omega) (Digs.of_row HRW.out (Nat.le_refl _) (fun j hj => by unfold hiw; rw [if_pos (Nat.zero_le _)])) HQL.out).mono ?_
      rintro e w4 ⟨v, rfl, ⟨A4, cap4, rfl, hl4, hm4, hd4⟩, hb4⟩
      have s4 := (blk_below S1.out hbr).below hb4 (by have := hbr.size; omega)
      have k4 : w4.cell? ⟨w.heap.size + 1, 0, none⟩ = some (.slice none 0 0) := s4.cell 0
      have f4 := s4.frozen 0
      have HDD := Lib.hid (hd4.put s4 (.slice A4 (wl 64 (x / d)) cap4))
      have hbb := (hbS.trans (hbr.mono (by omega))).trans (hb4.mono (by have := hbr.size; omega))
      have hle : w.heap.size ≤ w.heap.size + 1 := by omega
      clear hd4 g0
      go_wp2
      exact bodyPost_ret (v := .tuple #[.agg #[.slice A4 (wl 64 (x / d)) cap4], .int .u64 ((x % d : Nat) : Int)]) (by simp [results, Try.results95, go_sem, k4]) rfl ⟨_, rfl, ⟨A4, cap4, rfl, hl4, hm4, HDD.out⟩, hbb.setCell (p := ⟨w.heap.size + 1, 0, none⟩) hle _⟩
    · obtain ⟨j, rfl⟩ : ∃ j, m = j + 1 := ⟨m - 1, by omega⟩
      rw [show (((j + 1 : Nat) : Int) - 1) = (j : Int) by omega]
      obtain ⟨bA, oA, rfl, hltA, hcA⟩ := HDA.out j (by omega)
      have gA : wr.cell? ⟨bA, oA + j, none⟩ = some (.int .u64 (dig 64 x j : Nat)) := (hbr.cell (p := ⟨bA, oA + j, none⟩) (show bA < S.heap.size by omega)).trans ((hbS.cell (p := ⟨bA, oA + j, none⟩) hltA).trans hcA)
      have hlt := Nat.mod_lt (x / 2 ^ (64 * (j + 1))) hd0
      obtain ⟨hw1, hw2⟩ := HWN.out j
      have hdv := fun W => div64_any (x / 2 ^ (64 * (j + 1)) % d) (dig 64 x j) d (dig_lt 64 x j) HD.out hlt W
      rw [hw1, hw2] at hdv
      have HDV := Lib.hid hdv
      have hjn : j < n := by omega
      have HRW := Lib.hid hrw
      clear hcA hdv hw1 hw2 hrw
      generalize hg1 : x / 2 ^ (64 * (j + 1)) % d = l0 at HDV ⊢
      generalize hg2 : dig 64 x j = xj at gA HDV
      generalize hg3 : dig 64 (x / d) j = qj at HDV
      have HQJ := Lib.hid hg3
      generalize hg4 : x / 2 ^ (64 * j) % d = l1 at HDV
      have HL1 := Lib.hid hg4
      clear hg1 hg2 hg3 hg4 hlt
      have HBR := Lib.hid hbr
      go_wp2_with fail
      refine (HDV.out _).mono ?_
      rintro e w2 ⟨rfl, n2, rfl⟩
      have r0 : (wr.drewN n2).cell? ⟨S.heap.size, j, none⟩ = some (.int .u64 (hiw (x / d) (j + 1) j : Nat)) := HRW.out.cell hjn
      have fr : (wr.drewN n2).frozen? ⟨S.heap.size, j, none⟩ = false := HRW.out.frozen j
      have HR2 := Lib.hid (show ((wr.drewN n2).setCell ⟨S.heap.size, j, none⟩ (.int .u64 (qj : Nat))).rowIs S.heap.size 62 n (fun p => .int .u64 (hiw (x / d) j p : Nat)) from ((World.rowIs.drewN HRW.out n2).set j (.int .u64 (qj : Nat))).congr (fun p _ => by
        rw [hiw_step (q := x / d) (i := j) (p := p), ← HQJ.out]
        by_cases h : p = j
        · rw [if_pos h, if_pos h]
        · rw [if_neg h, if_neg h]))
      have HB2 := Lib.hid ((below_drewN HBR.out n2).setCell (p := ⟨S.heap.size, j, none⟩) (Nat.le_refl _) (.int .u64 (qj : Nat)))
      obtain ⟨X, hX⟩ : ∃ X, wr.drewN n2 = X := ⟨_, rfl⟩
      rw [hX] at r0 fr HR2 HB2 ⊢
      clear hX g0 gA
      go_wp2_with fail
      go_roundw
      case rel => exact ⟨j, by omega, rfl, by rw [HL1.out], HR2.out, HB2.out⟩
      case measure => simp [intOf]
end Go.Proofs.Yteikhnmmkanndaa
namespace Go.Proofs.Yteikhnmmkanndaa
open Go.RowKit
set_option maxRecDepth 100000 in
set_option maxHeartbeats 2000000 in
theorem clone_any (b o n c V : Nat) (w : World) (hn : 0 < n) (hnb : n ≤ 1099511627776) (hd : Digs w (some ⟨b, o, none⟩) .u64 64 V n) :
    Calls Try.prog 100 #[.slice (some ⟨b, o, none⟩) n c] w fun e w' => ∃ A c', e = .returned (.slice A n c') ∧ n ≤ c' ∧ c' ≤ maxLen ∧ Digs w' A .u64 64 V n ∧ Below w.heap.size w w' := by
  have HD := Lib.hid hd
  clear hd
  have heq := fun W => Lib.run_eql_slice_nil (P := Try.prog) W 24 62 (some ⟨b, o, none⟩) n c 0 0 Try.underlying24
  obtain ⟨i0, hi, hz0, hz1, hz2⟩ := info_parts PAll.info62
  have hown := World.ownsRow_lit (base := w.heap.size) (e := 62) (size := 1) w #[] 0 (Nat.le_refl _) (by decide) (by decide)
  have HOWN := Lib.hid hown
  have HC := Lib.hid (cba (Below.refl _ w) (.cells #[] 62))
  have HDW := Lib.hid (HD.out.below HC.out)
  clear hown
  go_enter Try.func100, Try.ntmps100
  go_wp2_with (at_builtin; refine wpList_append_lies _ (by rfl) (.tmp 5) (.tmp 6) 24 (by rfl) w.heap.size 62 i0 (.int .u64 0) 1 8 Try.underlying24 hi hz0 hz1 hz2 rfl (by decide) _ 0 [] (by rfl) HOWN.out ⟨b, o, none⟩ n c ((List.range n).map fun i => Value.int .u64 (dig 64 V i : Nat)) (by rfl) ?hl ?hnews ?h1 hn ?h63 ?hby ?hbase (w.heap.size + 1) ?hH ?_)
  case hnews =>
    intro j u hj
    rcases Nat.lt_or_ge j n with h | h
    · rw [List.getElem?_eq_getElem (by simpa using h)] at hj
      simp at hj
      subst hj
      obtain ⟨b', o', e', _, hc'⟩ := HDW.out j h
      cases e'
      exact hc'
    · rw [List.getElem?_eq_none (by simpa using h)] at hj
      cases hj
  case h1 =>
    intro g _
    rfl
  case h63 => unfold maxLen; omega
  case hby => omega
  · intro g cap w1 hown hgrow hat hlt
    have hcl := fun i (hi : i < n) => hown.cellAt i (by omega)
    have hcap : n ≤ cap ∧ cap ≤ maxLen := by
      rcases hown.2 with ⟨hv, h0⟩ | ⟨g', cap', cur, hv, hbg, hgc, hnc, hcm, hsz, htk⟩
      · cases hv
      · cases hv
        exact ⟨hnc, hcm⟩
    have hgrow2 : (w.alloc (.cells #[] 62)).grownBy w1 (some w.heap.size) := hgrow
    have hbb := Lib.hid (HC.out.grown hgrow2 (by simp) (fun k e => by cases e; exact Nat.le_refl _))
    have HCAP := Lib.hid hcap
    have HR := Lib.hid (show Digs w1 (some ⟨g, 0, none⟩) .u64 64 V n from by
      intro i hi
      refine ⟨g, 0, rfl, hlt, ?_⟩
      rw [Nat.zero_add, hcl i hi, List.getElem?_map, List.getElem?_eq_getElem (by simpa using hi)]
      simp)
    clear hown hgrow hgrow2 hat hcl hcap
    go_wp2
    go_ret
    exact ⟨_, _, rfl, HCAP.out.1, HCAP.out.2, HR.out, hbb.out⟩
def rowV (X Y m : Nat) : Nat := X % Y + Y * (X / Y % 2 ^ (64 * m))
theorem rowV_start {X Y m : Nat} (h : X / Y < 2 ^ (64 * m)) : rowV X Y m = X := by
  unfold rowV
  rw [Nat.mod_eq_of_lt h, Nat.mod_add_div]
theorem rowV_end (X Y : Nat) : rowV X Y 0 = X % Y := by unfold rowV; rw [Nat.mul_zero, Nat.pow_zero, Nat.mod_one, Nat.mul_zero, Nat.add_zero]
theorem rowV_lt {X Y : Nat} (hY : 0 < Y) (m : Nat) : rowV X Y m < Y * 2 ^ (64 * m) := by
  unfold rowV
  have h1 := Nat.mod_lt X hY
  have h2 : X / Y % 2 ^ (64 * m) + 1 ≤ 2 ^ (64 * m) := Nat.mod_lt _ (Nat.two_pow_pos _)
  have h3 := Nat.mul_le_mul_left Y h2
  rw [Nat.mul_add, Nat.mul_one] at h3
  omega
theorem rowV_div {X Y : Nat} (hY : 0 < Y) (m : Nat) : rowV X Y m / Y = X / Y % 2 ^ (64 * m) := by
  unfold rowV
  rw [Nat.add_mul_div_left _ _ hY, Nat.div_eq_of_lt (Nat.mod_lt X hY), Nat.zero_add]
def partV (X Y j : Nat) : Nat := rowV X Y (j + 1) / 2 ^ (64 * j)
theorem partV_lt {X Y : Nat} (hY : 0 < Y) (j : Nat) : partV X Y j < Y * 2 ^ 64 := by
  unfold partV
  rw [Nat.div_lt_iff_lt_mul (Nat.two_pow_pos _), Nat.mul_assoc, Nat.mul_comm (2 ^ 64), ← pow_succ_mul]
  exact rowV_lt hY (j + 1)
theorem partV_div {X Y : Nat} (hY : 0 < Y) (j : Nat) : partV X Y j / Y = dig 64 (X / Y) j := by
  unfold partV
  rw [Nat.div_div_eq_div_mul, Nat.mul_comm, ← Nat.div_div_eq_div_mul, rowV_div hY, pow_succ_mul, Nat.mod_mul_right_div_self]
  rfl
theorem rowV_succ (X Y j : Nat) : rowV X Y (j + 1) = rowV X Y j + 2 ^ (64 * j) * (dig 64 (X / Y) j * Y) := by
  unfold rowV
  rw [mod_succ, Nat.mul_add, Nat.add_assoc, Nat.mul_left_comm Y, Nat.mul_comm Y (dig 64 (X / Y) j)]
theorem rowV_part {X Y : Nat} (j : Nat) : rowV X Y j / 2 ^ (64 * j) = partV X Y j - dig 64 (X / Y) j * Y := by
  unfold partV
  rw [rowV_succ, Nat.add_mul_div_left _ _ (Nat.two_pow_pos _), Nat.add_sub_cancel]
theorem rowV_dig {X Y n j p : Nat} (hY0 : 0 < Y) (hY : Y < 2 ^ (64 * n)) : dig 64 (rowV X Y j) p = if j ≤ p ∧ p < j + (n + 1) then dig 64 (partV X Y j - dig 64 (X / Y) j * Y) (p - j) else dig 64 (rowV X Y (j + 1)) p := by
  by_cases h : j ≤ p ∧ p < j + (n + 1)
  · rw [if_pos h, ← rowV_part, dig_div, show j + (p - j) = p by omega]
  · rw [if_neg h]
    rcases Nat.lt_or_ge p j with h1 | h1
    · rw [← dig_mod (x := rowV X Y (j + 1)) h1, rowV_succ, Nat.add_mul_mod_self_left, dig_mod h1]
    · have hb : Y * 2 ^ (64 * (j + 1)) ≤ 2 ^ (64 * p) := by
        refine Nat.le_trans (Nat.mul_le_mul_right _ (Nat.le_of_lt hY)) ?_
        rw [← Nat.pow_add]
        exact Nat.pow_le_pow_right (by decide) (by omega)
      have hc : Y * 2 ^ (64 * j) ≤ 2 ^ (64 * p) := by
        refine Nat.le_trans (Nat.mul_le_mul_right _ (Nat.le_of_lt hY)) ?_
        rw [← Nat.pow_add]
        exact Nat.pow_le_pow_right (by decide) (by omega)
      rw [dig_zero_of_lt (Nat.lt_of_lt_of_le (rowV_lt hY0 (j + 1)) hb), dig_zero_of_lt (Nat.lt_of_lt_of_le (rowV_lt hY0 j) hc)]
theorem less_back {P Y N xc : Nat} (hP : P < 2 ^ (64 * N)) (hx : xc * Y < 2 ^ (64 * N)) (hov : P < xc * Y) :
    1 ≤ xc ∧ (2 ^ (64 * N) ≤ less 64 N P (xc * Y) + Y ↔ (xc - 1) * Y ≤ P) ∧ ∀ i, i < N → dig 64 (less 64 N P (xc * Y) + Y) i = dig 64 (less 64 N P ((xc - 1) * Y)) i := by
  have h1 : 1 ≤ xc := by
    rcases Nat.eq_zero_or_pos xc with h | h
    · subst h; rw [Nat.zero_mul] at hov; omega
    · exact h
  obtain ⟨c, rfl⟩ : ∃ c, xc = c + 1 := ⟨xc - 1, by omega⟩
  rw [Nat.add_sub_cancel]
  rw [Nat.add_mul, Nat.one_mul] at hx hov ⊢
  have e1 : less 64 N P (c * Y + Y) + Y = P + 2 ^ (64 * N) - c * Y := by
    unfold less
    rw [if_neg (by omega)]
    omega
  refine ⟨h1, ?_, ?_⟩
  · rw [e1]; omega
  · intro i hi
    rw [e1]
    unfold less
    by_cases h2 : c * Y ≤ P
    · rw [if_pos h2, show P + 2 ^ (64 * N) - c * Y = P - c * Y + 2 ^ (64 * N) by omega, ← dig_mod (x := P - c * Y + 2 ^ (64 * N)) hi, Nat.add_mod_right, dig_mod hi]
    · rw [if_neg h2]
end Go.Proofs.Yteikhnmmkanndaa
