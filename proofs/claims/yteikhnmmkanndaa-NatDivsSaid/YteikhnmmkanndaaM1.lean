/- Laid together by merge.py out of: Num Rep Bits Trim Cmp Longer NAdd AddMul DivM Mul NSub. -/
import Derived.Test.YteikhnmmkanndaaRows
import Derived.WalkKit
import Derived.WalkSpells
import Derived.WalkLawsBesides
import Derived.Deep.OwnRows
import Derived.Deep.WholeRow
import Derived.Lib.Hide
import Derived.Outline
import Derived.Deep.Draws
import Derived.Deep.AppendLies
import Derived.Maps.AppendAt
import Derived.OwnWalk
import Derived.Laws.MakeOwn
import Derived.Laws.OwnMore
import Derived.Laws.Slices
import Derived.Deep.LoopGhost
import Derived.Deep.QuietTactic
import Derived.BigQuiet
import Derived.WideLaws
import Derived.Deep.DeepCutAuto
import Derived.Deep.CutBlock
import Derived.Deep.RegionHeld3
import Derived.OrdersHeld
import Derived.Shelf.Spec.BitsCarry
import Derived.Shelf.Bits.Mul64
import Derived.Lib.Mul64
import Derived.Lib.BitFns
import Derived.Lib.ItoaNum
import Derived.Lib.Strings
import Derived.Lib.Slices
import Derived.Lib.Small
import Derived.Lib.Walk
import Derived.Laws.Externs
import Derived.IntWalk
/- Numbers by their digits: bits, lengths, digits to a base that is a power of 2. Plain laws. -/
namespace Go.Proofs.Yteikhnmmkanndaa

/-- how many bits a number has. -/
def bl (x : Nat) : Nat := if x = 0 then 0 else Nat.log2 x + 1
theorem bl_zero : bl 0 = 0 := rfl
theorem bl_le (x m : Nat) : bl x ≤ m ↔ x < 2 ^ m := by
  unfold bl
  by_cases h : x = 0
  · rw [if_pos h]
    subst h
    exact ⟨fun _ => Nat.two_pow_pos m, fun _ => Nat.zero_le _⟩
  · rw [if_neg h, ← Nat.log2_lt h]
    exact Nat.succ_le_iff
theorem lt_bl (x m : Nat) : m < bl x ↔ 2 ^ m ≤ x := by
  have := bl_le x m
  omega
theorem bl_mono {x y : Nat} (h : x ≤ y) : bl x ≤ bl y := (bl_le x _).2 (Nat.lt_of_le_of_lt h ((bl_le y _).1 (Nat.le_refl _)))
theorem bl_eq_zero {x : Nat} : bl x = 0 ↔ x = 0 := by
  have := bl_le x 0
  rw [Nat.pow_zero] at this
  omega
theorem bl_div (x m : Nat) : bl (x / 2 ^ m) = bl x - m := by
  have key : ∀ n, bl (x / 2 ^ m) ≤ n ↔ bl x ≤ n + m := by
    intro n
    rw [bl_le, bl_le, Nat.div_lt_iff_lt_mul (Nat.two_pow_pos m), ← Nat.pow_add]
  have h1 := (key (bl x - m)).2 (by omega)
  have h2 := (key (bl (x / 2 ^ m))).1 (Nat.le_refl _)
  omega
/-- how many digits it has, of k bits each. -/
def wl (k x : Nat) : Nat := (bl x + (k - 1)) / k
theorem wl_le {k : Nat} (hk : 0 < k) (x n : Nat) : wl k x ≤ n ↔ x < 2 ^ (k * n) := by
  rw [← bl_le]
  unfold wl
  rw [Nat.div_le_iff_le_mul_add_pred hk]
  omega
theorem lt_wl {k : Nat} (hk : 0 < k) (x n : Nat) : n < wl k x ↔ 2 ^ (k * n) ≤ x := by
  have := wl_le hk x n
  omega
theorem wl_zero {k : Nat} (hk : 0 < k) : wl k 0 = 0 := Nat.le_zero.1 ((wl_le hk 0 0).2 (Nat.two_pow_pos _))
theorem wl_eq_zero {k : Nat} (hk : 0 < k) {x : Nat} : wl k x = 0 ↔ x = 0 := by
  have := wl_le hk x 0
  rw [Nat.mul_zero, Nat.pow_zero] at this
  omega
theorem wl_lt {k : Nat} (hk : 0 < k) (x : Nat) : x < 2 ^ (k * wl k x) := (wl_le hk x _).1 (Nat.le_refl _)
theorem wl_ge {k : Nat} (hk : 0 < k) {x : Nat} (h : 0 < wl k x) : 2 ^ (k * (wl k x - 1)) ≤ x := (lt_wl hk x _).1 (by omega)
theorem wl_eq {k : Nat} (hk : 0 < k) {x n : Nat} (h1 : x < 2 ^ (k * n)) (h2 : n = 0 ∨ 2 ^ (k * (n - 1)) ≤ x) : wl k x = n := by
  have a := (wl_le hk x n).2 h1
  rcases h2 with h | h
  · omega
  · have b := (lt_wl hk x (n - 1)).2 h
    omega
theorem wl_mono {k : Nat} (hk : 0 < k) {x y : Nat} (h : x ≤ y) : wl k x ≤ wl k y := (wl_le hk x _).2 (Nat.lt_of_le_of_lt h (wl_lt hk y))
theorem wl_le_bl {k : Nat} (hk : 0 < k) (x : Nat) : wl k x ≤ bl x := by
  rw [wl_le hk]
  refine Nat.lt_of_lt_of_le ((bl_le x _).1 (Nat.le_refl _)) (Nat.pow_le_pow_right (by decide) ?_)
  exact Nat.le_mul_of_pos_left _ hk
theorem bl_le_wl {k : Nat} (hk : 0 < k) (x : Nat) : bl x ≤ k * wl k x := (bl_le x _).2 (wl_lt hk x)

/-- digit i. -/
def dig (k x i : Nat) : Nat := x / 2 ^ (k * i) % 2 ^ k
theorem dig_lt (k x i : Nat) : dig k x i < 2 ^ k := Nat.mod_lt _ (Nat.two_pow_pos k)
theorem pow_succ_mul (k i : Nat) : 2 ^ (k * (i + 1)) = 2 ^ (k * i) * 2 ^ k := by rw [Nat.mul_add, Nat.mul_one, Nat.pow_add]
theorem mod_succ (k x i : Nat) : x % 2 ^ (k * (i + 1)) = x % 2 ^ (k * i) + 2 ^ (k * i) * dig k x i := by
  rw [pow_succ_mul, Nat.mod_mul]
  rfl
theorem dig_zero_of_lt {k x i : Nat} (h : x < 2 ^ (k * i)) : dig k x i = 0 := by
  unfold dig
  rw [Nat.div_eq_of_lt h]
  exact Nat.zero_mod _
theorem lt_of_dig_zero {k x i : Nat} (h : x < 2 ^ (k * (i + 1))) (h0 : dig k x i = 0) : x < 2 ^ (k * i) := by
  have h1 := mod_succ k x i
  rw [h0, Nat.mul_zero, Nat.add_zero, Nat.mod_eq_of_lt h] at h1
  rw [h1]
  exact Nat.mod_lt _ (Nat.two_pow_pos _)
theorem dig_top {k x i : Nat} (h : x < 2 ^ (k * (i + 1))) : dig k x i = x / 2 ^ (k * i) := by
  unfold dig
  refine Nat.mod_eq_of_lt ?_
  rw [Nat.div_lt_iff_lt_mul (Nat.two_pow_pos _), Nat.mul_comm, ← pow_succ_mul]
  exact h
/-- the bits, by the highest digit. -/
theorem bl_top {k x j : Nat} (hk : 0 < k) (h : wl k x = j + 1) : bl x = k * j + bl (dig k x j) := by
  have h1 := wl_lt hk x
  rw [h] at h1
  rw [dig_top h1, bl_div]
  have h2 := (lt_bl x (k * j)).2 ((lt_wl hk x j).1 (by omega))
  omega
theorem dig_mod {k x i n : Nat} (h : i < n) : dig k (x % 2 ^ (k * n)) i = dig k x i := by
  unfold dig
  obtain ⟨m, rfl⟩ : ∃ m, n = i + 1 + m := ⟨n - (i + 1), by omega⟩
  rw [Nat.mul_add, Nat.pow_add, pow_succ_mul, Nat.mul_assoc, Nat.mod_mul_right_div_self, Nat.mod_mul_right_mod]
theorem dig_div (k x i m : Nat) : dig k (x / 2 ^ (k * m)) i = dig k x (m + i) := by
  unfold dig
  rw [Nat.div_div_eq_div_mul, ← Nat.pow_add, Nat.mul_add]
/-- the digits say which number it is. -/
theorem dig_ext {k : Nat} (n : Nat) {x y : Nat} (hx : x < 2 ^ (k * n)) (hy : y < 2 ^ (k * n)) (h : ∀ i, i < n → dig k x i = dig k y i) : x = y := by
  have key : ∀ j, j ≤ n → x % 2 ^ (k * j) = y % 2 ^ (k * j) := by
    intro j
    induction j with
    | zero => intro _; rw [Nat.mul_zero, Nat.pow_zero, Nat.mod_one, Nat.mod_one]
    | succ j ih =>
      intro hj
      rw [mod_succ, mod_succ, ih (by omega), h j (by omega)]
  have := key n (Nat.le_refl _)
  rwa [Nat.mod_eq_of_lt hx, Nat.mod_eq_of_lt hy] at this
/-- a number of given digits. -/
def num (k : Nat) (f : Nat → Nat) : Nat → Nat
  | 0 => 0
  | n + 1 => num k f n + 2 ^ (k * n) * f n
theorem num_lt {k : Nat} {f : Nat → Nat} (hf : ∀ i, f i < 2 ^ k) (n : Nat) : num k f n < 2 ^ (k * n) := by
  induction n with
  | zero => exact Nat.two_pow_pos _
  | succ n ih =>
    rw [pow_succ_mul]
    unfold num
    calc num k f n + 2 ^ (k * n) * f n < 2 ^ (k * n) + 2 ^ (k * n) * f n := Nat.add_lt_add_right ih _
      _ = 2 ^ (k * n) * (f n + 1) := by rw [Nat.mul_add, Nat.mul_one, Nat.add_comm]
      _ ≤ 2 ^ (k * n) * 2 ^ k := Nat.mul_le_mul_left _ (hf n)
theorem dig_num {k : Nat} {f : Nat → Nat} (hf : ∀ i, f i < 2 ^ k) (n i : Nat) (hi : i < n) : dig k (num k f n) i = f i := by
  induction n with
  | zero => omega
  | succ n ih =>
    by_cases h : i = n
    · subst h
      unfold dig num
      rw [Nat.add_mul_div_left _ _ (Nat.two_pow_pos _), Nat.div_eq_of_lt (num_lt hf i), Nat.zero_add]
      exact Nat.mod_eq_of_lt (hf i)
    · rw [← dig_mod (show i < n by omega)]
      unfold num
      rw [Nat.add_mul_mod_self_left, Nat.mod_eq_of_lt (num_lt hf n)]
      exact ih (by omega)
theorem num_mod {k : Nat} {f : Nat → Nat} (hf : ∀ i, f i < 2 ^ k) (n m : Nat) : num k f (n + m) % 2 ^ (k * n) = num k f n := by
  induction m with
  | zero => exact Nat.mod_eq_of_lt (num_lt hf n)
  | succ m ih =>
    rw [← Nat.add_assoc]
    show (num k f (n + m) + 2 ^ (k * (n + m)) * f (n + m)) % _ = _
    rw [Nat.mul_add, Nat.pow_add, Nat.mul_assoc, Nat.add_mul_mod_self_left]
    exact ih
theorem num_dig (k x n : Nat) : num k (dig k x) n = x % 2 ^ (k * n) := by
  induction n with
  | zero => rw [Nat.mul_zero, Nat.pow_zero, Nat.mod_one]; rfl
  | succ n ih => rw [mod_succ]; unfold num; rw [ih]
theorem num_congr {k : Nat} {f g : Nat → Nat} (n : Nat) (h : ∀ i, i < n → f i = g i) : num k f n = num k g n := by
  induction n with
  | zero => rfl
  | succ n ih => unfold num; rw [ih (fun i hi => h i (by omega)), h n (by omega)]

/-- sums: what is carried, and the digits. -/
def carryOf (k x y i : Nat) : Nat := (x % 2 ^ (k * i) + y % 2 ^ (k * i)) / 2 ^ (k * i)
theorem carry_zero (k x y : Nat) : carryOf k x y 0 = 0 := by unfold carryOf; rw [Nat.mul_zero, Nat.pow_zero, Nat.mod_one, Nat.mod_one]
theorem carry_le (k x y i : Nat) : carryOf k x y i ≤ 1 := by
  unfold carryOf
  have h1 := Nat.mod_lt x (Nat.two_pow_pos (k * i))
  have h2 := Nat.mod_lt y (Nat.two_pow_pos (k * i))
  have : (x % 2 ^ (k * i) + y % 2 ^ (k * i)) / 2 ^ (k * i) < 2 := (Nat.div_lt_iff_lt_mul (Nat.two_pow_pos _)).2 (by omega)
  omega
theorem sum_div (k x y i : Nat) : (x + y) / 2 ^ (k * i) = x / 2 ^ (k * i) + y / 2 ^ (k * i) + carryOf k x y i := Nat.add_div (Nat.two_pow_pos _) |>.trans (by
  unfold carryOf
  have h1 := Nat.mod_lt x (Nat.two_pow_pos (k * i))
  have h2 := Nat.mod_lt y (Nat.two_pow_pos (k * i))
  congr 1
  split
  · rename_i h
    have h3 : (x % 2 ^ (k * i) + y % 2 ^ (k * i)) / 2 ^ (k * i) < 2 := (Nat.div_lt_iff_lt_mul (Nat.two_pow_pos _)).2 (by omega)
    have h4 : 0 < (x % 2 ^ (k * i) + y % 2 ^ (k * i)) / 2 ^ (k * i) := Nat.div_pos h (Nat.two_pow_pos _)
    omega
  · rename_i h
    rw [Nat.div_eq_of_lt (by omega)])
theorem sum_dig (k x y i : Nat) : dig k (x + y) i = (dig k x i + dig k y i + carryOf k x y i) % 2 ^ k := by
  unfold dig
  rw [sum_div, Nat.add_mod (x / 2 ^ (k * i) % 2 ^ k + y / 2 ^ (k * i) % 2 ^ k), ← Nat.add_mod (x / 2 ^ (k * i)), ← Nat.add_mod]
theorem carry_succ (k x y i : Nat) : carryOf k x y (i + 1) = (dig k x i + dig k y i + carryOf k x y i) / 2 ^ k := by
  unfold carryOf
  rw [mod_succ, mod_succ, pow_succ_mul, ← Nat.div_div_eq_div_mul]
  rw [show x % 2 ^ (k * i) + 2 ^ (k * i) * dig k x i + (y % 2 ^ (k * i) + 2 ^ (k * i) * dig k y i) = x % 2 ^ (k * i) + y % 2 ^ (k * i) + 2 ^ (k * i) * (dig k x i + dig k y i) by rw [Nat.mul_add]; omega]
  rw [Nat.add_mul_div_left _ _ (Nat.two_pow_pos _), Nat.add_comm]
end Go.Proofs.Yteikhnmmkanndaa

/- Words for numbers that lie in memory by their digits, and for a block known whole; plain laws of how they are kept. -/
namespace Go.Proofs.Yteikhnmmkanndaa
open Go.RowKit

/-! Chains of worlds, each of which has the former's memory as it was. -/
theorem cbt {a b c : World} (h1 : Below a.heap.size a b) (h2 : Below b.heap.size b c) : Below a.heap.size a c := h1.trans (h2.mono h1.size)
theorem cba {a b : World} (h : Below a.heap.size a b) (o : Obj) : Below a.heap.size a (b.alloc o) := h.alloc h.size o

/-- the n lowest digits of x, of k bits each, lie at A, as values of kind kd. -/
def Digs (w : World) (A : Option Addr) (kd : IntKind) (k x n : Nat) : Prop :=
  ∀ i, i < n → ∃ b o, A = some ⟨b, o, none⟩ ∧ b < w.heap.size ∧ w.cell? ⟨b, o + i, none⟩ = some (.int kd (dig k x i : Nat))
theorem Digs.below {w w' : World} {A : Option Addr} {kd : IntKind} {k x n : Nat} (h : Digs w A kd k x n) (hb : Below w.heap.size w w') : Digs w' A kd k x n := by
  intro i hi
  obtain ⟨b, o, hA, hlt, hc⟩ := h i hi
  exact ⟨b, o, hA, Nat.lt_of_lt_of_le hlt hb.size, (hb.cell (p := ⟨b, o + i, none⟩) hlt).trans hc⟩
theorem Digs.le {w : World} {A : Option Addr} {kd : IntKind} {k x n m : Nat} (h : Digs w A kd k x n) (hm : m ≤ n) : Digs w A kd k x m := fun i hi => h i (by omega)
theorem Digs.nil (w : World) (A : Option Addr) (kd : IntKind) (k x : Nat) : Digs w A kd k x 0 := fun i h => absurd h (by omega)
theorem Digs.congr {w : World} {A : Option Addr} {kd : IntKind} {k x y n : Nat} (h : Digs w A kd k x n) (he : ∀ i, i < n → dig k x i = dig k y i) : Digs w A kd k y n := by
  intro i hi
  rw [← he i hi]
  exact h i hi
/-- a slice of the program's words that is x. -/
def S64 (w : World) (v : Value) (x : Nat) : Prop := ∃ A cap, v = .slice A (wl 64 x) cap ∧ wl 64 x ≤ cap ∧ cap ≤ maxLen ∧ Digs w A .u64 64 x (wl 64 x)
/-- a value of type Nat that is x. -/
def N64 (w : World) (v : Value) (x : Nat) : Prop := ∃ A cap, v = .agg #[.slice A (wl 64 x) cap] ∧ wl 64 x ≤ cap ∧ cap ≤ maxLen ∧ Digs w A .u64 64 x (wl 64 x)
theorem N64.below {w w' : World} {v : Value} {x : Nat} (h : N64 w v x) (hb : Below w.heap.size w w') : N64 w' v x := by
  obtain ⟨A, cap, hv, hl, hm, hd⟩ := h
  exact ⟨A, cap, hv, hl, hm, hd.below hb⟩
/-- a slice of the reference's digits that is x. -/
def D256 (w : World) (v : Value) (x : Nat) : Prop := ∃ A cap, v = .slice A (wl 8 x) cap ∧ wl 8 x ≤ cap ∧ cap ≤ maxLen ∧ Digs w A .i64 8 x (wl 8 x)
theorem D256.below {w w' : World} {v : Value} {x : Nat} (h : D256 w v x) (hb : Below w.heap.size w w') : D256 w' v x := by
  obtain ⟨A, cap, hv, hl, hm, hd⟩ := h
  exact ⟨A, cap, hv, hl, hm, hd.below hb⟩
theorem N64.zero (w : World) : N64 w (.agg #[.slice none 0 0]) 0 := ⟨none, 0, by rw [wl_zero (by decide)], by rw [wl_zero (by decide)]; exact Nat.le_refl _, by decide, by rw [wl_zero (by decide)]; exact Digs.nil _ _ _ _ _⟩
theorem D256.zero (w : World) : D256 w (.slice none 0 0) 0 := ⟨none, 0, by rw [wl_zero (by decide)], by rw [wl_zero (by decide)]; exact Nat.le_refl _, by decide, by rw [wl_zero (by decide)]; exact Digs.nil _ _ _ _ _⟩
theorem below_drewN {B : Nat} {a w : World} (h : Below B a w) (n : Nat) : Below B a (w.drewN n) := ⟨h.os, h.tape, h.output, h.size, h.block⟩
theorem World.rowIs.drewN {w : World} {b : Nat} {t : TypeId} {n : Nat} {f : Nat → Value} (h : w.rowIs b t n f) (m : Nat) : (w.drewN m).rowIs b t n f := h
/-- a row of a call's own, its cells the digits of V. -/
theorem Digs.of_row {w : World} {g : Nat} {t : TypeId} {m : Nat} {f : Nat → Value} {kd : IntKind} {k V n : Nat} (h : w.rowIs g t m f) (hn : n ≤ m) (hf : ∀ i, i < n → f i = .int kd (dig k V i : Nat)) : Digs w (some ⟨g, 0, none⟩) kd k V n := by
  intro i hi
  refine ⟨g, 0, rfl, h.lt, ?_⟩
  rw [Nat.zero_add, h.cell (by omega), hf i hi]

/-- nothing but draws lies between two worlds. -/
def Drew (a b : World) : Prop := ∃ m, b = a.drewN m
theorem Drew.refl (a : World) : Drew a a := ⟨0, rfl⟩
theorem Drew.more {a b : World} (h : Drew a b) (n : Nat) : Drew a (b.drewN n) := by
  obtain ⟨m, rfl⟩ := h
  exact ⟨m + n, World.drewN_drewN _ _ _⟩
theorem Drew.trans {a b c : World} (h : Drew a b) (k : Drew b c) : Drew a c := by
  obtain ⟨m, rfl⟩ := k
  exact h.more m
theorem Drew.cell {a b : World} (h : Drew a b) (p : Addr) : b.cell? p = a.cell? p := by
  obtain ⟨m, rfl⟩ := h
  rfl
theorem Drew.below {a b : World} (h : Drew a b) : Below a.heap.size a b := by
  obtain ⟨m, rfl⟩ := h
  exact below_drewN (Below.refl _ _) m
theorem quiet_drew {P : Program} {f : FuncId} {args : Array Value} {w : World} {n : Nat} {v : Value}
    (h : Calls P f args (w.drewN n) fun e w' => e = .returned v ∧ Drew (w.drewN n) w') : Calls P f args (w.drewN n) fun e w'' => e = .returned v ∧ ∃ m, w'' = w.drewN m :=
  h.mono fun _ _ ⟨he, hm⟩ => ⟨he, by
    obtain ⟨m, rfl⟩ := hm
    exact ⟨n + m, World.drewN_drewN _ _ _⟩⟩
theorem quiet_same {P : Program} {f : FuncId} {args : Array Value} {w : World} {n : Nat} {v : Value}
    (h : Calls P f args (w.drewN n) fun e w' => e = .returned v ∧ w' = w.drewN n) : Calls P f args (w.drewN n) fun e w'' => e = .returned v ∧ ∃ m, w'' = w.drewN m :=
  h.mono fun _ _ ⟨he, hm⟩ => ⟨he, n, hm⟩
/-- block g is just the cells cs. -/
def Blk (w : World) (g : Nat) (t : TypeId) (cs : Array Value) : Prop := w.heap[g]? = some (.cells cs t (0, 0))
section
variable {w w' : World} {g : Nat} {t : TypeId} {cs : Array Value}
theorem Blk.lt (h : Blk w g t cs) : g < w.heap.size := by
  rcases Nat.lt_or_ge g w.heap.size with hlt | hge
  · exact hlt
  · unfold Blk at h; rw [Array.getElem?_eq_none hge] at h; cases h
theorem Blk.cell (h : Blk w g t cs) (i : Nat) : w.cell? ⟨g, i, none⟩ = cs[i]? := cell_of_row w g i cs t (0, 0) h
theorem Blk.frozen (h : Blk w g t cs) (i : Nat) : w.frozen? ⟨g, i, none⟩ = false := by
  unfold Blk at h
  simp [World.frozen?, h]
theorem Blk.new (w : World) (t : TypeId) (cs : Array Value) : Blk (w.alloc (.cells cs t)) w.heap.size t cs := heap_alloc_new w _
theorem Blk.drew (h : Blk w g t cs) : Blk w.drew g t cs := h
theorem Blk.drewN (h : Blk w g t cs) (n : Nat) : Blk (w.drewN n) g t cs := h
theorem Blk.alloc (h : Blk w g t cs) (o : Obj) : Blk (w.alloc o) g t cs := (Below.heap_alloc w o g h.lt).trans h
theorem Blk.set_ (h : Blk w g t cs) (i : Nat) (u : Value) : Blk (w.setCell ⟨g, i, none⟩ u) g t (cs.setIfInBounds i u) := by
  unfold Blk at h ⊢
  simp [World.setCell, Array.getElem?_modify, h]
theorem Blk.far (h : Blk w g t cs) {p : Addr} (hp : g ≠ p.block) (u : Value) : Blk (w.setCell p u) g t cs := (Below.heap_setCell w p u g hp).trans h
theorem Blk.below {B : Nat} (h : Blk w g t cs) (hb : Below B w w') (hg : g < B) : Blk w' g t cs := (hb.block g hg).trans h
theorem Blk.grown {row : Option Nat} (h : Blk w g t cs) (hb : w.grownBy w' row) (hg : some g ≠ row) : Blk w' g t cs := (hb.block g h.lt hg).trans h
end
theorem only_drewN {a w : World} {row : Option Nat} (h : a.grownBy w row) (n : Nat) : a.grownBy (w.drewN n) row := ⟨h.os, h.tape, h.output, h.size, h.block⟩
theorem only_drew {a w : World} {row : Option Nat} (h : a.grownBy w row) : a.grownBy w.drew row := ⟨h.os, h.tape, h.output, h.size, h.block⟩
theorem only_alloc {a w : World} {row : Option Nat} (h : a.grownBy w row) (o : Obj) : a.grownBy (w.alloc o) row :=
  ⟨h.os, h.tape, h.output, Nat.le_trans h.size (by simp), fun i hi hne => (Below.heap_alloc w o i (Nat.lt_of_lt_of_le hi h.size)).trans (h.block i hi hne)⟩
theorem only_setCell {a w : World} {g : Nat} (h : a.grownBy w (some g)) {p : Addr} (hp : p.block = g ∨ a.heap.size ≤ p.block) (u : Value) : a.grownBy (w.setCell p u) (some g) :=
  ⟨h.os, h.tape, h.output, by simpa [World.setCell] using h.size, fun i hi hne => (Below.heap_setCell w p u i (by
    rintro rfl
    rcases hp with hp | hp
    · exact hne (by rw [hp])
    · omega)).trans (h.block i hi hne)⟩

end Go.Proofs.Yteikhnmmkanndaa

/- math/bits at this dump: Add64, Sub64 (the model's own entries), Len64, LeadingZeros64, Mul64. -/
namespace Go.Proofs.Yteikhnmmkanndaa
open Go.RowKit Go.Shelf

theorem add64_run (x y c : Nat) (hc : c ≤ 1) (w : World) : (callFunc 102 #[.int .u64 (x : Nat), .int .u64 (y : Nat), .int .u64 (c : Nat)]).run Try.prog w =
    .ok (.value (.tuple #[.int .u64 (((x + y + c) % 2 ^ 64 : Nat) : Int), .int .u64 (((x + y + c) / 2 ^ 64 : Nat) : Int)])) w := by
  rw [run_callFunc_extern Try.func102 (by kernel_rfl) (by kernel_rfl) (by kernel_rfl) (e := add64Entry) (by kernel_rfl), run_add64 x y c (by omega) (by omega) (by omega) (by omega)]
  simp only [Result.andThen]
  congr 5 <;> omega
theorem sub64_run (x y b : Nat) (hb : b ≤ 1) (w : World) : (callFunc 119 #[.int .u64 (x : Nat), .int .u64 (y : Nat), .int .u64 (b : Nat)]).run Try.prog w =
    .ok (.value (.tuple #[.int .u64 (((x + 2 ^ 64 - y - b) % 2 ^ 64 : Nat) : Int), .int .u64 ((if x < y + b then 1 else 0 : Nat) : Int)])) w := by
  rw [run_callFunc_extern Try.func119 (by kernel_rfl) (by kernel_rfl) (by kernel_rfl) (e := sub64Entry) (by kernel_rfl), run_sub64 x y b hb]
  rfl

theorem bl_lib (x : Nat) (h : x < 2 ^ 64) : Lib.bitLen x = bl x := by
  by_cases h0 : x = 0
  · subst h0; decide
  · obtain ⟨h1, h2, h3⟩ := Lib.bitLenAux_bounds 64 x h h0
    have a := (bl_le x (Lib.bitLen x)).2 h3
    have b := (lt_bl x (Lib.bitLen x - 1)).2 h2
    have c : 1 ≤ Lib.bitLen x := h1
    omega

theorem tab_len : ∀ n : Fin 256, ((Lib.len8tab[n.val]'(by rw [Lib.len8tab_size]; exact n.isLt)).toNat) = Lib.bitLen n.val := by decide +kernel
theorem tab_at (i : Nat) (h : i < Lib.len8tab.size) : (Lib.len8tab[i]).toNat = Lib.bitLen i := tab_len ⟨i, by rw [Lib.len8tab_size] at h; exact h⟩
theorem len_shift (k x : Nat) (h : 2 ^ k ≤ x) (hx : x < 2 ^ 64) (e y : Int) (he : e = k) (hy : y.toNat = x / 2 ^ k) (hl : y.toNat < 256) : wrap64 (e + wrap64 ((Lib.bitLen y.toNat : Nat) : Int)) = ((Lib.bitLen x : Nat) : Int) := by
  have h1 := Lib.bitLen_shift k x h hx
  have h2 := Lib.bitLen_le8 ⟨y.toNat, hl⟩
  have h3 : k < 64 := by
    rcases Nat.lt_or_ge k 64 with h | h'
    · exact h
    · have := Nat.pow_le_pow_right (show 0 < 2 by decide) h'
      omega
  rw [← hy] at h1
  rw [h1]
  have h2' : Lib.bitLen y.toNat ≤ 8 := h2
  unfold wrap64
  omega
set_option maxHeartbeats 4000000 in
set_option maxRecDepth 100000 in
theorem len64_int (x : Int) (w : World) (h0 : 0 ≤ x) (h1 : x ≤ 18446744073709551615) :
    Calls Try.prog 117 #[.int .u64 x] w fun e w' => e = .returned (.int .i64 (Lib.bitLen x.toNat)) ∧ w' = w := by
  have hs : (Lib.len8tab.size : Int) = 256 := by decide +kernel
  have hs2 : Lib.len8tab.size = 256 := by decide +kernel
  go_enter Try.func117, Try.ntmps117
  go_wp2
  all_goals simp only [tab_at]
  all_goals refine bodyPost_ret (v := .int .i64 (Lib.bitLen x.toNat)) ?_ rfl ⟨rfl, rfl⟩
  all_goals simp [results, Try.results117, go_sem]
  · exact len_shift 56 x.toNat (by omega) (by omega) 56 _ rfl (by omega) (by omega)
  · exact len_shift 48 x.toNat (by omega) (by omega) 48 _ rfl (by omega) (by omega)
  · exact len_shift 40 x.toNat (by omega) (by omega) 40 _ rfl (by omega) (by omega)
  · exact len_shift 32 x.toNat (by omega) (by omega) 32 _ rfl (by omega) (by omega)
  · exact len_shift 24 x.toNat (by omega) (by omega) 24 _ rfl (by omega) (by omega)
  · exact len_shift 16 x.toNat (by omega) (by omega) 16 _ rfl (by omega) (by omega)
  · exact len_shift 8 x.toNat (by omega) (by omega) 8 _ rfl (by omega) (by omega)
  · have h2 : Lib.bitLen x.toNat ≤ 8 := Lib.bitLen_le8 ⟨x.toNat, by omega⟩
    unfold wrap64
    omega
theorem len64_any (x : Nat) (hx : x < 2 ^ 64) (w : World) :
    Calls Try.prog 117 #[.int .u64 (x : Nat)] w fun e w' => e = .returned (.int .i64 ((bl x : Nat) : Int)) ∧ w' = w := by
  have h := len64_int (x : Int) w (by omega) (by omega)
  rwa [Int.toNat_natCast, bl_lib x hx] at h
set_option maxHeartbeats 1000000 in
theorem lead64_any (x : Nat) (hx : x < 2 ^ 64) (w : World) :
    Calls Try.prog 96 #[.int .u64 (x : Nat)] w fun e w' => e = .returned (.int .i64 ((64 - bl x : Nat) : Int)) ∧ w' = w := by
  have hb : bl x ≤ 64 := (bl_le x 64).2 hx
  go_enter Try.func96, Try.ntmps96
  go_wp2_with fail
  refine (len64_any x hx _).mono ?_
  rintro e w1 ⟨rfl, rfl⟩
  go_wp2
  go_ret
  exact ⟨congrArg Ending.returned (congrArg (Value.int IntKind.i64) (by omega)), rfl⟩
set_option maxHeartbeats 1000000 in
theorem mul64_any (x y : Nat) (hx : x < 2 ^ 64) (hy : y < 2 ^ 64) (w : World) :
    Calls Try.prog 130 #[.int .u64 (x : Nat), .int .u64 (y : Nat)] w fun e w' => e = .returned (.tuple #[.int .u64 ((x * y / 2 ^ 64 : Nat) : Int), .int .u64 ((x * y % 2 ^ 64 : Nat) : Int)]) ∧ w' = w := by
  have hx : x < 18446744073709551616 := hx
  have hy : y < 18446744073709551616 := hy
  rw [show (2 : Nat) ^ 64 = 18446744073709551616 from rfl]
  obtain ⟨bd, bt, bw, hhi⟩ := Lib.mul64_hi x y hx hy
  have ba := Lib.half_mul_le (a := x / 4294967296) (b := y / 4294967296) (by omega) (by omega)
  have bb := Lib.half_mul_le (a := x / 4294967296) (b := y % 4294967296) (by omega) (by omega)
  have bc := Lib.half_mul_le (a := x % 4294967296) (b := y / 4294967296) (by omega) (by omega)
  have ba' : x / 4294967296 * (y / 4294967296) < 18446744073709551616 := by omega
  have bb' : x / 4294967296 * (y % 4294967296) < 18446744073709551616 := by omega
  have bc' : x % 4294967296 * (y / 4294967296) < 18446744073709551616 := by omega
  have bh1 : x / 4294967296 * (y / 4294967296) + (x / 4294967296 * (y % 4294967296) + x % 4294967296 * (y % 4294967296) / 4294967296) / 4294967296 < 18446744073709551616 := by omega
  have bh : x / 4294967296 * (y / 4294967296) + (x / 4294967296 * (y % 4294967296) + x % 4294967296 * (y % 4294967296) / 4294967296) / 4294967296 + ((x / 4294967296 * (y % 4294967296) + x % 4294967296 * (y % 4294967296) / 4294967296) % 4294967296 + x % 4294967296 * (y / 4294967296)) / 4294967296 < 18446744073709551616 := by omega
  go_enter Try.func130, Try.ntmps130
  go_wp2
  simp only [Mul64.maskN x hx, Mul64.maskN y hy, Mul64.divN, Mul64.mulN, Mul64.addN, Mul64.wrapN _ bd, Mul64.wrapN _ bb', Mul64.wrapN _ bt, Mul64.maskN _ bt, Mul64.wrapN _ bc', Mul64.wrapN _ bw, Mul64.wrapN _ ba', Mul64.wrapN _ bh1, Mul64.wrapN _ bh, Mul64.wrapM (x * y)]
  rw [hhi]
  go_ret2
  exact ⟨rfl, rfl⟩
end Go.Proofs.Yteikhnmmkanndaa

/- The walks of trim, Of, Zero, Bits. -/
namespace Go.Proofs.Yteikhnmmkanndaa
open Go.RowKit

def lenOf : Value → Nat | .slice _ n _ => n | _ => 0
set_option maxHeartbeats 1000000 in
theorem trim_any (A : Option Addr) (n cap V : Nat) (w : World) (hn : n ≤ cap) (hc : cap ≤ maxLen) (hd : Digs w A .u64 64 V n) (hV : V < 2 ^ (64 * n)) :
    Calls Try.prog 92 #[.slice A n cap] w fun e w' => ∃ v, e = .returned v ∧ N64 w' v V ∧ Below w.heap.size w w' := by
  have Hd := Lib.hid hd
  have HV := Lib.hid hV
  have HC := Lib.hid hc
  clear hd hV
  unfold maxLen at hc
  go_enter Try.func92, Try.ntmps92
  go_wp2
  go_loopw [0] (fun v0 wr => ∃ m : Nat, m ≤ n ∧ v0 = .slice A m cap ∧ Hid (V < 2 ^ (64 * m)) ∧ wr = w.alloc (.cells #[.slice none 0 0] 26)) (fun v0 _ => lenOf v0)
  case atStart => exact ⟨n, Nat.le_refl _, rfl, HV, rfl⟩
  case round =>
    obtain ⟨m, hm, rfl, hVm, rfl⟩ := hrel
    have hbw := cba (Below.refl _ w) (.cells #[.slice none 0 0] 26)
    rcases Nat.eq_zero_or_pos m with h0 | h0
    · subst h0
      have hw0 : wl 64 V = 0 := Nat.le_zero.1 ((wl_le (by decide) V 0).2 hVm.out)
      have HW := Lib.hid hw0
      clear hw0
      go_wp2
      exact bodyPost_ret (v := .agg #[.slice A 0 cap]) (by simp [results, Try.results92, go_sem]) rfl ⟨_, rfl, ⟨A, cap, by rw [HW.out], by rw [HW.out]; exact Nat.zero_le _, HC.out, by rw [HW.out]; exact Digs.nil _ _ _ _ _⟩, cba (Below.refl _ _) _⟩
    · obtain ⟨j, rfl⟩ : ∃ j, m = j + 1 := ⟨m - 1, by omega⟩
      obtain ⟨b, o, rfl, hlt, hcell⟩ := Hd.out j (by omega)
      have g0 : (w.alloc (.cells #[.slice none 0 0] 26)).cell? ⟨b, o + j, none⟩ = some (.int .u64 (dig 64 V j : Nat)) := (hbw.cell (p := ⟨b, o + j, none⟩) hlt).trans hcell
      clear hcell
      by_cases hz : dig 64 V j = 0
      · have hlt' := lt_of_dig_zero hVm.out hz
        rw [hz] at g0
        have HL := Lib.hid hlt'
        clear hlt' hz
        go_wp2
        go_roundw
        case rel => exact ⟨j, by omega, rfl, HL, trivial⟩
        case measure => simp [lenOf]
      · have hwl : wl 64 V = j + 1 := by
          refine wl_eq (by decide) hVm.out (.inr ?_)
          rw [Nat.add_sub_cancel]
          exact Nat.le_of_not_lt (fun h => hz (dig_zero_of_lt h))
        have HW := Lib.hid hwl
        clear hwl
        have hzb : (((dig 64 V j : Nat) : Int) == 0) = false := by rw [beq_eq_false_iff_ne]; omega
        obtain ⟨d, hd⟩ : ∃ d, dig 64 V j = d := ⟨_, rfl⟩
        rw [hd] at g0 hzb
        clear hd hz
        go_wp2
        exact bodyPost_ret (v := .agg #[.slice (some ⟨b, o, none⟩) (j + 1) cap]) (by simp [results, Try.results92, go_sem]) rfl ⟨_, rfl, ⟨some ⟨b, o, none⟩, cap, by rw [HW.out], by rw [HW.out]; omega, HC.out, by rw [HW.out]; exact (Hd.out.le hm).below (cba (Below.refl _ _) _)⟩, cba (Below.refl _ _) _⟩
theorem Try.info62 : (Try.prog.info? 62).map (fun i => (i.zero, i.size, i.bytes)) = some (some (.int .u64 0), 1, 8) := by kernel_rfl
theorem Blk.slice_ne {w : World} {r : Nat} {t : TypeId} {A : Option Addr} {n c : Nat} (h : Blk w r t #[.slice A n c]) {b o : Nat} {kd : IntKind} {z : Int} (hc : w.cell? ⟨b, o, none⟩ = some (.int kd z)) : b ≠ r := by
  rintro rfl
  rw [h.cell] at hc
  cases o with
  | zero => cases hc
  | succ o => simp at hc
theorem Digs.put {w : World} {A : Option Addr} {kd : IntKind} {k x n : Nat} (h : Digs w A kd k x n) {r : Nat} {t : TypeId} {B : Option Addr} {m c : Nat} (hb : Blk w r t #[.slice B m c]) (v : Value) : Digs (w.setCell ⟨r, 0, none⟩ v) A kd k x n := by
  intro i hi
  obtain ⟨b, o, hA, hlt, hc⟩ := h i hi
  exact ⟨b, o, hA, by simpa [World.setCell] using hlt, (World.cell?_of_block (Below.heap_setCell w _ v b (hb.slice_ne hc))).trans hc⟩
set_option maxHeartbeats 1000000 in
theorem of_any (x : Nat) (hx : x < 2 ^ 64) (w : World) :
    Calls Try.prog 50 #[.int .u64 (x : Nat)] w fun e w' => ∃ v, e = .returned v ∧ N64 w' v x ∧ Below w.heap.size w w' := by
  have HX := Lib.hid hx
  clear hx
  go_enter Try.func50, Try.ntmps50
  go_wp2_with fail
  have hb0 := Blk.new w 26 #[.slice none 0 0]
  have hb1 := (Blk.new (w.alloc (.cells #[.slice none 0 0] 26)) 62 #[.int .u64 (x : Nat)])
  rw [World.size_alloc] at hb1
  refine (trim_any (some ⟨w.heap.size + 1, 0, none⟩) 1 1 x _ (Nat.le_refl _) (by decide) ?_ HX.out).mono ?_
  · intro i hi
    obtain rfl : i = 0 := by omega
    refine ⟨_, _, rfl, hb1.lt, ?_⟩
    have h0 : dig 64 x 0 = x := by unfold dig; rw [Nat.mul_zero, Nat.pow_zero, Nat.div_one, Nat.mod_eq_of_lt HX.out]
    rw [h0]
    exact hb1.cell 0
  · rintro e w1 ⟨v, rfl, ⟨A, cap, rfl, hl, hm, hd⟩, hbl⟩
    have hblk := (hb0.alloc (.cells #[.int .u64 (x : Nat)] 62)).below hbl (by simp; omega)
    have k0 : w1.cell? ⟨w.heap.size, 0, none⟩ = some (.slice none 0 0) := hblk.cell 0
    have f0 := hblk.frozen 0
    have HD := Lib.hid (hd.put hblk (.slice A (wl 64 x) cap))
    have hbb := cbt (cba (cba (Below.refl _ w) (.cells #[.slice none 0 0] 26)) (.cells #[.int .u64 (x : Nat)] 62)) hbl
    clear hd
    go_wp2
    exact bodyPost_ret (v := .agg #[.slice A (wl 64 x) cap]) (by simp [results, Try.results50, go_sem, k0]) rfl ⟨_, rfl, ⟨A, cap, rfl, hl, hm, HD.out⟩, hbb.setCell (p := ⟨w.heap.size, 0, none⟩) (Nat.le_refl _) _⟩
set_option maxHeartbeats 1000000 in
theorem zero_any (v : Value) (x : Nat) (w : World) (h : N64 w v x) :
    Calls Try.prog 29 #[v] w fun e w' => e = .returned (.bool (decide (x = 0))) ∧ Below w.heap.size w w' := by
  obtain ⟨A, cap, rfl, hl, hm, hd⟩ := h
  have hw := wl_eq_zero (k := 64) (by decide) (x := x)
  unfold maxLen at hm
  clear hd
  obtain ⟨n, hn⟩ : ∃ n, wl 64 x = n := ⟨_, rfl⟩
  rw [hn] at hl hw ⊢
  have HW := Lib.hid hw
  clear hn hw
  go_enter Try.func29, Try.ntmps29
  go_wp2
  go_ret
  refine ⟨congrArg Ending.returned (congrArg Value.bool ?_), cba (Below.refl _ _) _⟩
  rw [Bool.eq_iff_iff, beq_iff_eq, decide_eq_true_iff, ← HW.out]
  omega
set_option maxHeartbeats 1000000 in
theorem bits_any (v : Value) (x : Nat) (w : World) (h : N64 w v x) (hx : wl 64 x ≤ 1099511627776) :
    Calls Try.prog 48 #[v] w fun e w' => e = .returned (.int .i64 (bl x : Nat)) ∧ Below w.heap.size w w' := by
  obtain ⟨A, cap, rfl, hl, hm, hd⟩ := h
  unfold maxLen at hm
  rcases Nat.eq_zero_or_pos (wl 64 x) with h0 | h0
  · have hx0 := (wl_eq_zero (k := 64) (by decide) (x := x)).1 h0
    subst hx0
    rw [h0]
    go_enter Try.func48, Try.ntmps48
    go_wp2
    go_ret
    exact ⟨rfl, cba (Below.refl _ _) _⟩
  · obtain ⟨j, hj⟩ : ∃ j, wl 64 x = j + 1 := ⟨wl 64 x - 1, by omega⟩
    obtain ⟨b, o, rfl, hlt, hc⟩ := hd j (by omega)
    have hbl := bl_top (k := 64) (by decide) hj
    have hdl := dig_lt 64 x j
    have HB := Lib.hid hbl
    rw [hj] at hl hx ⊢
    clear hj hbl h0 hd
    obtain ⟨d, hdd⟩ : ∃ d, dig 64 x j = d := ⟨_, rfl⟩
    rw [hdd] at hc hdl HB
    clear hdd
    have HDL := Lib.hid hdl
    clear hdl
    have hd64 : bl d ≤ 64 := (bl_le d 64).2 HDL.out
    have c0 : (w.alloc (.cells #[.slice (some ⟨b, o, none⟩) (j + 1) cap] 26)).cell? ⟨b, o + j, none⟩ = some (.int .u64 (d : Nat)) := ((cba (Below.refl _ w) (.cells #[.slice (some ⟨b, o, none⟩) (j + 1) cap] 26)).cell (p := ⟨b, o + j, none⟩) hlt).trans hc
    clear hc
    have hj1 : ((j : Int) + 1 == 0) = false := by rw [beq_eq_false_iff_ne]; omega
    go_enter Try.func48, Try.ntmps48
    go_wp2_with fail
    have q0 : IntKind.i64.wrap (j : Int) = j := IntWalk.i64_in _ (by omega)
    have q1 : IntKind.i64.wrap (64 * (j : Int)) = 64 * j := IntWalk.i64_in _ (by omega)
    have q2 : IntKind.i64.wrap (64 * (j : Int) + (bl d : Nat)) = 64 * j + (bl d : Nat) := IntWalk.i64_in _ (by omega)
    go_quiet ((go_at_call 117; exact quiet_same (len64_any d HDL.out _)))
    go_wp2
    go_ret
    exact ⟨by rw [HB.out]; rfl, below_drewN (cba (Below.refl _ _) _) _⟩
end Go.Proofs.Yteikhnmmkanndaa

/- The walks of Cmp and of what picks the longer one. -/
namespace Go.Proofs.Yteikhnmmkanndaa
open Go.RowKit

def cmpI (a b : Int) : Int := if a < b then -1 else if b < a then 1 else 0
def cmpN (a b : Nat) : Int := if a < b then -1 else if b < a then 1 else 0
theorem cmpI_cast (a b : Nat) : cmpI a b = cmpN a b := by
  unfold cmpI cmpN
  by_cases h1 : a < b
  · rw [if_pos h1, if_pos (by omega)]
  · rw [if_neg h1, if_neg (by omega)]
    by_cases h2 : b < a
    · rw [if_pos h2, if_pos (by omega)]
    · rw [if_neg h2, if_neg (by omega)]
theorem nan3 (a : Int) (w : World) : Calls Try.prog 127 #[.int .i64 a] w fun e w' => e = .returned (.bool false) ∧ w' = w := by
  go_enter Try.func127, Try.ntmps127
  go_wp2
  go_ret
  exact ⟨by simp, rfl⟩
theorem nan62 (a : Int) (w : World) : Calls Try.prog 128 #[.int .u64 a] w fun e w' => e = .returned (.bool false) ∧ w' = w := by
  go_enter Try.func128, Try.ntmps128
  go_wp2
  go_ret
  exact ⟨by simp, rfl⟩
set_option maxHeartbeats 1000000 in
theorem cmp3_any (a b : Int) (w : World) :
    Calls Try.prog 93 #[.int .i64 a, .int .i64 b] w fun e w' => e = .returned (.int .i64 (cmpI a b)) ∧ w' = w := by
  have HC := Lib.hid (show cmpI a b = if a < b then -1 else if b < a then 1 else 0 from rfl)
  go_enter Try.func93, Try.ntmps93
  go_wp2_with fail
  refine (nan3 a _).mono ?_
  rintro e w1 ⟨rfl, rfl⟩
  go_wp2_with fail
  refine (nan3 b _).mono ?_
  rintro e w1 ⟨rfl, rfl⟩
  go_wp2
  · go_ret
    exact ⟨by rw [HC.out, if_pos (by assumption)]; rfl, rfl⟩
  · go_ret
    exact ⟨by rw [HC.out, if_neg (by omega), if_pos (by omega)]; rfl, rfl⟩
  · go_ret
    exact ⟨by rw [HC.out, if_neg (by omega), if_neg (by omega)]; rfl, rfl⟩
set_option maxHeartbeats 1000000 in
theorem cmp62_any (a b : Int) (w : World) :
    Calls Try.prog 94 #[.int .u64 a, .int .u64 b] w fun e w' => e = .returned (.int .i64 (cmpI a b)) ∧ w' = w := by
  have HC := Lib.hid (show cmpI a b = if a < b then -1 else if b < a then 1 else 0 from rfl)
  go_enter Try.func94, Try.ntmps94
  go_wp2_with fail
  refine (nan62 a _).mono ?_
  rintro e w1 ⟨rfl, rfl⟩
  go_wp2_with fail
  refine (nan62 b _).mono ?_
  rintro e w1 ⟨rfl, rfl⟩
  go_wp2
  · go_ret
    exact ⟨by rw [HC.out, if_pos (by assumption)]; rfl, rfl⟩
  · go_ret
    exact ⟨by rw [HC.out, if_neg (by omega), if_pos (by omega)]; rfl, rfl⟩
  · go_ret
    exact ⟨by rw [HC.out, if_neg (by omega), if_neg (by omega)]; rfl, rfl⟩

/-! How two numbers stand, by their digits from the highest one on. -/
theorem cmpN_lt {x y : Nat} (h : x < y) : cmpN x y = -1 := if_pos h
theorem cmpN_gt {x y : Nat} (h : y < x) : cmpN x y = 1 := by unfold cmpN; rw [if_neg (by omega), if_pos h]
theorem cmpN_self (x : Nat) : cmpN x x = 0 := by unfold cmpN; rw [if_neg (by omega), if_neg (by omega)]
theorem cmpN_eq_zero {x y : Nat} (h : cmpN x y = 0) : x = y := by
  unfold cmpN at h
  split at h
  · omega
  · split at h <;> omega
theorem lt_of_wl {k : Nat} (hk : 0 < k) {x y : Nat} (h : wl k x < wl k y) : x < y := by
  rcases Nat.lt_or_ge x y with h1 | h1
  · exact h1
  · have := wl_mono hk h1
    omega
theorem cmpN_wl {k : Nat} (hk : 0 < k) {x y : Nat} (h : cmpN (wl k x) (wl k y) ≠ 0) : cmpN (wl k x) (wl k y) = cmpN x y := by
  unfold cmpN at h
  by_cases h1 : wl k x < wl k y
  · rw [cmpN_lt h1, cmpN_lt (lt_of_wl hk h1)]
  · rw [if_neg h1] at h
    by_cases h2 : wl k y < wl k x
    · rw [cmpN_gt h2, cmpN_gt (lt_of_wl hk h2)]
    · rw [if_neg h2] at h
      exact absurd rfl h
theorem div_succ (k x i : Nat) : x / 2 ^ (k * i) = x / 2 ^ (k * (i + 1)) * 2 ^ k + dig k x i := by
  unfold dig
  rw [pow_succ_mul, ← Nat.div_div_eq_div_mul]
  have := Nat.div_add_mod (x / 2 ^ (k * i)) (2 ^ k)
  rw [Nat.mul_comm] at this
  exact this.symm
theorem lt_of_dig {k x y i : Nat} (h : x / 2 ^ (k * (i + 1)) = y / 2 ^ (k * (i + 1))) (hd : dig k x i < dig k y i) : x < y := by
  have h1 := div_succ k x i
  have h2 := div_succ k y i
  rw [h] at h1
  rcases Nat.lt_or_ge x y with h3 | h3
  · exact h3
  · have := Nat.div_le_div_right (c := 2 ^ (k * i)) h3
    omega
theorem cmpN_dig {k x y i : Nat} (h : x / 2 ^ (k * (i + 1)) = y / 2 ^ (k * (i + 1))) (hd : cmpN (dig k x i) (dig k y i) ≠ 0) : cmpN (dig k x i) (dig k y i) = cmpN x y := by
  unfold cmpN at hd
  by_cases h1 : dig k x i < dig k y i
  · rw [cmpN_lt h1, cmpN_lt (lt_of_dig h h1)]
  · rw [if_neg h1] at hd
    by_cases h2 : dig k y i < dig k x i
    · rw [cmpN_gt h2, cmpN_gt (lt_of_dig h.symm h2)]
    · rw [if_neg h2] at hd
      exact absurd rfl hd
theorem div_dig {k x y i : Nat} (h : x / 2 ^ (k * (i + 1)) = y / 2 ^ (k * (i + 1))) (hd : cmpN (dig k x i) (dig k y i) = 0) : x / 2 ^ (k * i) = y / 2 ^ (k * i) := by
  rw [div_succ k x i, div_succ k y i, h, cmpN_eq_zero hd]

set_option maxHeartbeats 2000000 in
theorem ncmp_any (va vb : Value) (x y : Nat) (w : World) (ha : N64 w va x) (hb : N64 w vb y) :
    Calls Try.prog 22 #[va, vb] w fun e w' => e = .returned (.int .i64 (cmpN x y)) ∧ Below w.heap.size w w' := by
  obtain ⟨A, ca, rfl, hla, hma, hda⟩ := ha
  obtain ⟨B, cb, rfl, hlb, hmb, hdb⟩ := hb
  unfold maxLen at hma hmb
  have HA := Lib.hid hda
  have HB := Lib.hid hdb
  clear hda hdb
  have hbw := cba (cba (Below.refl _ w) (.cells #[.slice A (wl 64 x) ca] 26)) (.cells #[.slice B (wl 64 y) cb] 26)
  by_cases hc : cmpN (wl 64 x) (wl 64 y) = 0
  · have hn := cmpN_eq_zero hc
    have HC := Lib.hid ((cmpI_cast _ _).trans hc)
    have HX := Lib.hid (wl_lt (k := 64) (by decide) x)
    have HY := Lib.hid (wl_lt (k := 64) (by decide) y)
    rw [← hn] at hlb HB hbw ⊢
    rw [← hn] at HC HY
    clear hc hn
    obtain ⟨n, hn⟩ : ∃ n, wl 64 x = n := ⟨_, rfl⟩
    rw [hn] at HA HB HC HX HY hla hlb hbw ⊢
    clear hn
    go_enter Try.func22, Try.ntmps22
    go_wp2_with fail
    refine (cmp3_any _ _ _).mono ?_
    rintro e w1 ⟨rfl, rfl⟩
    rw [HC.out]
    go_wp2_with fail
    go_loopw [6] (fun v6 wr => ∃ m : Nat, m ≤ n ∧ v6 = .int .i64 ((m : Int) - 1) ∧ Hid (x / 2 ^ (64 * m) = y / 2 ^ (64 * m)) ∧ Drew ((w.alloc (.cells #[.slice A n ca] 26)).alloc (.cells #[.slice B n cb] 26)) wr) (fun v6 _ => (intOf v6 + 1).toNat)
    case atStart =>
      exact ⟨n, Nat.le_refl _, by go_num, Lib.hid (by rw [Nat.div_eq_of_lt HX.out, Nat.div_eq_of_lt HY.out]), Drew.refl _⟩
    case round =>
      obtain ⟨m, hm, rfl, hdiv, hdr⟩ := hrel
      rcases Nat.eq_zero_or_pos m with h0 | h0
      · subst h0
        have hxy : x = y := by
          have := hdiv.out
          rwa [Nat.mul_zero, Nat.pow_zero, Nat.div_one, Nat.div_one] at this
        subst hxy
        have HZ := Lib.hid (cmpN_self x)
        go_wp2
        go_ret
        exact ⟨by rw [HZ.out]; rfl, cbt hbw hdr.below⟩
      · obtain ⟨j, rfl⟩ : ∃ j, m = j + 1 := ⟨m - 1, by omega⟩
        rw [show (((j + 1 : Nat) : Int) - 1) = (j : Int) by omega]
        obtain ⟨bA, oA, rfl, hltA, hcA⟩ := HA.out j (by omega)
        obtain ⟨bB, oB, rfl, hltB, hcB⟩ := HB.out j (by omega)
        have gA : wr.cell? ⟨bA, oA + j, none⟩ = some (.int .u64 (dig 64 x j : Nat)) := (hdr.cell _).trans ((hbw.cell (p := ⟨bA, oA + j, none⟩) hltA).trans hcA)
        have gB : wr.cell? ⟨bB, oB + j, none⟩ = some (.int .u64 (dig 64 y j : Nat)) := (hdr.cell _).trans ((hbw.cell (p := ⟨bB, oB + j, none⟩) hltB).trans hcB)
        have k0 : wr.cell? ⟨w.heap.size, 0, none⟩ = some (.slice (some ⟨bA, oA, none⟩) n ca) := (hdr.cell _).trans (((Blk.new w 26 #[.slice (some ⟨bA, oA, none⟩) n ca]).alloc _).cell 0)
        have k1 : wr.cell? ⟨w.heap.size + 1, 0, none⟩ = some (.slice (some ⟨bB, oB, none⟩) n cb) := (hdr.cell _).trans (by
          have := (Blk.new (w.alloc (.cells #[.slice (some ⟨bA, oA, none⟩) n ca] 26)) 26 #[.slice (some ⟨bB, oB, none⟩) n cb]).cell 0
          rwa [World.size_alloc] at this)
        clear hcA hcB
        have i0 : (0 : Int) ≤ (j : Int) := by omega
        have i1 : (j : Int) < (n : Int) := by omega
        by_cases hd : cmpN (dig 64 x j) (dig 64 y j) = 0
        · have HDV := Lib.hid (div_dig hdiv.out hd)
          have HD := Lib.hid ((cmpI_cast _ _).trans hd)
          clear hd
          obtain ⟨d, hd⟩ : ∃ d, dig 64 x j = d := ⟨_, rfl⟩
          obtain ⟨f, hf⟩ : ∃ f, dig 64 y j = f := ⟨_, rfl⟩
          rw [hd] at gA HD
          rw [hf] at gB HD
          clear hd hf
          go_wp2_with fail
          go_quiet ((go_at_call 94; exact quiet_same (cmp62_any _ _ _)))
          rw [HD.out]
          go_wp2
          go_roundw
          case rel => exact ⟨j, by omega, by go_num, HDV, hdr.more _⟩
          case measure => simp [intOf]
        · have HD := Lib.hid ((cmpI_cast _ _).trans (cmpN_dig hdiv.out hd))
          have hne : ((cmpI (dig 64 x j : Nat) (dig 64 y j : Nat)) != 0) = true := by rw [cmpI_cast, bne_iff_ne]; exact hd
          clear hd
          obtain ⟨d, hd⟩ : ∃ d, dig 64 x j = d := ⟨_, rfl⟩
          obtain ⟨f, hf⟩ : ∃ f, dig 64 y j = f := ⟨_, rfl⟩
          rw [hd] at gA HD hne
          rw [hf] at gB HD hne
          clear hd hf
          go_wp2_with fail
          go_quiet ((go_at_call 94; exact quiet_same (cmp62_any _ _ _)))
          go_wp2
          go_ret
          exact ⟨by rw [← HD.out]; rfl, below_drewN (cbt hbw hdr.below) _⟩
  · have hn := (cmpN_wl (k := 64) (by decide) hc)
    have hne : ((cmpI (wl 64 x : Nat) (wl 64 y : Nat)) != 0) = true := by rw [cmpI_cast, bne_iff_ne]; exact hc
    have HC := Lib.hid ((cmpI_cast _ _).trans hn)
    clear hc hn
    obtain ⟨n, hn⟩ : ∃ n, wl 64 x = n := ⟨_, rfl⟩
    obtain ⟨m, hm⟩ : ∃ m, wl 64 y = m := ⟨_, rfl⟩
    rw [hn, hm] at hne HC
    rw [hn] at hla hbw ⊢
    rw [hm] at hlb hbw ⊢
    clear hn hm HA HB
    go_enter Try.func22, Try.ntmps22
    go_wp2_with fail
    refine (cmp3_any _ _ _).mono ?_
    rintro e w1 ⟨rfl, rfl⟩
    go_wp2_with fail
    go_ret
    exact ⟨by rw [← HC.out]; rfl, hbw⟩
end Go.Proofs.Yteikhnmmkanndaa

/- The walk of what tells the longer one first. -/
namespace Go.Proofs.Yteikhnmmkanndaa
open Go.RowKit

theorem blk_below {w w' : World} {g : Nat} {t : TypeId} {cs : Array Value} (h : Blk w g t cs) (hb : Below w.heap.size w w') : Blk w' g t cs := h.below hb h.lt

theorem pair_cells {w : World} {g h : Nat} {v v' : Value} (a : Blk w g 26 #[v]) (b : Blk w h 26 #[v']) : w.cell? ⟨g, 0, none⟩ = some v ∧ w.cell? ⟨h, 0, none⟩ = some v' := ⟨a.cell 0, b.cell 0⟩

set_option maxRecDepth 100000 in
set_option maxHeartbeats 4000000 in
theorem longer_any (va vb : Value) (x y : Nat) (w : World) (ha : N64 w va x) (hb : N64 w vb y) (hx : wl 64 x ≤ 1099511627776) (hy : wl 64 y ≤ 1099511627776) :
    Calls Try.prog 101 #[.func (.func 48) #[] #[], va, vb] w fun e w' => e = .returned (.tuple (if bl x < bl y then #[vb, va] else #[va, vb])) ∧ Below w.heap.size w w' := by
  have ha' := ha
  have hb' := hb
  obtain ⟨A, ca, rfl, hla, hma, hda⟩ := ha
  obtain ⟨B, cb, rfl, hlb, hmb, hdb⟩ := hb
  have HA := Lib.hid ha'
  have HB := Lib.hid hb'
  clear hda hdb ha' hb'
  unfold maxLen at hma hmb
  have hbx : bl x ≤ 70368744177664 := Nat.le_trans (bl_le_wl (k := 64) (by decide) x) (by omega)
  have hby : bl y ≤ 70368744177664 := Nat.le_trans (bl_le_wl (k := 64) (by decide) y) (by omega)
  have e0 := (((Blk.new w 26 #[.slice A (wl 64 x) ca]).alloc (.cells #[.slice B (wl 64 y) cb] 26)).alloc (.cells #[.slice none 0 0] 26)).alloc (.cells #[.slice none 0 0] 26)
  have e1 := ((Blk.new (w.alloc (.cells #[.slice A (wl 64 x) ca] 26)) 26 #[.slice B (wl 64 y) cb]).alloc (.cells #[.slice none 0 0] 26)).alloc (.cells #[.slice none 0 0] 26)
  have e2 := (Blk.new ((w.alloc (.cells #[.slice A (wl 64 x) ca] 26)).alloc (.cells #[.slice B (wl 64 y) cb] 26)) 26 #[.slice none 0 0]).alloc (.cells #[.slice none 0 0] 26)
  have e3 := Blk.new (((w.alloc (.cells #[.slice A (wl 64 x) ca] 26)).alloc (.cells #[.slice B (wl 64 y) cb] 26)).alloc (.cells #[.slice none 0 0] 26)) 26 #[.slice none 0 0]
  simp only [World.size_alloc] at e1 e2 e3
  have hb0 := cba (cba (cba (cba (Below.refl _ w) (.cells #[.slice A (wl 64 x) ca] 26)) (.cells #[.slice B (wl 64 y) cb] 26)) (.cells #[.slice none 0 0] 26)) (.cells #[.slice none 0 0] 26)
  have HAX := Lib.hid (fun W => bits_any (.agg #[.slice A (wl 64 x) ca]) x W)
  have HBX := Lib.hid (fun W => bits_any (.agg #[.slice B (wl 64 y) cb]) y W)
  obtain ⟨n, hn⟩ : ∃ n, wl 64 x = n := ⟨_, rfl⟩
  obtain ⟨m, hm⟩ : ∃ m, wl 64 y = m := ⟨_, rfl⟩
  rw [hn] at HA HAX hla hx e0 e1 e2 e3 hb0 ⊢
  rw [hm] at HB HBX hlb hy e0 e1 e2 e3 hb0 ⊢
  clear hn hm
  obtain ⟨p, hp⟩ : ∃ p, bl x = p := ⟨_, rfl⟩
  obtain ⟨q, hq⟩ : ∃ q, bl y = q := ⟨_, rfl⟩
  rw [hp] at HAX hbx ⊢
  rw [hq] at HBX hby ⊢
  clear hp hq
  by_cases hpq : p < q
  · rw [if_pos hpq]
    have hpb : decide ((p : Int) < (q : Int)) = true := by rw [decide_eq_true_iff]; omega
    have hpb' : decide (p < q) = true := by rw [decide_eq_true_iff]; omega
    clear hpq
    go_enter Try.func101, Try.ntmps101
    go_wp2_with fail
    obtain ⟨X, hX⟩ : ∃ X, (((w.alloc (.cells #[.slice A n ca] 26)).alloc (.cells #[.slice B m cb] 26)).alloc (.cells #[.slice none 0 0] 26)).alloc (.cells #[.slice none 0 0] 26) = X := ⟨_, rfl⟩
    rw [hX] at e0 e1 e2 e3 hb0 ⊢
    clear hX
    have k0 : X.cell? ⟨w.heap.size, 0, none⟩ = some (.slice A n ca) := e0.cell 0
    have k1 : X.cell? ⟨w.heap.size + 1, 0, none⟩ = some (.slice B m cb) := e1.cell 0
    have E0 := Lib.hid e0
    have E1 := Lib.hid e1
    have E2 := Lib.hid e2
    have E3 := Lib.hid e3
    clear e0 e1 e2 e3
    go_region_held3 (fun w' => w'.cell? ⟨w.heap.size, 0, none⟩ = some (.slice A n ca) ∧ w'.cell? ⟨w.heap.size + 1, 0, none⟩ = some (.slice B m cb)) ((refine pair_cells ?_ ?_ <;> with_reducible (first | exact E0.out.drew | exact E1.out.drew | exact a2 | exact b2 | exact a3 | exact b3)))
      (first | (go_at_call 48; (with_reducible refine (HAX.out _ ?_ hx).mono ?_); (exact HA.out.below (hb0.drew)); rintro e w2 ⟨rfl, hb2⟩; have a2 := blk_below E0.out.drew hb2; have b2 := blk_below E1.out.drew hb2) | (go_at_call 48; (with_reducible refine (HBX.out _ ?_ hy).mono ?_); (exact HB.out.below (cbt hb0.drew hb2)); rintro e w3 ⟨rfl, hb3⟩; have a3 := blk_below a2 hb3; have b3 := blk_below b2 hb3))
    have e2 := blk_below (blk_below E2.out.drew hb2) hb3
    have e3 := blk_below (blk_below E3.out.drew hb2) hb3
    have hbb := cbt (cbt hb0.drew hb2) hb3
    have k4 : w3.cell? ⟨w.heap.size, 0, none⟩ = some (.slice A n ca) := a3.cell 0
    have k5 : w3.cell? ⟨w.heap.size + 1, 0, none⟩ = some (.slice B m cb) := b3.cell 0
    have k6 : w3.cell? ⟨w.heap.size + 1 + 1, 0, none⟩ = some (.slice none 0 0) := e2.cell 0
    have k7 : w3.cell? ⟨w.heap.size + 1 + 1 + 1, 0, none⟩ = some (.slice none 0 0) := e3.cell 0
    have f6 := e2.frozen 0
    have f7 := e3.frozen 0
    have hle2 : w.heap.size ≤ w.heap.size + 1 + 1 := by omega
    have hle3 : w.heap.size ≤ w.heap.size + 1 + 1 + 1 := by omega
    clear E0 E1 E2 E3 a2 b2 a3 b3 e2 e3 HA HB HAX HBX k0 k1
    go_wp2
    go_region
    go_wp2
    exact bodyPost_ret (v := .tuple #[.agg #[.slice B m cb], .agg #[.slice A n ca]]) (by simp [results, Try.results101, go_sem, k6, k7]) rfl ⟨rfl, ((hbb.setCell (p := ⟨w.heap.size + 1 + 1, 0, none⟩) hle2 _).setCell (p := ⟨w.heap.size + 1 + 1 + 1, 0, none⟩) hle3 _).drew⟩
  · rw [if_neg hpq]
    have hpb : decide ((p : Int) < (q : Int)) = false := by rw [decide_eq_false_iff_not]; omega
    have hpb' : decide (p < q) = false := by rw [decide_eq_false_iff_not]; omega
    clear hpq
    go_enter Try.func101, Try.ntmps101
    go_wp2_with fail
    obtain ⟨X, hX⟩ : ∃ X, (((w.alloc (.cells #[.slice A n ca] 26)).alloc (.cells #[.slice B m cb] 26)).alloc (.cells #[.slice none 0 0] 26)).alloc (.cells #[.slice none 0 0] 26) = X := ⟨_, rfl⟩
    rw [hX] at e0 e1 e2 e3 hb0 ⊢
    clear hX
    have k0 : X.cell? ⟨w.heap.size, 0, none⟩ = some (.slice A n ca) := e0.cell 0
    have k1 : X.cell? ⟨w.heap.size + 1, 0, none⟩ = some (.slice B m cb) := e1.cell 0
    have E0 := Lib.hid e0
    have E1 := Lib.hid e1
    have E2 := Lib.hid e2
    have E3 := Lib.hid e3
    clear e0 e1 e2 e3
    go_region_held3 (fun w' => w'.cell? ⟨w.heap.size, 0, none⟩ = some (.slice A n ca) ∧ w'.cell? ⟨w.heap.size + 1, 0, none⟩ = some (.slice B m cb)) ((refine pair_cells ?_ ?_ <;> with_reducible (first | exact E0.out.drew | exact E1.out.drew | exact a2 | exact b2 | exact a3 | exact b3)))
      (first | (go_at_call 48; (with_reducible refine (HAX.out _ ?_ hx).mono ?_); (exact HA.out.below (hb0.drew)); rintro e w2 ⟨rfl, hb2⟩; have a2 := blk_below E0.out.drew hb2; have b2 := blk_below E1.out.drew hb2) | (go_at_call 48; (with_reducible refine (HBX.out _ ?_ hy).mono ?_); (exact HB.out.below (cbt hb0.drew hb2)); rintro e w3 ⟨rfl, hb3⟩; have a3 := blk_below a2 hb3; have b3 := blk_below b2 hb3))
    have e2 := blk_below (blk_below E2.out.drew hb2) hb3
    have e3 := blk_below (blk_below E3.out.drew hb2) hb3
    have hbb := cbt (cbt hb0.drew hb2) hb3
    have k4 : w3.cell? ⟨w.heap.size, 0, none⟩ = some (.slice A n ca) := a3.cell 0
    have k5 : w3.cell? ⟨w.heap.size + 1, 0, none⟩ = some (.slice B m cb) := b3.cell 0
    have k6 : w3.cell? ⟨w.heap.size + 1 + 1, 0, none⟩ = some (.slice none 0 0) := e2.cell 0
    have k7 : w3.cell? ⟨w.heap.size + 1 + 1 + 1, 0, none⟩ = some (.slice none 0 0) := e3.cell 0
    have f6 := e2.frozen 0
    have f7 := e3.frozen 0
    have hle2 : w.heap.size ≤ w.heap.size + 1 + 1 := by omega
    have hle3 : w.heap.size ≤ w.heap.size + 1 + 1 + 1 := by omega
    clear E0 E1 E2 E3 a2 b2 a3 b3 e2 e3 HA HB HAX HBX k0 k1
    go_wp2
    go_region
    go_wp2
    exact bodyPost_ret (v := .tuple #[.agg #[.slice A n ca], .agg #[.slice B m cb]]) (by simp [results, Try.results101, go_sem, k6, k7]) rfl ⟨rfl, ((hbb.setCell (p := ⟨w.heap.size + 1 + 1, 0, none⟩) hle2 _).setCell (p := ⟨w.heap.size + 1 + 1 + 1, 0, none⟩) hle3 _).drew⟩
end Go.Proofs.Yteikhnmmkanndaa

/- The walk of Add. -/
namespace Go.Proofs.Yteikhnmmkanndaa
open Go.RowKit

/-- a row filled up to k, one cell more. -/
theorem row_upto {w : World} {g : Nat} {t : TypeId} {n k : Nat} {kd : IntKind} {f : Nat → Nat} (h : w.rowIs g t n (fun j => .int kd ((if j < k then f j else 0 : Nat) : Int))) {d : Nat} (hd : d = f k) :
    (w.setCell ⟨g, k, none⟩ (.int kd (d : Nat))).rowIs g t n (fun j => .int kd ((if j < k + 1 then f j else 0 : Nat) : Int)) :=
  (h.set k (.int kd (d : Nat))).congr (fun j _ => by
    by_cases h1 : j = k
    · subst h1; rw [if_pos rfl, if_pos (by omega), hd]
    · rw [if_neg h1]
      by_cases h2 : j < k
      · rw [if_pos h2, if_pos (by omega)]
      · rw [if_neg h2, if_neg (by omega)])
theorem wl_of_bl {k x y : Nat} (h : bl x ≤ bl y) : wl k x ≤ wl k y := Nat.div_le_div_right (by omega)
theorem sum_lt {k n x y : Nat} (hk : 0 < k) (hx : x < 2 ^ (k * n)) (hy : y < 2 ^ (k * n)) : x + y < 2 ^ (k * (n + 1)) := by
  rw [pow_succ_mul]
  have : 2 ≤ 2 ^ k := by
    have := Nat.pow_le_pow_right (show 0 < 2 by decide) hk
    simpa using this
  have := Nat.mul_le_mul_left (2 ^ (k * n)) this
  omega
theorem sum_top {k n x y : Nat} (hk : 0 < k) (hx : x < 2 ^ (k * n)) (hy : y < 2 ^ (k * n)) : dig k (x + y) n = carryOf k x y n := by
  rw [sum_dig, dig_zero_of_lt hx, dig_zero_of_lt hy, Nat.zero_add]
  refine Nat.mod_eq_of_lt ?_
  have h1 := carry_le k x y n
  have : 2 ≤ 2 ^ k := by
    have := Nat.pow_le_pow_right (show 0 < 2 by decide) hk
    simpa using this
  omega

set_option maxRecDepth 100000 in
set_option maxHeartbeats 4000000 in
theorem nadd_any (va vb : Value) (x y : Nat) (w : World) (ha : N64 w va x) (hb : N64 w vb y) (hx : wl 64 x ≤ 1099511627776) (hy : wl 64 y ≤ 1099511627776) :
    Calls Try.prog 24 #[va, vb] w fun e w' => ∃ v, e = .returned v ∧ N64 w' v (x + y) ∧ Below w.heap.size w w' := by
  have hlong := fun W h1 h2 => longer_any va vb x y W h1 h2 hx hy
  obtain ⟨vp, vq, X, Y, hpq, hXY, hp, hq, hbl, hX⟩ : ∃ vp vq X Y, (if bl x < bl y then #[vb, va] else #[va, vb]) = #[vp, vq] ∧ X + Y = x + y ∧ N64 w vp X ∧ N64 w vq Y ∧ bl Y ≤ bl X ∧ wl 64 X ≤ 1099511627776 := by
    by_cases h : bl x < bl y
    · exact ⟨vb, va, y, x, if_pos h, Nat.add_comm _ _, hb, ha, by omega, hy⟩
    · exact ⟨va, vb, x, y, if_neg h, rfl, ha, hb, by omega, hx⟩
  rw [hpq] at hlong
  rw [← hXY]
  have HA := Lib.hid ha
  have HB := Lib.hid hb
  obtain ⟨A0, ca0, rfl, hla0, hma0, _⟩ := ha
  obtain ⟨B0, cb0, rfl, hlb0, hmb0, _⟩ := hb
  have hwl := wl_of_bl (k := 64) hbl
  obtain ⟨A, ca, rfl, hla, hma, hda⟩ := hp
  obtain ⟨B, cb, rfl, hlb, hmb, hdb⟩ := hq
  have HDA := Lib.hid hda
  have HDB := Lib.hid hdb
  have HXL := Lib.hid (wl_lt (k := 64) (by decide) X)
  have HYL := Lib.hid (wl_lt (k := 64) (by decide) Y)
  have HLONG := Lib.hid hlong
  clear hda hdb hlong hpq hXY hbl hla0 hma0 hlb0 hmb0 hx hy
  unfold maxLen at hma hmb
  generalize wl 64 x = nx at *
  generalize wl 64 y = ny at *
  obtain ⟨n, hn⟩ : ∃ n, wl 64 X = n := ⟨_, rfl⟩
  obtain ⟨m, hm⟩ : ∃ m, wl 64 Y = m := ⟨_, rfl⟩
  rw [hn] at hwl hla hX HDA HXL HLONG
  rw [hm] at hwl hlb HDB HYL HLONG
  clear hn hm
  have hmk := run_make_row' (P := Try.prog) 24 62 (.int .u64 0) 8 Try.underlying24 Try.info62 rfl .i64 .i64 (n + 1) (by omega) (by omega)
  simp only [Int.natCast_add, Int.natCast_one] at hmk
  have e0 := ((Blk.new w 26 #[.slice A0 nx ca0]).alloc (.cells #[.slice B0 ny cb0] 26)).alloc (.cells #[.slice none 0 0] 26)
  have e1 := (Blk.new (w.alloc (.cells #[.slice A0 nx ca0] 26)) 26 #[.slice B0 ny cb0]).alloc (.cells #[.slice none 0 0] 26)
  have e2 := Blk.new ((w.alloc (.cells #[.slice A0 nx ca0] 26)).alloc (.cells #[.slice B0 ny cb0] 26)) 26 #[.slice none 0 0]
  simp only [World.size_alloc] at e1 e2
  have hb0 := cba (cba (cba (Below.refl _ w) (.cells #[.slice A0 nx ca0] 26)) (.cells #[.slice B0 ny cb0] 26)) (.cells #[.slice none 0 0] 26)
  have hsz0 : (((w.alloc (.cells #[.slice A0 nx ca0] 26)).alloc (.cells #[.slice B0 ny cb0] 26)).alloc (.cells #[.slice none 0 0] 26)).heap.size = w.heap.size + 3 := by simp
  go_enter Try.func24, Try.ntmps24
  go_wp2_with fail
  obtain ⟨X0, hX0⟩ : ∃ X0, ((w.alloc (.cells #[.slice A0 nx ca0] 26)).alloc (.cells #[.slice B0 ny cb0] 26)).alloc (.cells #[.slice none 0 0] 26) = X0 := ⟨_, rfl⟩
  rw [hX0] at e0 e1 e2 hb0 hsz0 ⊢
  clear hX0
  refine (HLONG.out X0 (HA.out.below hb0) (HB.out.below hb0)).mono ?_
  rintro e w1 ⟨rfl, hb1⟩
  have a0 := blk_below e0 hb1
  have a1 := blk_below e1 hb1
  have a2 := blk_below e2 hb1
  have hbw := cbt hb0 hb1
  have hs1 := hb1.size
  have s0 := (a0.set_ 0 (.slice A n ca)).far (p := ⟨w.heap.size + 1, 0, none⟩) (show w.heap.size ≠ w.heap.size + 1 by omega) (.slice B m cb)
  have s1 := (a1.far (p := ⟨w.heap.size, 0, none⟩) (show w.heap.size + 1 ≠ w.heap.size by omega) (.slice A n ca)).set_ 0 (.slice B m cb)
  have s2 := (a2.far (p := ⟨w.heap.size, 0, none⟩) (show w.heap.size + 1 + 1 ≠ w.heap.size by omega) (.slice A n ca)).far (p := ⟨w.heap.size + 1, 0, none⟩) (show w.heap.size + 1 + 1 ≠ w.heap.size + 1 by omega) (.slice B m cb)
  have hbS := (hbw.setCell (p := ⟨w.heap.size, 0, none⟩) (Nat.le_refl _) (.slice A n ca)).setCell (p := ⟨w.heap.size + 1, 0, none⟩) (show w.heap.size ≤ w.heap.size + 1 by omega) (.slice B m cb)
  have hsS : ((w1.setCell ⟨w.heap.size, 0, none⟩ (.slice A n ca)).setCell ⟨w.heap.size + 1, 0, none⟩ (.slice B m cb)).heap.size = w1.heap.size := by simp [World.setCell]
  have k0 : w1.cell? ⟨w.heap.size, 0, none⟩ = some (.slice A0 nx ca0) := a0.cell 0
  have k1 : w1.cell? ⟨w.heap.size + 1, 0, none⟩ = some (.slice B0 ny cb0) := a1.cell 0
  have f0 := a0.frozen 0
  have f1 := a1.frozen 0
  go_upto_region 2 with (fail)
  obtain ⟨S, hS⟩ : ∃ S, (w1.setCell ⟨w.heap.size, 0, none⟩ (.slice A n ca)).setCell ⟨w.heap.size + 1, 0, none⟩ (.slice B m cb) = S := ⟨_, rfl⟩
  rw [hS] at s0 s1 s2 hbS hsS ⊢
  clear hS k0 k1 f0 f1 a0 a1 a2 e0 e1 e2
  have hg : w.heap.size + 3 ≤ S.heap.size := by omega
  have hrow := World.rowIs_made S (.int .u64 0) (n + 1) 62
  have q0 : S.cell? ⟨w.heap.size, 0, none⟩ = some (.slice A n ca) := s0.cell 0
  have q0' : (S.alloc (.cells (madeCells #[.int .u64 0] (n + 1)) 62)).cell? ⟨w.heap.size, 0, none⟩ = some (.slice A n ca) := (s0.alloc _).cell 0
  have HROW := Lib.hid hrow
  have S0 := Lib.hid s0
  have S1 := Lib.hid s1
  have S2 := Lib.hid s2
  clear hrow s0 s1 s2 hsS hbw hs1
  go_wp2_with fail
  clear q0 q0'
  go_loopw [6, 23] (fun v6 v23 wr => ∃ k : Nat, k ≤ n ∧ v23 = .int .i64 k ∧ v6 = .int .u64 (carryOf 64 X Y k : Nat) ∧ wr.rowIs S.heap.size 62 (n + 1) (fun j => .int .u64 ((if j < k then dig 64 (X + Y) j else 0 : Nat) : Int)) ∧
    Below S.heap.size S wr) (fun _ v23 _ => n - (intOf v23).toNat)
  case atStart =>
    exact ⟨0, Nat.zero_le _, rfl, by rw [carry_zero]; rfl, HROW.out.congr (fun j _ => by simp), cba (Below.refl _ _) _⟩
  case round =>
    obtain ⟨k, hk, rfl, rfl, hrw, hbr⟩ := hrel
    have g0 : wr.cell? ⟨w.heap.size, 0, none⟩ = some (.slice A n ca) := (blk_below S0.out hbr).cell 0
    have g1 : wr.cell? ⟨w.heap.size + 1, 0, none⟩ = some (.slice B m cb) := (blk_below S1.out hbr).cell 0
    by_cases hlt : k < n
    · obtain ⟨bA, oA, rfl, hltA, hcA⟩ := HDA.out k hlt
      have gA : wr.cell? ⟨bA, oA + k, none⟩ = some (.int .u64 (dig 64 X k : Nat)) := (hbr.cell (p := ⟨bA, oA + k, none⟩) (show bA < S.heap.size by omega)).trans ((hbS.cell (p := ⟨bA, oA + k, none⟩) hltA).trans hcA)
      have r0 : wr.cell? ⟨S.heap.size, k, none⟩ = some (.int .u64 ((if k < k then dig 64 (X + Y) k else 0 : Nat) : Int)) := hrw.cell (by omega)
      rw [if_neg (by omega)] at r0
      have fr := hrw.frozen k
      have hcl := carry_le 64 X Y k
      have hadd := add64_run (dig 64 X k) (dig 64 Y k) (carryOf 64 X Y k) hcl
      rw [← sum_dig, ← carry_succ] at hadd
      have HRW := Lib.hid hrw
      clear hcA hrw
      by_cases hkm : k < m
      · obtain ⟨bB, oB, rfl, hltB, hcB⟩ := HDB.out k hkm
        have gB : wr.cell? ⟨bB, oB + k, none⟩ = some (.int .u64 (dig 64 Y k : Nat)) := (hbr.cell (p := ⟨bB, oB + k, none⟩) (show bB < S.heap.size by omega)).trans ((hbS.cell (p := ⟨bB, oB + k, none⟩) hltB).trans hcB)
        clear hcB
        generalize hd1 : dig 64 X k = d1 at gA hadd
        generalize hd2 : dig 64 Y k = d2 at gB hadd
        generalize hd3 : carryOf 64 X Y k = c1 at hadd hcl ⊢
        generalize hd4 : carryOf 64 X Y (k + 1) = c2 at hadd
        have HC2 := Lib.hid hd4
        generalize hd5 : dig 64 (X + Y) k = d3 at hadd
        have HD := Lib.hid hd5
        clear hd1 hd2 hd3 hd4 hd5
        go_wp2_with fail
        go_roundw
        case rel => exact ⟨k + 1, by omega, by go_num, by rw [HC2.out], row_upto HRW.out HD.out.symm, hbr.setCell (p := ⟨S.heap.size, k, none⟩) (Nat.le_refl _) _⟩
        case measure => simp [intOf]; omega
      · have hz : dig 64 Y k = 0 := dig_zero_of_lt (Nat.lt_of_lt_of_le HYL.out (Nat.pow_le_pow_right (by decide) (by omega)))
        rw [hz] at hadd
        generalize hd1 : dig 64 X k = d1 at gA hadd
        have hadd : ∀ W, (callFunc 102 #[.int .u64 (d1 : Nat), .int .u64 0, .int .u64 (carryOf 64 X Y k : Nat)]).run Try.prog W = .ok (.value (.tuple #[.int .u64 (dig 64 (X + Y) k : Nat), .int .u64 (carryOf 64 X Y (k + 1) : Nat)])) W := hadd
        generalize hd3 : carryOf 64 X Y k = c1 at hadd hcl ⊢
        generalize hd4 : carryOf 64 X Y (k + 1) = c2 at hadd
        have HC2 := Lib.hid hd4
        generalize hd5 : dig 64 (X + Y) k = d3 at hadd
        have HD := Lib.hid hd5
        clear hd1 hd3 hd4 hd5 hz
        go_wp2_with fail
        go_roundw
        case rel => exact ⟨k + 1, by omega, by go_num, by rw [HC2.out], row_upto HRW.out HD.out.symm, hbr.setCell (p := ⟨S.heap.size, k, none⟩) (Nat.le_refl _) _⟩
        case measure => simp [intOf]; omega
    · obtain rfl : k = n := by omega
      have HTOP := Lib.hid (sum_top (k := 64) (by decide) HXL.out (Nat.lt_of_lt_of_le HYL.out (Nat.pow_le_pow_right (by decide) (by omega))))
      have HSUM := Lib.hid (sum_lt (k := 64) (by decide) HXL.out (Nat.lt_of_lt_of_le HYL.out (Nat.pow_le_pow_right (by decide) (by omega))))
      have r0 : wr.cell? ⟨S.heap.size, k, none⟩ = some (.int .u64 ((if k < k then dig 64 (X + Y) k else 0 : Nat) : Int)) := hrw.cell (by omega)
      rw [if_neg (by omega)] at r0
      have fr := hrw.frozen k
      have HRW := Lib.hid hrw
      clear hrw
      generalize hd3 : carryOf 64 X Y k = c1 at HTOP ⊢
      clear hd3
      go_wp2_with fail
      have hr2 := row_upto HRW.out HTOP.out.symm
      have hb2 := hbr.setCell (p := ⟨S.heap.size, k, none⟩) (Nat.le_refl _) (.int .u64 (c1 : Nat))
      refine (trim_any _ _ _ (X + Y) _ (Nat.le_refl _) (by unfold maxLen; omega) (Digs.of_row hr2 (Nat.le_refl _) (fun i hi => by rw [if_pos hi])) HSUM.out).mono ?_
      rintro e w4 ⟨v, rfl, ⟨A4, cap4, rfl, hl4, hm4, hd4⟩, hb4⟩
      have s4 := (blk_below S2.out hb2).below hb4 (by have := hb2.size; omega)
      have k4 : w4.cell? ⟨w.heap.size + 1 + 1, 0, none⟩ = some (.slice none 0 0) := s4.cell 0
      have f4 := s4.frozen 0
      have HD := Lib.hid (hd4.put s4 (.slice A4 (wl 64 (X + Y)) cap4))
      have hbb := (hbS.trans (hb2.mono (by omega))).trans (hb4.mono (by have := hb2.size; omega))
      have hle : w.heap.size ≤ w.heap.size + 1 + 1 := by omega
      clear hd4 g0 g1 r0 fr
      go_wp2
      exact bodyPost_ret (v := .agg #[.slice A4 (wl 64 (X + Y)) cap4]) (by simp [results, Try.results24, go_sem, k4]) rfl ⟨_, rfl, ⟨A4, cap4, rfl, hl4, hm4, HD.out⟩, hbb.setCell (p := ⟨w.heap.size + 1 + 1, 0, none⟩) hle _⟩
end Go.Proofs.Yteikhnmmkanndaa

/- The walk of addMul: a row's digits, and so often another number's. -/
namespace Go.Proofs.Yteikhnmmkanndaa
open Go.RowKit

/-- what is carried where x times y is added to T. -/
def mulCarry (k T x y i : Nat) : Nat := (T % 2 ^ (k * i) + x * (y % 2 ^ (k * i))) / 2 ^ (k * i)
theorem mulCarry_zero (k T x y : Nat) : mulCarry k T x y 0 = 0 := by unfold mulCarry; rw [Nat.mul_zero, Nat.pow_zero, Nat.mod_one, Nat.mod_one]; simp
theorem mulCarry_lt {k T x y i : Nat} (hx : x < 2 ^ k) : mulCarry k T x y i < 2 ^ k := by
  unfold mulCarry
  rw [Nat.div_lt_iff_lt_mul (Nat.two_pow_pos _)]
  have h1 := Nat.mod_lt T (Nat.two_pow_pos (k * i))
  have h2 := Nat.mod_lt y (Nat.two_pow_pos (k * i))
  generalize T % 2 ^ (k * i) = t at *
  generalize y % 2 ^ (k * i) = u at *
  generalize 2 ^ (k * i) = b at *
  generalize 2 ^ k = B at *
  have h3 : x * u ≤ (B - 1) * b := Nat.mul_le_mul (by omega) (by omega)
  have h4 : (B - 1) * b + b = B * b := by
    have h5 : B = (B - 1) + 1 := by omega
    conv => rhs; rw [h5, Nat.add_mul, Nat.one_mul]
  omega
theorem mul_div (k T x y i : Nat) : (T + x * y) / 2 ^ (k * i) = T / 2 ^ (k * i) + x * (y / 2 ^ (k * i)) + mulCarry k T x y i := by
  unfold mulCarry
  have h1 := Nat.div_add_mod T (2 ^ (k * i))
  have h2 := Nat.div_add_mod y (2 ^ (k * i))
  have hb := Nat.two_pow_pos (k * i)
  generalize T % 2 ^ (k * i) = t at *
  generalize y % 2 ^ (k * i) = u at *
  generalize T / 2 ^ (k * i) = a at *
  generalize y / 2 ^ (k * i) = c at *
  generalize 2 ^ (k * i) = b at *
  subst h1
  subst h2
  rw [show b * a + t + x * (b * c + u) = t + x * u + b * (a + x * c) by rw [Nat.mul_add x, Nat.mul_add b, Nat.mul_left_comm x b c]; omega]
  rw [Nat.add_mul_div_left _ _ hb]
  omega
theorem mul_dig (k T x y i : Nat) : dig k (T + x * y) i = (dig k T i + x * dig k y i + mulCarry k T x y i) % 2 ^ k := by
  unfold dig
  rw [mul_div]
  have h1 := Nat.div_add_mod (T / 2 ^ (k * i)) (2 ^ k)
  have h2 := Nat.div_add_mod (y / 2 ^ (k * i)) (2 ^ k)
  generalize T / 2 ^ (k * i) % 2 ^ k = t at *
  generalize y / 2 ^ (k * i) % 2 ^ k = u at *
  generalize T / 2 ^ (k * i) / 2 ^ k = a at *
  generalize y / 2 ^ (k * i) / 2 ^ k = c at *
  rw [← h1, ← h2]
  rw [show 2 ^ k * a + t + x * (2 ^ k * c + u) + mulCarry k T x y i = t + x * u + mulCarry k T x y i + 2 ^ k * (a + x * c) by rw [Nat.mul_add x, Nat.mul_add (2 ^ k), Nat.mul_left_comm x (2 ^ k) c]; omega]
  exact Nat.add_mul_mod_self_left _ _ _
theorem mulCarry_succ (k T x y i : Nat) : mulCarry k T x y (i + 1) = (dig k T i + x * dig k y i + mulCarry k T x y i) / 2 ^ k := by
  unfold mulCarry
  rw [mod_succ, mod_succ, pow_succ_mul, ← Nat.div_div_eq_div_mul]
  rw [show T % 2 ^ (k * i) + 2 ^ (k * i) * dig k T i + x * (y % 2 ^ (k * i) + 2 ^ (k * i) * dig k y i) = T % 2 ^ (k * i) + x * (y % 2 ^ (k * i)) + 2 ^ (k * i) * (dig k T i + x * dig k y i) by rw [Nat.mul_add x, Nat.mul_add (2 ^ (k * i)), Nat.mul_left_comm x]; omega]
  rw [Nat.add_mul_div_left _ _ (Nat.two_pow_pos _), Nat.add_comm]
/-- one step, as the code does it. -/
theorem mul_step (B p c t : Nat) (hB : 0 < B) : (t + p + c) % B = (t + (p % B + c) % B) % B ∧ (t + p + c) / B = p / B + (p % B + c) / B + (t + (p % B + c) % B) / B := by
  have h1 := Nat.div_add_mod p B
  have h2 := Nat.div_add_mod (p % B + c) B
  generalize p / B = hi at *
  generalize hl : p % B = lo at *
  generalize (lo + c) / B = c1 at *
  generalize (lo + c) % B = lo1 at *
  rw [show t + p + c = (t + lo1) + B * (hi + c1) by rw [Nat.mul_add]; omega]
  rw [Nat.add_mul_mod_self_left, Nat.add_mul_div_left _ _ hB]
  exact ⟨rfl, by omega⟩

set_option maxRecDepth 100000 in
set_option maxHeartbeats 4000000 in
theorem addmul_any (g o nt ct N : Nat) (B : Option Addr) (m cb : Nat) (f : Nat → Nat) (T x y : Nat) (w : World) (hrow : w.rowIs g 62 N (fun j => .int .u64 (f j : Nat))) (hT : ∀ j, j < m → f (o + j) = dig 64 T j) (hx : x < 2 ^ 64)
    (hN : o + m ≤ N) (hnt : m ≤ nt) (hm : m ≤ 1099511627776) (hB : Digs w B .u64 64 y m) (hne : ∀ b p, B = some ⟨b, p, none⟩ → 0 < m → b ≠ g) :
    Calls Try.prog 103 #[.slice (some ⟨g, o, none⟩) nt ct, .slice B m cb, .int .u64 (x : Nat)] w fun e w' => e = .returned (.int .u64 (mulCarry 64 T x y m : Nat)) ∧
      w'.rowIs g 62 N (fun j => .int .u64 ((if o ≤ j ∧ j < o + m then dig 64 (T + x * y) (j - o) else f j : Nat) : Int)) ∧ w.grownBy w' (some g) := by
  have HROW := Lib.hid hrow
  have HT := Lib.hid hT
  have HX := Lib.hid hx
  have HB := Lib.hid hB
  have HNE := Lib.hid hne
  clear hrow hT hx hB hne
  go_enter Try.func103, Try.ntmps103
  go_wp2_with fail
  go_loopw [7, 15] (fun v7 v15 wr => ∃ k : Nat, k ≤ m ∧ v15 = .int .i64 k ∧ v7 = .int .u64 (mulCarry 64 T x y k : Nat) ∧ wr.rowIs g 62 N (fun j => .int .u64 ((if o ≤ j ∧ j < o + k then dig 64 (T + x * y) (j - o) else f j : Nat) : Int)) ∧ w.grownBy wr (some g)) (fun _ v15 _ => m - (intOf v15).toNat)
  case atStart =>
    exact ⟨0, Nat.zero_le _, rfl, by rw [mulCarry_zero]; rfl, HROW.out.congr (fun j _ => by rw [if_neg (by omega)]), World.grownBy.refl _ _⟩
  case round =>
    obtain ⟨k, hk, rfl, rfl, hrw, hgr⟩ := hrel
    by_cases hlt : k < m
    · obtain ⟨bB, oB, rfl, hltB, hcB⟩ := HB.out k hlt
      have hnb := HNE.out bB oB rfl (by omega)
      have gB : wr.cell? ⟨bB, oB + k, none⟩ = some (.int .u64 (dig 64 y k : Nat)) := (World.cell?_of_block (hgr.block bB hltB (by simpa using hnb))).trans hcB
      have r0 : wr.cell? ⟨g, o + k, none⟩ = some (.int .u64 ((if o ≤ o + k ∧ o + k < o + k then dig 64 (T + x * y) (o + k - o) else f (o + k) : Nat) : Int)) := hrw.cell (by omega)
      rw [if_neg (by omega), HT.out k hlt] at r0
      have fr := hrw.frozen (o + k)
      have hc := mulCarry_lt (k := 64) (T := T) (y := y) (i := k) HX.out
      have hc' := mulCarry_lt (k := 64) (T := T) (y := y) (i := k + 1) HX.out
      have hmul := mul64_any x (dig 64 y k) HX.out (dig_lt 64 y k)
      obtain ⟨st1, st2⟩ := mul_step (2 ^ 64) (x * dig 64 y k) (mulCarry 64 T x y k) (dig 64 T k) (Nat.two_pow_pos 64)
      rw [← mul_dig] at st1
      rw [← mulCarry_succ] at st2
      have HRW := Lib.hid hrw
      clear hcB hrw hnb
      generalize hd1 : mulCarry 64 T x y k = c at hc st1 st2 ⊢
      generalize hd2 : mulCarry 64 T x y (k + 1) = c' at hc' st2
      have HC := Lib.hid hd2
      generalize hd3 : dig 64 T k = t at r0 st1 st2
      generalize hd4 : dig 64 (T + x * y) k = d at st1
      have HD := Lib.hid hd4
      generalize hd5 : dig 64 y k = yk at gB hmul st1 st2
      generalize hd6 : x * yk / 2 ^ 64 = hi at hmul st2
      generalize hd7 : x * yk % 2 ^ 64 = lo at hmul st1 st2
      have add1 := fun W => add64_run lo c 0 (by omega) W
      simp only [Nat.add_zero] at add1
      generalize hd8 : (lo + c) % 2 ^ 64 = lo1 at add1 st1 st2
      generalize hd9 : (lo + c) / 2 ^ 64 = c1 at add1 st2
      have add2 := fun W => add64_run t lo1 0 (by omega) W
      simp only [Nat.add_zero] at add2
      rw [← st1] at add2
      generalize hd10 : (t + lo1) / 2 ^ 64 = c2 at add2 st2
      have add1' : ∀ W, (callFunc 102 #[.int .u64 (lo : Nat), .int .u64 (c : Nat), .int .u64 0]).run Try.prog W = .ok (.value (.tuple #[.int .u64 (lo1 : Nat), .int .u64 (c1 : Nat)])) W := add1
      have add2' : ∀ W, (callFunc 102 #[.int .u64 (t : Nat), .int .u64 (lo1 : Nat), .int .u64 0]).run Try.prog W = .ok (.value (.tuple #[.int .u64 (d : Nat), .int .u64 (c2 : Nat)])) W := add2
      have hb1 : hi + c1 ≤ 18446744073709551615 := by omega
      have hb2 : hi + c1 + c2 ≤ 18446744073709551615 := by omega
      have HS := Lib.hid st2
      have HMUL := Lib.hid hmul
      clear hd1 hd2 hd3 hd4 hd5 hd6 hd7 hd8 hd9 hd10 st1 st2 add1 add2 hmul
      go_wp2_with fail
      refine (HMUL.out _).mono ?_
      rintro e w1 ⟨rfl, rfl⟩
      go_wp2_with fail
      go_roundw
      case rel =>
        refine ⟨k + 1, by omega, by go_num, ?_, ?_, only_setCell hgr (.inl rfl) _⟩
        · rw [HC.out, HS.out, Int.natCast_add, Int.natCast_add]
        · refine (HRW.out.set (o + k) (.int .u64 (d : Nat))).congr (fun j _ => ?_)
          by_cases h1 : j = o + k
          · subst h1
            rw [if_pos rfl, if_pos (by omega), Nat.add_sub_cancel_left, HD.out]
          · rw [if_neg h1]
            by_cases h2 : o ≤ j ∧ j < o + k
            · rw [if_pos h2, if_pos (by omega)]
            · rw [if_neg h2, if_neg (by omega)]
      case measure => simp [intOf]; omega
    · obtain rfl : k = m := by omega
      have HRW := Lib.hid hrw
      clear hrw
      go_wp2
      go_ret
      exact ⟨rfl, HRW.out, hgr⟩
end Go.Proofs.Yteikhnmmkanndaa

/- Plain laws: differences digit by digit, products as subtracted, guesses of a quotient's digit. -/
namespace Go.Proofs.Yteikhnmmkanndaa

theorem two_le_pow {k : Nat} (hk : 0 < k) : 2 ≤ 2 ^ k := by
  have := Nat.pow_le_pow_right (show 0 < 2 by decide) hk
  simpa using this

/-- what is borrowed where z is told as (z + y) less y: what z and y carry. -/
theorem sub_step {B s dz dy c : Nat} (hz : dz < B) (hs : s = dz + dy + c) (hd : dy + c ≤ B) : dz = (s % B + B - dy - c) % B ∧ s / B = if s % B < dy + c then 1 else 0 := by
  rcases Nat.lt_or_ge s B with h | h
  · rw [Nat.mod_eq_of_lt h, Nat.div_eq_of_lt h, if_neg (by omega)]
    refine ⟨?_, rfl⟩
    rw [show s + B - dy - c = dz + B by omega, Nat.add_mod_right, Nat.mod_eq_of_lt hz]
  · have h1 : s % B = s - B := by
      rw [Nat.mod_eq_sub_mod h, Nat.mod_eq_of_lt (by omega)]
    have h2 : s / B = 1 := by
      rw [Nat.div_eq_sub_div (by omega) h, Nat.div_eq_of_lt (by omega)]
    rw [h1, h2, if_pos (by omega)]
    refine ⟨?_, rfl⟩
    rw [show s - B + B - dy - c = dz by omega, Nat.mod_eq_of_lt hz]
theorem sub_dig {k : Nat} (z y i : Nat) : dig k z i = (dig k (z + y) i + 2 ^ k - dig k y i - carryOf k z y i) % 2 ^ k := by
  have h1 := dig_lt k z i
  have h2 := dig_lt k y i
  have h3 := carry_le k z y i
  rw [sum_dig]
  exact (sub_step h1 rfl (by omega)).1
theorem borrow_succ {k : Nat} (z y i : Nat) : carryOf k z y (i + 1) = if dig k (z + y) i < dig k y i + carryOf k z y i then 1 else 0 := by
  have h1 := dig_lt k z i
  have h2 := dig_lt k y i
  have h3 := carry_le k z y i
  rw [sum_dig, carry_succ]
  exact (sub_step h1 rfl (by omega)).2
theorem carry_top {k z y n : Nat} (hz : z < 2 ^ (k * n)) (hy : y < 2 ^ (k * n)) : carryOf k z y n = (z + y) / 2 ^ (k * n) := by
  unfold carryOf
  rw [Nat.mod_eq_of_lt hz, Nat.mod_eq_of_lt hy]

/-- what is left of p where y is taken away, to the base of n digits. -/
def less (k n p y : Nat) : Nat := if y ≤ p then p - y else p + 2 ^ (k * n) - y
theorem less_lt {k n p y : Nat} (hp : p < 2 ^ (k * n)) : less k n p y < 2 ^ (k * n) := by
  unfold less
  split <;> omega
theorem less_add {k n p y : Nat} (hy : y < 2 ^ (k * n)) : less k n p y + y = p ∨ less k n p y + y = p + 2 ^ (k * n) := by
  unfold less
  split
  · exact .inl (by omega)
  · exact .inr (by omega)
theorem less_dig {k n p y i : Nat} (hi : i < n) (hy : y < 2 ^ (k * n)) : dig k (less k n p y + y) i = dig k p i := by
  rcases less_add (k := k) (p := p) hy with h | h
  · rw [h]
  · rw [h, ← dig_mod (x := p + 2 ^ (k * n)) hi, Nat.add_mod_right, dig_mod hi]
theorem less_over {k n p y : Nat} (hp : p < 2 ^ (k * n)) (hy : y < 2 ^ (k * n)) : carryOf k (less k n p y) y n = if p < y then 1 else 0 := by
  rw [carry_top (less_lt hp) hy]
  have hB := Nat.two_pow_pos (k * n)
  unfold less
  split
  · rename_i h
    rw [if_neg (by omega), show p - y + y = p by omega, Nat.div_eq_of_lt hp]
  · rename_i h
    rw [if_pos (by omega), show p + 2 ^ (k * n) - y + y = p + 2 ^ (k * n) by omega, Nat.add_div_right _ hB, Nat.div_eq_of_lt hp]

/-- the digit that a guess begins with, and each one that follows: none is below what divides. -/
theorem guess_first {B q top next u2 u1 u0 : Nat} (ht : 0 < top) (h0 : u0 < B) (h : q * (top * B + next) ≤ (u2 * B + u1) * B + u0) : q ≤ (u2 * B + u1) / top := by
  rw [Nat.le_div_iff_mul_le ht]
  have h1 : q * top * B ≤ q * (top * B + next) := by
    rw [Nat.mul_assoc]
    exact Nat.mul_le_mul_left _ (by omega)
  rcases Nat.lt_or_ge (u2 * B + u1) (q * top) with h2 | h2
  · have h3 : (u2 * B + u1 + 1) * B ≤ q * top * B := Nat.mul_le_mul_right _ h2
    rw [Nat.add_mul, Nat.one_mul] at h3
    omega
  · exact h2
theorem guess_next {B q x top next left s u0 : Nat} (h : q * (top * B + next) ≤ s * B + u0) (hx : x * top + left = s) (hq : q ≤ x) (hn : left * B + u0 < x * next) : q ≤ x - 1 := by
  rcases Nat.lt_or_ge q x with h1 | h1
  · omega
  · obtain rfl : q = x := by omega
    exfalso
    rw [← hx, Nat.mul_add, Nat.add_mul, ← Nat.mul_assoc] at h
    omega
/-- what the three highest digits of a number say of a multiple that lies in it. -/
theorem guess_of {U d q n : Nat} (h : q * d ≤ U) : q * (d / 2 ^ (64 * n)) ≤ U / 2 ^ (64 * n) := by
  rw [Nat.le_div_iff_mul_le (Nat.two_pow_pos _), Nat.mul_assoc]
  exact Nat.le_trans (Nat.mul_le_mul_left _ (Nat.div_mul_le_self _ _)) h
theorem top_two {d n : Nat} (h : d < 2 ^ (64 * (n + 2))) : d / 2 ^ (64 * n) = dig 64 d (n + 1) * 2 ^ 64 + dig 64 d n := by
  rw [div_succ 64 d n, dig_top (i := n + 1) h]
theorem top_three {d n : Nat} (h : d < 2 ^ (64 * (n + 3))) : d / 2 ^ (64 * n) = (dig 64 d (n + 2) * 2 ^ 64 + dig 64 d (n + 1)) * 2 ^ 64 + dig 64 d n := by
  rw [div_succ 64 d n, top_two (n := n + 1) h]
end Go.Proofs.Yteikhnmmkanndaa

/- The walk of Mul. -/
namespace Go.Proofs.Yteikhnmmkanndaa
open Go.RowKit

/-- the product of y with x's k lowest digits. -/
def low (x y k : Nat) : Nat := x % 2 ^ (64 * k) * y
theorem low_zero (x y : Nat) : low x y 0 = 0 := by unfold low; rw [Nat.mul_zero, Nat.pow_zero, Nat.mod_one, Nat.zero_mul]
theorem low_succ (x y k : Nat) : low x y (k + 1) = low x y k + 2 ^ (64 * k) * (dig 64 x k * y) := by
  unfold low
  rw [mod_succ, Nat.add_mul, Nat.mul_assoc]
theorem low_lt {x y k m : Nat} (hy : y < 2 ^ (64 * m)) : low x y k < 2 ^ (64 * (k + m)) := by
  unfold low
  rw [Nat.mul_add, Nat.pow_add]
  exact Nat.mul_lt_mul'' (Nat.mod_lt _ (Nat.two_pow_pos _)) hy
theorem low_digs {x y k m : Nat} (hy : y < 2 ^ (64 * m)) (j : Nat) :
    (if j = k + m then mulCarry 64 (low x y k / 2 ^ (64 * k)) (dig 64 x k) y m else if k ≤ j ∧ j < k + m then dig 64 (low x y k / 2 ^ (64 * k) + dig 64 x k * y) (j - k) else dig 64 (low x y k) j) = dig 64 (low x y (k + 1)) j := by
  have hq : low x y (k + 1) / 2 ^ (64 * k) = low x y k / 2 ^ (64 * k) + dig 64 x k * y := by
    rw [low_succ, Nat.add_mul_div_left _ _ (Nat.two_pow_pos _)]
  have hT : low x y k / 2 ^ (64 * k) < 2 ^ (64 * m) := by
    rw [Nat.div_lt_iff_lt_mul (Nat.two_pow_pos _), ← Nat.pow_add, ← Nat.mul_add, Nat.add_comm m k]
    exact low_lt hy
  by_cases h1 : j = k + m
  · rw [if_pos h1]
    subst h1
    rw [← dig_div, hq]
    have hc := mulCarry_lt (k := 64) (T := low x y k / 2 ^ (64 * k)) (y := y) (i := m) (dig_lt 64 x k)
    unfold mulCarry at hc ⊢
    rw [Nat.mod_eq_of_lt hT, Nat.mod_eq_of_lt hy] at hc ⊢
    unfold dig at hc ⊢
    exact (Nat.mod_eq_of_lt hc).symm
  · rw [if_neg h1]
    by_cases h2 : k ≤ j ∧ j < k + m
    · rw [if_pos h2, ← hq, dig_div, show k + (j - k) = j by omega]
    · rw [if_neg h2]
      rcases Nat.lt_or_ge j k with h3 | h3
      · rw [← dig_mod h3, ← dig_mod (x := low x y (k + 1)) h3, low_succ, Nat.add_mul_mod_self_left]
      · rw [dig_zero_of_lt, dig_zero_of_lt]
        · exact Nat.lt_of_lt_of_le (low_lt hy) (Nat.pow_le_pow_right (by decide) (by omega))
        · exact Nat.lt_of_lt_of_le (low_lt hy) (Nat.pow_le_pow_right (by decide) (by omega))

set_option maxRecDepth 100000 in
set_option maxHeartbeats 4000000 in
theorem nmul_any (va vb : Value) (x y : Nat) (w : World) (ha : N64 w va x) (hb : N64 w vb y) (hx : wl 64 x ≤ 1099511627776) (hy : wl 64 y ≤ 1099511627776) :
    Calls Try.prog 25 #[va, vb] w fun e w' => ∃ v, e = .returned v ∧ N64 w' v (x * y) ∧ Below w.heap.size w w' := by
  obtain ⟨A, ca, rfl, hla, hma, hda⟩ := ha
  obtain ⟨B, cb, rfl, hlb, hmb, hdb⟩ := hb
  have HDA := Lib.hid hda
  have HDB := Lib.hid hdb
  have HXL := Lib.hid (wl_lt (k := 64) (by decide) x)
  have HYL := Lib.hid (wl_lt (k := 64) (by decide) y)
  clear hda hdb
  unfold maxLen at hma hmb
  obtain ⟨n, hn⟩ : ∃ n, wl 64 x = n := ⟨_, rfl⟩
  obtain ⟨m, hm⟩ : ∃ m, wl 64 y = m := ⟨_, rfl⟩
  rw [hn] at hla hx HDA HXL ⊢
  rw [hm] at hlb hy HDB HYL ⊢
  clear hn hm
  have hmk := run_make_row' (P := Try.prog) 24 62 (.int .u64 0) 8 Try.underlying24 Try.info62 rfl .i64 .i64 (n + m) (by omega) (by omega)
  simp only [Int.natCast_add] at hmk
  have e0 := ((Blk.new w 26 #[.slice A n ca]).alloc (.cells #[.slice B m cb] 26)).alloc (.cells #[.slice none 0 0] 26)
  have e1 := (Blk.new (w.alloc (.cells #[.slice A n ca] 26)) 26 #[.slice B m cb]).alloc (.cells #[.slice none 0 0] 26)
  have e2 := Blk.new ((w.alloc (.cells #[.slice A n ca] 26)).alloc (.cells #[.slice B m cb] 26)) 26 #[.slice none 0 0]
  simp only [World.size_alloc] at e1 e2
  have hbS := cba (cba (cba (Below.refl _ w) (.cells #[.slice A n ca] 26)) (.cells #[.slice B m cb] 26)) (.cells #[.slice none 0 0] 26)
  have hsz0 : w.heap.size + 3 ≤ (((w.alloc (.cells #[.slice A n ca] 26)).alloc (.cells #[.slice B m cb] 26)).alloc (.cells #[.slice none 0 0] 26)).heap.size := by simp
  go_enter Try.func25, Try.ntmps25
  go_upto_region 1 with (fail)
  obtain ⟨S, hS⟩ : ∃ S, ((w.alloc (.cells #[.slice A n ca] 26)).alloc (.cells #[.slice B m cb] 26)).alloc (.cells #[.slice none 0 0] 26) = S := ⟨_, rfl⟩
  rw [hS] at e0 e1 e2 hbS hsz0 ⊢
  clear hS
  have hrow := World.rowIs_made S (.int .u64 0) (n + m) 62
  have q0 : S.cell? ⟨w.heap.size, 0, none⟩ = some (.slice A n ca) := e0.cell 0
  have q1 : S.cell? ⟨w.heap.size + 1, 0, none⟩ = some (.slice B m cb) := e1.cell 0
  have q0' : (S.alloc (.cells (madeCells #[.int .u64 0] (n + m)) 62)).cell? ⟨w.heap.size, 0, none⟩ = some (.slice A n ca) := (e0.alloc _).cell 0
  have HROW := Lib.hid hrow
  have S1 := Lib.hid e1
  have S2 := Lib.hid e2
  clear hrow e0 e1 e2
  go_wp2_with fail
  clear q0 q0' q1
  go_loopw [19] (fun v19 wr => ∃ k : Nat, k ≤ n ∧ v19 = .int .i64 k ∧ wr.rowIs S.heap.size 62 (n + m) (fun j => .int .u64 (dig 64 (low x y k) j : Nat)) ∧ Below S.heap.size S wr) (fun v19 _ => n - (intOf v19).toNat)
  case atStart =>
    exact ⟨0, Nat.zero_le _, rfl, HROW.out.congr (fun j _ => by rw [low_zero, dig_zero_of_lt (Nat.two_pow_pos _)]; rfl), cba (Below.refl _ _) _⟩
  case round =>
    obtain ⟨k, hk, rfl, hrw, hbr⟩ := hrel
    have hg1 : wr.cell? ⟨w.heap.size + 1, 0, none⟩ = some (.slice B m cb) := (blk_below S1.out hbr).cell 0
    by_cases hlt : k < n
    · obtain ⟨bA, oA, rfl, hltA, hcA⟩ := HDA.out k hlt
      have gA : wr.cell? ⟨bA, oA + k, none⟩ = some (.int .u64 (dig 64 x k : Nat)) := (hbr.cell (p := ⟨bA, oA + k, none⟩) (show bA < S.heap.size by omega)).trans ((hbS.cell (p := ⟨bA, oA + k, none⟩) hltA).trans hcA)
      clear hcA
      have HNXT := Lib.hid (fun j => low_digs (x := x) (k := k) HYL.out j)
      have haddm := addmul_any S.heap.size k (n + m - k) (n + m - k) (n + m) B m cb (dig 64 (low x y k)) (low x y k / 2 ^ (64 * k)) (dig 64 x k) y wr.drew hrw.drew (fun j _ => (dig_div _ _ _ _).symm) (dig_lt 64 x k) (by omega) (by omega) hy
        ((HDB.out.below hbS).below (n := m) hbr.drew) (fun b p e hm0 => by
          obtain ⟨b', o', e', hlt', _⟩ := HDB.out 0 hm0
          rw [e] at e'
          cases e'
          omega)
      have HADD := Lib.hid haddm
      have fr := hrw.frozen (k + m)
      have HRW := Lib.hid hrw
      have i0 : (0 : Int) ≤ (k : Int) := by omega
      have i6 : ¬ (n + m = k) := by omega
      have i1 : (k : Int) ≤ (n : Int) + (m : Int) := by omega
      have i2 : (k : Int) + (m : Int) < (n : Int) + (m : Int) := by omega
      have i3 : (0 : Int) ≤ (k : Int) + (m : Int) := by omega
      have i4 : IntKind.i64.wrap ((k : Int) + (m : Int)) = (k : Int) + (m : Int) := IntWalk.i64_in _ (by omega)
      have i5 : ((k : Int) + (m : Int)).toNat = k + m := by omega
      generalize hd1 : dig 64 x k = xk at gA HADD
      have HXK := Lib.hid hd1
      clear haddm hrw hd1
      go_wp2_with fail
      have HG1 := Lib.hid (blk_below S1.out hbr)
      have hne1 : w.heap.size + 1 ≠ S.heap.size := by omega
      go_region_held3 (fun w' => w'.cell? ⟨w.heap.size + 1, 0, none⟩ = some (.slice B m cb)) ((first | exact HG1.out.drew.cell 0 | exact b2.cell 0 | exact (b2.far (p := ⟨S.heap.size, k + m, none⟩) hne1 _).cell 0)) (first | (go_at_call 103; (with_reducible refine HADD.out.mono ?_); rintro e w2 ⟨rfl, hr2, hg2⟩; have b2 := HG1.out.drew.grown hg2 (by simpa using hne1); have rr := hr2.cell (i := k + m) (by omega); have fr2 := hr2.frozen (k + m)))
      have HR2 := Lib.hid hr2
      have hbb2 := (below_drewN hbr 1).grown hg2 (by have := hbr.size; exact this) (fun z e => by cases e; exact Nat.le_refl _)
      clear hr2 rr fr2 fr i1 i2 i3 i4 i5 i6
      go_wp2
      go_roundw
      case rel =>
        refine ⟨k + 1, by omega, by go_num, ?_, hbb2.setCell (p := ⟨S.heap.size, k + m, none⟩) (Nat.le_refl _) _⟩
        refine (HR2.out.set (k + m) (.int .u64 (mulCarry 64 (low x y k / 2 ^ (64 * k)) xk y m : Nat))).congr (fun j _ => ?_)
        rw [← HNXT.out j, HXK.out]
        by_cases h1 : j = k + m
        · rw [if_pos h1, if_pos h1]
        · rw [if_neg h1, if_neg h1]
      case measure => simp [intOf]; omega
    · obtain rfl : k = n := by omega
      have HLOW := Lib.hid (show low x y k = x * y by unfold low; rw [Nat.mod_eq_of_lt HXL.out])
      have HLT := Lib.hid (low_lt (x := x) (k := k) HYL.out)
      rw [HLOW.out] at HLT
      have HRW := Lib.hid hrw
      clear hrw
      go_wp2_with fail
      refine (trim_any _ _ _ (x * y) _ (Nat.le_refl _) (by unfold maxLen; omega) (Digs.of_row HRW.out (Nat.le_refl _) (fun i hi => by rw [HLOW.out])) HLT.out).mono ?_
      rintro e w4 ⟨v, rfl, ⟨A4, cap4, rfl, hl4, hm4, hd4⟩, hb4⟩
      have s4 := (blk_below S2.out hbr).below hb4 (by have := hbr.size; omega)
      have k4 : w4.cell? ⟨w.heap.size + 1 + 1, 0, none⟩ = some (.slice none 0 0) := s4.cell 0
      have f4 := s4.frozen 0
      have HD := Lib.hid (hd4.put s4 (.slice A4 (wl 64 (x * y)) cap4))
      have hbb := (hbS.trans (hbr.mono (by omega))).trans (hb4.mono (by have := hbr.size; omega))
      have hle : w.heap.size ≤ w.heap.size + 1 + 1 := by omega
      clear hd4 hg1
      go_wp2
      exact bodyPost_ret (v := .agg #[.slice A4 (wl 64 (x * y)) cap4]) (by simp [results, Try.results25, go_sem, k4]) rfl ⟨_, rfl, ⟨A4, cap4, rfl, hl4, hm4, HD.out⟩, hbb.setCell (p := ⟨w.heap.size + 1 + 1, 0, none⟩) hle _⟩
end Go.Proofs.Yteikhnmmkanndaa

/- The walk of Sub. -/
namespace Go.Proofs.Yteikhnmmkanndaa
open Go.RowKit

/-- Sub's borrow, as the machine's own entry tells it. -/
theorem sub64_dig (z y i : Nat) (w : World) : (callFunc 119 #[.int .u64 (dig 64 (z + y) i : Nat), .int .u64 (dig 64 y i : Nat), .int .u64 (carryOf 64 z y i : Nat)]).run Try.prog w =
    .ok (.value (.tuple #[.int .u64 (dig 64 z i : Nat), .int .u64 (carryOf 64 z y (i + 1) : Nat)])) w := by
  rw [sub64_run _ _ _ (carry_le 64 z y i), borrow_succ, ← sub_dig]

set_option maxRecDepth 100000 in
set_option maxHeartbeats 4000000 in
theorem nsub_any (va vb : Value) (z y : Nat) (w : World) (ha : N64 w va (z + y)) (hb : N64 w vb y) (hx : wl 64 (z + y) ≤ 1099511627776) :
    Calls Try.prog 58 #[va, vb] w fun e w' => ∃ v, e = .returned (.tuple #[v, .int .i64 0]) ∧ N64 w' v z ∧ Below w.heap.size w w' := by
  have HA := Lib.hid ha
  have HB := Lib.hid hb
  have hwl : wl 64 y ≤ wl 64 (z + y) := wl_mono (by decide) (by omega)
  obtain ⟨A, ca, rfl, hla, hma, hda⟩ := ha
  obtain ⟨B, cb, rfl, hlb, hmb, hdb⟩ := hb
  have HDA := Lib.hid hda
  have HDB := Lib.hid hdb
  have HXL := Lib.hid (wl_lt (k := 64) (by decide) (z + y))
  have HYL := Lib.hid (wl_lt (k := 64) (by decide) y)
  have hc0 : (0 : Int) ≤ cmpN (z + y) y := by
    rcases Nat.eq_zero_or_pos z with h | h
    · rw [h, Nat.zero_add, cmpN_self]; decide
    · rw [cmpN_gt (by omega)]; decide
  clear hda hdb
  unfold maxLen at hma hmb
  obtain ⟨n, hn⟩ : ∃ n, wl 64 (z + y) = n := ⟨_, rfl⟩
  obtain ⟨m, hm⟩ : ∃ m, wl 64 y = m := ⟨_, rfl⟩
  rw [hn] at hwl hla hx HDA HXL HA
  rw [hm] at hwl hlb HDB HYL HB
  rw [hn, hm]
  obtain ⟨cm, hcm⟩ : ∃ cm, cmpN (z + y) y = cm := ⟨_, rfl⟩
  rw [hcm] at hc0
  have HCM := Lib.hid hcm
  clear hn hm hcm
  have hmk := run_make_row' (P := Try.prog) 24 62 (.int .u64 0) 8 Try.underlying24 Try.info62 rfl .i64 .i64 n (by omega) (by omega)
  have e0 := ((Blk.new w 26 #[.slice A n ca]).alloc (.cells #[.slice B m cb] 26)).alloc (.cells #[.slice none 0 0] 26)
  have e1 := (Blk.new (w.alloc (.cells #[.slice A n ca] 26)) 26 #[.slice B m cb]).alloc (.cells #[.slice none 0 0] 26)
  have e2 := Blk.new ((w.alloc (.cells #[.slice A n ca] 26)).alloc (.cells #[.slice B m cb] 26)) 26 #[.slice none 0 0]
  simp only [World.size_alloc] at e1 e2
  have hb0 := cba (cba (cba (Below.refl _ w) (.cells #[.slice A n ca] 26)) (.cells #[.slice B m cb] 26)) (.cells #[.slice none 0 0] 26)
  have hsz0 : w.heap.size + 3 ≤ (((w.alloc (.cells #[.slice A n ca] 26)).alloc (.cells #[.slice B m cb] 26)).alloc (.cells #[.slice none 0 0] 26)).heap.size := by simp
  go_enter Try.func58, Try.ntmps58
  go_wp2_with fail
  obtain ⟨X0, hX0⟩ : ∃ X0, ((w.alloc (.cells #[.slice A n ca] 26)).alloc (.cells #[.slice B m cb] 26)).alloc (.cells #[.slice none 0 0] 26) = X0 := ⟨_, rfl⟩
  rw [hX0] at e0 e1 e2 hb0 hsz0 ⊢
  clear hX0
  refine (ncmp_any _ _ _ _ _ (HA.out.below hb0) (HB.out.below hb0)).mono ?_
  rintro e S ⟨rfl, hb1⟩
  rw [HCM.out]
  have s0 := blk_below e0 hb1
  have s1 := blk_below e1 hb1
  have s2 := blk_below e2 hb1
  have hbS := cbt hb0 hb1
  have hg : w.heap.size + 3 ≤ S.heap.size := by have := hb1.size; omega
  clear e0 e1 e2
  have hrow := World.rowIs_made S (.int .u64 0) n 62
  have q0 : S.cell? ⟨w.heap.size, 0, none⟩ = some (.slice A n ca) := s0.cell 0
  have q0' : (S.alloc (.cells (madeCells #[.int .u64 0] n) 62)).cell? ⟨w.heap.size, 0, none⟩ = some (.slice A n ca) := (s0.alloc _).cell 0
  have HROW := Lib.hid hrow
  have S0 := Lib.hid s0
  have S1 := Lib.hid s1
  have S2 := Lib.hid s2
  clear hrow s0 s1 s2 hb0 hb1 hsz0
  go_wp2_with fail
  clear q0 q0'
  go_loopw [7, 22] (fun v7 v22 wr => ∃ k : Nat, k ≤ n ∧ v22 = .int .i64 k ∧ v7 = .int .u64 (carryOf 64 z y k : Nat) ∧ wr.rowIs S.heap.size 62 n (fun j => .int .u64 ((if j < k then dig 64 z j else 0 : Nat) : Int)) ∧
    Below S.heap.size S wr) (fun _ v22 _ => n - (intOf v22).toNat)
  case atStart =>
    exact ⟨0, Nat.zero_le _, rfl, by rw [carry_zero]; rfl, HROW.out.congr (fun j _ => by simp), cba (Below.refl _ _) _⟩
  case round =>
    obtain ⟨k, hk, rfl, rfl, hrw, hbr⟩ := hrel
    have g0 : wr.cell? ⟨w.heap.size, 0, none⟩ = some (.slice A n ca) := (blk_below S0.out hbr).cell 0
    have g1 : wr.cell? ⟨w.heap.size + 1, 0, none⟩ = some (.slice B m cb) := (blk_below S1.out hbr).cell 0
    by_cases hlt : k < n
    · obtain ⟨bA, oA, rfl, hltA, hcA⟩ := HDA.out k hlt
      have gA : wr.cell? ⟨bA, oA + k, none⟩ = some (.int .u64 (dig 64 (z + y) k : Nat)) := (hbr.cell (p := ⟨bA, oA + k, none⟩) (show bA < S.heap.size by omega)).trans ((hbS.cell (p := ⟨bA, oA + k, none⟩) hltA).trans hcA)
      have r0 : wr.cell? ⟨S.heap.size, k, none⟩ = some (.int .u64 ((if k < k then dig 64 z k else 0 : Nat) : Int)) := hrw.cell (by omega)
      rw [if_neg (by omega)] at r0
      have fr := hrw.frozen k
      have hsub := sub64_dig z y k
      have HRW := Lib.hid hrw
      clear hcA hrw
      by_cases hkm : k < m
      · obtain ⟨bB, oB, rfl, hltB, hcB⟩ := HDB.out k hkm
        have gB : wr.cell? ⟨bB, oB + k, none⟩ = some (.int .u64 (dig 64 y k : Nat)) := (hbr.cell (p := ⟨bB, oB + k, none⟩) (show bB < S.heap.size by omega)).trans ((hbS.cell (p := ⟨bB, oB + k, none⟩) hltB).trans hcB)
        clear hcB
        generalize hd1 : dig 64 (z + y) k = d1 at gA hsub
        generalize hd2 : dig 64 y k = d2 at gB hsub
        generalize hd3 : carryOf 64 z y k = c1 at hsub ⊢
        generalize hd4 : carryOf 64 z y (k + 1) = c2 at hsub
        have HC2 := Lib.hid hd4
        generalize hd5 : dig 64 z k = d3 at hsub
        have HD := Lib.hid hd5
        clear hd1 hd2 hd3 hd4 hd5
        go_wp2_with fail
        go_roundw
        case rel => exact ⟨k + 1, by omega, by go_num, by rw [HC2.out], row_upto HRW.out HD.out.symm, hbr.setCell (p := ⟨S.heap.size, k, none⟩) (Nat.le_refl _) _⟩
        case measure => simp [intOf]; omega
      · have hz : dig 64 y k = 0 := dig_zero_of_lt (Nat.lt_of_lt_of_le HYL.out (Nat.pow_le_pow_right (by decide) (by omega)))
        rw [hz] at hsub
        have hsub : ∀ W, (callFunc 119 #[.int .u64 (dig 64 (z + y) k : Nat), .int .u64 0, .int .u64 (carryOf 64 z y k : Nat)]).run Try.prog W = .ok (.value (.tuple #[.int .u64 (dig 64 z k : Nat), .int .u64 (carryOf 64 z y (k + 1) : Nat)])) W := hsub
        generalize hd1 : dig 64 (z + y) k = d1 at gA hsub
        generalize hd3 : carryOf 64 z y k = c1 at hsub ⊢
        generalize hd4 : carryOf 64 z y (k + 1) = c2 at hsub
        have HC2 := Lib.hid hd4
        generalize hd5 : dig 64 z k = d3 at hsub
        have HD := Lib.hid hd5
        clear hd1 hd3 hd4 hd5 hz
        go_wp2_with fail
        go_roundw
        case rel => exact ⟨k + 1, by omega, by go_num, by rw [HC2.out], row_upto HRW.out HD.out.symm, hbr.setCell (p := ⟨S.heap.size, k, none⟩) (Nat.le_refl _) _⟩
        case measure => simp [intOf]; omega
    · obtain rfl : k = n := by omega
      have HLT := Lib.hid (Nat.lt_of_le_of_lt (show z ≤ z + y by omega) HXL.out)
      have HRW := Lib.hid hrw
      clear hrw
      go_wp2_with fail
      refine (trim_any _ _ _ z _ (Nat.le_refl _) (by unfold maxLen; omega) (Digs.of_row HRW.out (Nat.le_refl _) (fun i hi => by rw [if_pos hi])) HLT.out).mono ?_
      rintro e w4 ⟨v, rfl, ⟨A4, cap4, rfl, hl4, hm4, hd4⟩, hb4⟩
      have s4 := (blk_below S2.out hbr).below hb4 (by have := hbr.size; omega)
      have k4 : w4.cell? ⟨w.heap.size + 1 + 1, 0, none⟩ = some (.slice none 0 0) := s4.cell 0
      have f4 := s4.frozen 0
      have HD := Lib.hid (hd4.put s4 (.slice A4 (wl 64 z) cap4))
      have hbb := (hbS.trans (hbr.mono (by omega))).trans (hb4.mono (by have := hbr.size; omega))
      have hle : w.heap.size ≤ w.heap.size + 1 + 1 := by omega
      clear hd4 g0 g1
      go_wp2
      exact bodyPost_ret (v := .tuple #[.agg #[.slice A4 (wl 64 z) cap4], .int .i64 0]) (by simp [results, Try.results58, go_sem, k4]) rfl ⟨_, rfl, ⟨A4, cap4, rfl, hl4, hm4, HD.out⟩, hbb.setCell (p := ⟨w.heap.size + 1 + 1, 0, none⟩) hle _⟩
set_option maxRecDepth 100000 in
set_option maxHeartbeats 4000000 in
theorem nsub_no (va vb : Value) (x y : Nat) (w : World) (ha : N64 w va x) (hb : N64 w vb y) (hx : x < y) :
    Calls Try.prog 58 #[va, vb] w fun e w' => ∃ v, e = .returned (.tuple #[v, .int .i64 8]) ∧ N64 w' v 0 ∧ Below w.heap.size w w' := by
  have HA := Lib.hid ha
  have HB := Lib.hid hb
  obtain ⟨A, ca, rfl, hla, hma, hda⟩ := ha
  obtain ⟨B, cb, rfl, hlb, hmb, hdb⟩ := hb
  have HCM := Lib.hid (cmpN_lt hx)
  clear hda hdb hx
  unfold maxLen at hma hmb
  obtain ⟨n, hn⟩ : ∃ n, wl 64 x = n := ⟨_, rfl⟩
  obtain ⟨m, hm⟩ : ∃ m, wl 64 y = m := ⟨_, rfl⟩
  rw [hn] at hla HA
  rw [hm] at hlb HB
  rw [hn, hm]
  clear hn hm
  have e2 := Blk.new ((w.alloc (.cells #[.slice A n ca] 26)).alloc (.cells #[.slice B m cb] 26)) 26 #[.slice none 0 0]
  simp only [World.size_alloc] at e2
  have hb0 := cba (cba (cba (Below.refl _ w) (.cells #[.slice A n ca] 26)) (.cells #[.slice B m cb] 26)) (.cells #[.slice none 0 0] 26)
  go_enter Try.func58, Try.ntmps58
  go_wp2_with fail
  obtain ⟨X0, hX0⟩ : ∃ X0, ((w.alloc (.cells #[.slice A n ca] 26)).alloc (.cells #[.slice B m cb] 26)).alloc (.cells #[.slice none 0 0] 26) = X0 := ⟨_, rfl⟩
  rw [hX0] at e2 hb0 ⊢
  clear hX0
  refine (ncmp_any _ _ _ _ _ (HA.out.below hb0) (HB.out.below hb0)).mono ?_
  rintro e S ⟨rfl, hb1⟩
  rw [HCM.out]
  have s2 := blk_below e2 hb1
  have hbS := cbt hb0 hb1
  have k2 : S.cell? ⟨w.heap.size + 1 + 1, 0, none⟩ = some (.slice none 0 0) := s2.cell 0
  have f2 := s2.frozen 0
  have hle : w.heap.size ≤ w.heap.size + 1 + 1 := by omega
  go_wp2
  exact bodyPost_ret (v := .tuple #[.agg #[.slice none 0 0], .int .i64 8]) (by simp [results, Try.results58, go_sem, k2]) rfl ⟨_, rfl, N64.zero _, hbS.setCell (p := ⟨w.heap.size + 1 + 1, 0, none⟩) hle _⟩
end Go.Proofs.Yteikhnmmkanndaa
