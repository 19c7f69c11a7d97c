/- Laid together by merge.py out of: Ls RefA RefB RefC RefW. -/
import Derived.Test.YteikhnmmkanndaaP0
import Derived.Test.YteikhnmmkanndaaM1
import Derived.Test.YteikhnmmkanndaaPq
import Derived.Test.YteikhnmmkanndaaPg
import Derived.Test.YteikhnmmkanndaaPu
import Derived.Test.YteikhnmmkanndaaPt
import Derived.Test.YteikhnmmkanndaaPl
import Derived.Test.YteikhnmmkanndaaPb
/- Lists of digits: plain laws. -/
namespace Go.Proofs.Yteikhnmmkanndaa
open Go.RowKit Go.Proofs.YteikhnmmkanndaaW.PrintWords

theorem w64 {n : Int} (h0 : -9223372036854775808 ≤ n) (h1 : n ≤ 9223372036854775807) : wrap64 n = n := by unfold wrap64; omega
theorem w64n {n : Int} {m : Nat} (h : n = (m : Int)) (h1 : m ≤ 9223372036854775807) : wrap64 n = (m : Int) := by rw [h]; exact w64 (by omega) (by omega)
/-- n numbers. -/
def fl (f : Nat → Nat) (n : Nat) : List Int := (List.range n).map fun i => ((f i : Nat) : Int)
theorem fl_len (f : Nat → Nat) (n : Nat) : (fl f n).length = n := by simp [fl]
theorem fl_get (f : Nat → Nat) (n i : Nat) : (fl f n)[i]? = if i < n then some ((f i : Nat) : Int) else none := by
  unfold fl
  rw [List.getElem?_map]
  by_cases h : i < n
  · rw [if_pos h, List.getElem?_eq_getElem (by simpa using h)]
    simp
  · rw [if_neg h, List.getElem?_eq_none (by simp; omega)]
    rfl
theorem rd_fl {f : Nat → Nat} {n i : Nat} (h : i < n) : rd (fl f n) (i : Int) = ((f i : Nat) : Int) := by
  unfold rd
  rw [List.getD_eq_getElem?_getD, Int.toNat_natCast, fl_get, if_pos h]
  rfl
theorem fl_congr {f g : Nat → Nat} {n : Nat} (h : ∀ i, i < n → f i = g i) : fl f n = fl g n := by
  unfold fl
  exact List.map_congr_left (fun i hi => by rw [h i (List.mem_range.1 hi)])
theorem fl_succ (f : Nat → Nat) (n : Nat) : fl f (n + 1) = fl f n ++ [((f n : Nat) : Int)] := by simp [fl, List.range_succ]
theorem fl_take (f : Nat → Nat) {m n : Nat} (h : m ≤ n) : (fl f n).take m = fl f m := by
  unfold fl
  rw [← List.map_take, List.take_range, Nat.min_eq_left h]
theorem fl_set (f : Nat → Nat) (n i v : Nat) : (fl f n).set i ((v : Nat) : Int) = fl (fun j => if j = i then v else f j) n := by
  apply List.ext_getElem?
  intro j
  rw [List.getElem?_set, fl_get, fl_get, fl_len]
  by_cases h : i = j
  · subst h
    rw [if_pos rfl, if_pos rfl]
  · rw [if_neg h, if_neg (Ne.symm h)]
theorem fl_drop (f : Nat → Nat) (n m : Nat) : (fl f n).drop m = fl (fun j => f (m + j)) (n - m) := by
  apply List.ext_getElem?
  intro j
  rw [List.getElem?_drop, fl_get, fl_get]
  by_cases h : m + j < n
  · rw [if_pos h, if_pos (by omega)]
  · rw [if_neg h, if_neg (by omega)]
theorem fl_cons (f : Nat → Nat) (n d : Nat) : ((d : Nat) : Int) :: fl f n = fl (fun j => if j = 0 then d else f (j - 1)) (n + 1) := by
  apply List.ext_getElem?
  intro j
  cases j with
  | zero => rw [fl_get, if_pos (by omega), if_pos rfl]; rfl
  | succ j =>
    rw [List.getElem?_cons_succ, fl_get, fl_get]
    by_cases h : j < n
    · rw [if_pos h, if_pos (by omega), if_neg (by omega), Nat.add_sub_cancel]
    · rw [if_neg h, if_neg (by omega)]
theorem fl_zero (n : Nat) : fl (fun _ => 0) n = List.replicate n 0 := by
  unfold fl
  rw [List.map_const', List.length_range]
  rfl
/-- the n lowest digits. -/
def ds (k x n : Nat) : List Int := fl (dig k x) n
/-- the digits. -/
def cs (k x : Nat) : List Int := ds k x (wl k x)
theorem ds_len (k x n : Nat) : (ds k x n).length = n := fl_len _ _
theorem cs_len (k x : Nat) : (cs k x).length = wl k x := fl_len _ _
theorem rd_ds {k x n i : Nat} (h : i < n) : rd (ds k x n) (i : Int) = ((dig k x i : Nat) : Int) := rd_fl h
theorem ds_succ (k x n : Nat) : ds k x (n + 1) = ds k x n ++ [((dig k x n : Nat) : Int)] := fl_succ _ _
theorem ds_nil (k x : Nat) : ds k x 0 = [] := rfl
theorem cs_zero {k : Nat} (hk : 0 < k) : cs k 0 = [] := by unfold cs; rw [wl_zero hk]; rfl
theorem ds_drop (k x n m : Nat) : (ds k x n).drop m = ds k (x / 2 ^ (k * m)) (n - m) := by
  unfold ds
  rw [fl_drop]
  exact fl_congr (fun i _ => (dig_div k x i m).symm)
theorem dig_shift {k d x j : Nat} (hd : d < 2 ^ k) : dig k (d + 2 ^ k * x) j = if j = 0 then d else dig k x (j - 1) := by
  cases j with
  | zero =>
    rw [if_pos rfl]
    unfold dig
    rw [Nat.mul_zero, Nat.pow_zero, Nat.div_one, Nat.add_mul_mod_self_left, Nat.mod_eq_of_lt hd]
  | succ j =>
    rw [if_neg (by omega), Nat.add_sub_cancel]
    unfold dig
    rw [pow_succ_mul, Nat.mul_comm (2 ^ (k * j)), ← Nat.div_div_eq_div_mul, Nat.add_mul_div_left _ _ (Nat.two_pow_pos k), Nat.div_eq_of_lt hd, Nat.zero_add]
theorem ds_cons {k d x n : Nat} (hd : d < 2 ^ k) : ((d : Nat) : Int) :: ds k x n = ds k (d + 2 ^ k * x) (n + 1) := by
  unfold ds
  rw [fl_cons]
  exact fl_congr (fun j _ => (dig_shift hd).symm)
theorem shift_lt {k d x n : Nat} (hd : d < 2 ^ k) (hx : x < 2 ^ (k * n)) : d + 2 ^ k * x < 2 ^ (k * (n + 1)) := by
  rw [pow_succ_mul, Nat.mul_comm (2 ^ (k * n))]
  calc d + 2 ^ k * x < 2 ^ k + 2 ^ k * x := Nat.add_lt_add_right hd _
    _ = 2 ^ k * (x + 1) := by rw [Nat.mul_add, Nat.mul_one, Nat.add_comm]
    _ ≤ 2 ^ k * 2 ^ (k * n) := Nat.mul_le_mul_left _ hx
theorem tm256 (a : Nat) : Int.tmod ((a : Nat) : Int) 256 = ((a % 256 : Nat) : Int) := rfl
theorem td256 (a : Nat) : Int.tdiv ((a : Nat) : Int) 256 = ((a / 256 : Nat) : Int) := rfl
theorem dig8 (x i : Nat) : dig 8 x i < 256 := dig_lt 8 x i
theorem cs_ds {k x n : Nat} (h : wl k x = n) : cs k x = ds k x n := by unfold cs; rw [h]
end Go.Proofs.Yteikhnmmkanndaa

/- What the reference's Trim, at, Of, Cmp, Add, Sub answer, by numbers. -/
namespace Go.Proofs.Yteikhnmmkanndaa
open Go.RowKit Go.Proofs.YteikhnmmkanndaaW.PrintWords Go.Proofs.YteikhnmmkanndaaW.PrintMore Go.Proofs.Yteikhnmmkanndaa.PAll

theorem Ev.to {α : Type} {g : Nat → Option α} {r s : α} (h : Ev g r) (e : r = s) : Ev g s := e ▸ h
theorem trim_l (x n : Nat) (hn : n ≤ 1099511627776) : ∀ m, m ≤ n → x < 2 ^ (8 * m) → Ev (fun k => locutionref25_Trim.l0 k (ds 8 x n) (m : Int)) (cs 8 x) := by
  intro m
  induction m with
  | zero =>
    intro _ hx
    have h0 : wl 8 x = 0 := Nat.le_zero.1 ((wl_le (by decide) x 0).2 hx)
    refine ⟨1, fun k hk => ?_⟩
    obtain ⟨k, rfl⟩ : ∃ m, k = m + 1 := ⟨k - 1, by omega⟩
    simp only [locutionref25_Trim.l0]
    rw [if_neg (by omega)]
    simp only [Option.bind_some]
    rw [if_pos (by omega), if_pos (by omega), if_pos (by simp), cs_ds h0]
    simp [ds_nil]
  | succ m ih =>
    intro hm hx
    have e : wrap64 (((m + 1 : Nat) : Int) - 1) = (m : Int) := w64n (by omega) (by omega)
    by_cases hz : dig 8 x m = 0
    · obtain ⟨K, hK⟩ := ih (by omega) (lt_of_dig_zero hx hz)
      dsimp only at hK
      refine ⟨K + 1, fun k hk => ?_⟩
      obtain ⟨k, rfl⟩ : ∃ m, k = m + 1 := ⟨k - 1, by omega⟩
      simp only [locutionref25_Trim.l0, e]
      rw [if_pos (by omega), if_pos (by omega), if_pos (by rw [ds_len]; omega), rd_ds (by omega), if_pos (by omega)]
      exact hK k (by omega)
    · have hwl : wl 8 x = m + 1 := by
        refine wl_eq (by decide) hx (.inr ?_)
        rw [Nat.add_sub_cancel]
        exact Nat.le_of_not_lt (fun h => hz (dig_zero_of_lt h))
      refine ⟨1, fun k hk => ?_⟩
      obtain ⟨k, rfl⟩ : ∃ m, k = m + 1 := ⟨k - 1, by omega⟩
      simp only [locutionref25_Trim.l0, e]
      rw [if_pos (by omega), if_pos (by omega), if_pos (by rw [ds_len]; omega), rd_ds (by omega), if_neg (by omega)]
      simp only [Option.bind_some]
      have ht : (ds 8 x n).take ((m + 1 : Nat) : Int).toNat = ds 8 x (m + 1) := by rw [Int.toNat_natCast]; exact fl_take _ hm
      rw [if_pos (by omega), if_pos (by rw [ds_len]; omega), ht, if_pos (by rw [ds_len]; simp; omega), cs_ds hwl]
      rfl
theorem trim_ev (x n : Nat) (hn : n ≤ 1099511627776) (hx : x < 2 ^ (8 * n)) : Ev (fun k => locutionref25_Trim.f k (ds 8 x n)) (cs 8 x) := by
  have := trim_l x n hn n (Nat.le_refl _) hx
  unfold locutionref25_Trim.f
  rw [ds_len]
  exact this
theorem at_ds {x n : Nat} (hx : x < 2 ^ (8 * n)) (i : Nat) : locutionref25_at.f (ds 8 x n) (i : Int) = some ((dig 8 x i : Nat) : Int) := by
  unfold locutionref25_at.f
  rw [if_neg (by omega), ds_len]
  by_cases h : i < n
  · rw [if_neg (by omega), if_pos (by omega), if_pos (by omega), rd_ds h]
  · rw [if_pos (by omega), dig_zero_of_lt (Nat.lt_of_lt_of_le hx (Nat.pow_le_pow_right (by decide) (by omega)))]
    rfl
theorem w_add {a b : Nat} (h : a + b ≤ 9223372036854775807) : wrap64 ((a : Int) + (b : Int)) = ((a + b : Nat) : Int) := w64n (by omega) h
theorem w_sub {a b : Nat} (h : b ≤ a) (h1 : a ≤ 9223372036854775807) : wrap64 ((a : Int) - (b : Int)) = ((a - b : Nat) : Int) := w64n (by omega) (by omega)
theorem add_step8 {a b c : Nat} (h1 : a < 256) (h2 : b < 256) (h3 : c ≤ 1) : wrap64 (wrap64 ((a : Int) + (b : Int)) + (c : Int)) = ((a + b + c : Nat) : Int) := by
  rw [w_add (by omega), w_add (by omega)]
theorem sub_step8 {a b c : Nat} (h1 : a < 256) (h2 : b < 256) (h3 : c ≤ 1) : wrap64 (wrap64 (wrap64 (256 + (a : Int)) - (b : Int)) - (c : Int)) = ((256 + a - b - c : Nat) : Int) := by
  have e := w_add (a := 256) (b := a) (by omega)
  rw [show (((256 : Nat) : Int)) = 256 from rfl] at e
  rw [e, w_sub (by omega) (by omega), w_sub (by omega) (by omega)]
theorem sub_carry8 {a b c : Nat} (h1 : a < 256) (h2 : b < 256) (h3 : c ≤ 1) : wrap64 (1 - wrap64 (((256 + a - b - c) / 256 : Nat) : Int)) = ((if a < b + c then 1 else 0 : Nat) : Int) := by
  rw [w64n (n := (((256 + a - b - c) / 256 : Nat) : Int)) rfl (by omega)]
  refine w64n ?_ (by split <;> decide)
  split <;> omega
theorem small8 {a b c : Nat} (h1 : a < 256) (h2 : b < 256) (h3 : c ≤ 1) : wrap64 (((a + b + c) / 256 : Nat) : Int) = (((a + b + c) / 256 : Nat) : Int) := w64n rfl (by omega)
theorem ofN {a : Nat} (h : a ≤ 9223372036854775807) : wrap64 ((a : Nat) : Int) = (a : Int) := w64n rfl h

theorem add_l (x y n m : Nat) (hn : n ≤ 4294967296) (hm : m ≤ 4294967296) (hx : x < 2 ^ (8 * n)) (hy : y < 2 ^ (8 * m)) : ∀ d i, d + i = max n m + 1 →
    Ev (fun k => locutionref25_Add.l0 k (ds 8 x n) (ds 8 y m) (ds 8 (x + y) i) ((carryOf 8 x y i : Nat) : Int) (i : Int)) (cs 8 (x + y)) := by
  have hmx : mx ((ds 8 x n).length : Int) ((ds 8 y m).length : Int) = ((max n m : Nat) : Int) := by
    rw [ds_len, ds_len]
    unfold mx
    split <;> omega
  intro d
  induction d with
  | zero =>
    intro i hi
    have hs : x + y < 2 ^ (8 * i) := by
      have h1 : x < 2 ^ (8 * max n m) := Nat.lt_of_lt_of_le hx (Nat.pow_le_pow_right (by decide) (by omega))
      have h2 : y < 2 ^ (8 * max n m) := Nat.lt_of_lt_of_le hy (Nat.pow_le_pow_right (by decide) (by omega))
      have := sum_lt (k := 8) (by decide) h1 h2
      rwa [show max n m + 1 = i by omega] at this
    obtain ⟨K, hK⟩ := trim_ev (x + y) i (by omega) hs
    dsimp only at hK
    refine ⟨K + 1, fun k hk => ?_⟩
    obtain ⟨k, rfl⟩ : ∃ m, k = m + 1 := ⟨k - 1, by omega⟩
    simp only [locutionref25_Add.l0, hmx]
    rw [if_neg (by omega), hK k (by omega)]
    rfl
  | succ d ih =>
    intro i hi
    obtain ⟨K, hK⟩ := ih (i + 1) (by omega)
    dsimp only at hK
    have c1 : (i : Int) ≤ ((max n m : Nat) : Int) := by omega
    have c2 : (ds 8 (x + y) i).length < 17592186044416 := by rw [ds_len]; omega
    have e2 : wrap64 ((i : Int) + 1) = ((i + 1 : Nat) : Int) := w64n (by omega) (by omega)
    have e1 := add_step8 (dig8 x i) (dig8 y i) (carry_le 8 x y i)
    have e3 := small8 (dig8 x i) (dig8 y i) (carry_le 8 x y i)
    refine ⟨K + 1, fun k hk => ?_⟩
    obtain ⟨k, rfl⟩ : ∃ m, k = m + 1 := ⟨k - 1, by clear e1 e3; omega⟩
    have hk2 := hK k (Nat.le_of_succ_le_succ hk)
    rw [carry_succ, ds_succ, sum_dig] at hk2
    simp only [locutionref25_Add.l0, hmx, at_ds hx, at_ds hy, Option.bind_some, e1, e2, tm256, td256, e3]
    rw [if_pos c1, if_pos c2]
    exact hk2
theorem add_ev (x y n m : Nat) (hn : n ≤ 4294967296) (hm : m ≤ 4294967296) (hx : x < 2 ^ (8 * n)) (hy : y < 2 ^ (8 * m)) : Ev (fun k => locutionref25_Add.f k (ds 8 x n) (ds 8 y m)) (cs 8 (x + y)) := by
  have := add_l x y n m hn hm hx hy (max n m + 1) 0 rfl
  rw [carry_zero] at this
  exact this

theorem sub_l (z y n m : Nat) (hn : n ≤ 4294967296) (hx : z + y < 2 ^ (8 * n)) (hy : y < 2 ^ (8 * m)) : ∀ d i, d + i = n →
    Ev (fun k => locutionref25_Sub.l0 k (ds 8 (z + y) n) (ds 8 y m) (ds 8 z i) ((carryOf 8 z y i : Nat) : Int) (i : Int)) (cs 8 z) := by
  intro d
  induction d with
  | zero =>
    intro i hi
    obtain rfl : i = n := by omega
    obtain ⟨K, hK⟩ := trim_ev z i (by omega) (by omega)
    dsimp only at hK
    refine ⟨K + 1, fun k hk => ?_⟩
    obtain ⟨k, rfl⟩ : ∃ m, k = m + 1 := ⟨k - 1, by omega⟩
    simp only [locutionref25_Sub.l0, ds_len]
    rw [if_neg (by omega), hK k (by omega)]
    rfl
  | succ d ih =>
    intro i hi
    obtain ⟨K, hK⟩ := ih (i + 1) (by omega)
    dsimp only at hK
    have c1 : (i : Int) < (n : Int) := by omega
    have c2 : (ds 8 z i).length < 17592186044416 := by rw [ds_len]; omega
    have e3 : wrap64 ((i : Int) + 1) = ((i + 1 : Nat) : Int) := w64n (by omega) (by omega)
    have e1 := sub_step8 (dig8 (z + y) i) (dig8 y i) (carry_le 8 z y i)
    have e5 := sub_carry8 (dig8 (z + y) i) (dig8 y i) (carry_le 8 z y i)
    rw [← borrow_succ] at e5
    have e4 : (256 + dig 8 (z + y) i - dig 8 y i - carryOf 8 z y i) % 256 = dig 8 z i := by rw [sub_dig z y i, Nat.add_comm]
    refine ⟨K + 1, fun k hk => ?_⟩
    obtain ⟨k, rfl⟩ : ∃ m, k = m + 1 := ⟨k - 1, by clear e1 e4 e5; omega⟩
    have hk2 := hK k (Nat.le_of_succ_le_succ hk)
    rw [ds_succ] at hk2
    simp only [locutionref25_Sub.l0, ds_len, at_ds hx, at_ds hy, Option.bind_some, e1, e3, tm256, td256, e4, e5]
    rw [if_pos c1, if_pos (by rw [ds_len] at c2; exact c2)]
    exact hk2
theorem sub_ev (x y n m : Nat) (hn : n ≤ 4294967296) (hx : x < 2 ^ (8 * n)) (hy : y < 2 ^ (8 * m)) (h : y ≤ x) : Ev (fun k => locutionref25_Sub.f k (ds 8 x n) (ds 8 y m)) (cs 8 (x - y)) := by
  obtain ⟨z, rfl⟩ : ∃ z, x = z + y := ⟨x - y, by omega⟩
  have := sub_l z y n m hn hx hy n 0 rfl
  rw [carry_zero] at this
  rw [Nat.add_sub_cancel]
  exact this

theorem cmp_l (x y n : Nat) (hn : n ≤ 4294967296) : ∀ i, i ≤ n → x / 2 ^ (8 * i) = y / 2 ^ (8 * i) → Ev (fun k => locutionref25_Cmp.l0 k (ds 8 x n) (ds 8 y n) ((i : Int) - 1)) (cmpN x y) := by
  intro i
  induction i with
  | zero =>
    intro _ h
    rw [Nat.mul_zero, Nat.pow_zero, Nat.div_one, Nat.div_one] at h
    subst h
    refine ⟨1, fun k hk => ?_⟩
    obtain ⟨k, rfl⟩ : ∃ m, k = m + 1 := ⟨k - 1, by omega⟩
    simp only [locutionref25_Cmp.l0]
    rw [if_neg (by omega), cmpN_self]
  | succ i ih =>
    intro hi h
    have e0 : (((i + 1 : Nat) : Int) - 1) = (i : Int) := by omega
    have e1 : wrap64 ((i : Int) - 1) = (i : Int) - 1 := w64 (by omega) (by omega)
    rw [e0]
    by_cases hd : cmpN (dig 8 x i) (dig 8 y i) = 0
    · obtain ⟨K, hK⟩ := ih (by omega) (div_dig h hd)
      dsimp only at hK
      have he := cmpN_eq_zero hd
      refine ⟨K + 1, fun k hk => ?_⟩
      obtain ⟨k, rfl⟩ : ∃ m, k = m + 1 := ⟨k - 1, by omega⟩
      simp only [locutionref25_Cmp.l0, ds_len, e1]
      rw [if_pos (by omega), if_pos (by omega), if_pos (by omega), if_pos (by omega), rd_ds (by omega), rd_ds (by omega), if_neg (by omega), if_neg (by omega)]
      exact hK k (by omega)
    · rw [← cmpN_dig h hd]
      refine ⟨1, fun k hk => ?_⟩
      obtain ⟨k, rfl⟩ : ∃ m, k = m + 1 := ⟨k - 1, by omega⟩
      simp only [locutionref25_Cmp.l0, ds_len, e1]
      rw [if_pos (by omega), if_pos (by omega), if_pos (by omega), if_pos (by omega), rd_ds (by omega), rd_ds (by omega)]
      by_cases h1 : dig 8 x i < dig 8 y i
      · rw [if_pos (by omega), cmpN_lt h1]
      · have h2 : dig 8 y i < dig 8 x i := by
          rcases Nat.lt_or_ge (dig 8 y i) (dig 8 x i) with h2 | h2
          · exact h2
          · exact absurd (by rw [show dig 8 x i = dig 8 y i by omega]; exact cmpN_self _) hd
        rw [if_neg (by omega), if_pos (by omega), cmpN_gt h2]
theorem cmp_ev (x y : Nat) (hn : wl 8 x ≤ 4294967296) : Ev (fun k => locutionref25_Cmp.f k (cs 8 x) (cs 8 y)) (cmpN x y) := by
  unfold locutionref25_Cmp.f
  rw [cs_len, cs_len]
  by_cases h : cmpN (wl 8 x) (wl 8 y) = 0
  · have he := cmpN_eq_zero h
    have e1 : wrap64 (((wl 8 x : Nat) : Int) - 1) = ((wl 8 x : Nat) : Int) - 1 := w64 (by omega) (by omega)
    have := cmp_l x y (wl 8 x) hn (wl 8 x) (Nat.le_refl _) (by
      rw [Nat.div_eq_of_lt (wl_lt (by decide) x), he, Nat.div_eq_of_lt (wl_lt (by decide) y)])
    refine Ev.congr (fun k => ?_) this
    rw [if_pos (by omega), e1, show cs 8 y = ds 8 y (wl 8 x) from cs_ds he.symm]
    rfl
  · rw [← cmpN_wl (by decide) h]
    have hne : wl 8 x ≠ wl 8 y := fun e => h (by rw [e]; exact cmpN_self _)
    refine ⟨0, fun k _ => ?_⟩
    dsimp only
    rw [if_neg (fun e => hne (by exact_mod_cast e))]
    by_cases h1 : wl 8 x < wl 8 y
    · rw [if_pos (by omega), cmpN_lt h1]
    · rw [if_neg (by omega), cmpN_gt (by omega)]

end Go.Proofs.Yteikhnmmkanndaa

/- What the reference's Mul, Div, GCD, Pow answer, by numbers. -/
namespace Go.Proofs.Yteikhnmmkanndaa
open Go.RowKit Go.Proofs.YteikhnmmkanndaaW.PrintWords Go.Proofs.YteikhnmmkanndaaW.PrintMore Go.Proofs.Yteikhnmmkanndaa.PAll

/-- the product of y with x's i lowest digits. -/
def lowK (k x y i : Nat) : Nat := x % 2 ^ (k * i) * y
theorem lowK_zero (k x y : Nat) : lowK k x y 0 = 0 := by unfold lowK; rw [Nat.mul_zero, Nat.pow_zero, Nat.mod_one, Nat.zero_mul]
theorem lowK_succ (k x y i : Nat) : lowK k x y (i + 1) = lowK k x y i + 2 ^ (k * i) * (dig k x i * y) := by
  unfold lowK
  rw [mod_succ, Nat.add_mul, Nat.mul_assoc]
theorem lowK_lt {k x y i m : Nat} (hy : y < 2 ^ (k * m)) : lowK k x y i < 2 ^ (k * (i + m)) := by
  unfold lowK
  rw [Nat.mul_add, Nat.pow_add]
  exact Nat.mul_lt_mul'' (Nat.mod_lt _ (Nat.two_pow_pos _)) hy
/-- the row while x's digit i is multiplied: j digits are done. -/
def midK (k x y i j : Nat) (p : Nat) : Nat := if i ≤ p ∧ p < i + j then dig k (lowK k x y i / 2 ^ (k * i) + dig k x i * y) (p - i) else dig k (lowK k x y i) p
theorem midK_done {k x y i m : Nat} (hy : y < 2 ^ (k * m)) (p : Nat) : midK k x y i (m + 1) p = dig k (lowK k x y (i + 1)) p := by
  have hq : lowK k x y (i + 1) / 2 ^ (k * i) = lowK k x y i / 2 ^ (k * i) + dig k x i * y := by
    rw [lowK_succ, Nat.add_mul_div_left _ _ (Nat.two_pow_pos _)]
  unfold midK
  by_cases h2 : i ≤ p ∧ p < i + (m + 1)
  · rw [if_pos h2, ← hq, dig_div, show i + (p - i) = p by omega]
  · rw [if_neg h2]
    rcases Nat.lt_or_ge p i with h3 | h3
    · rw [← dig_mod h3, ← dig_mod (x := lowK k x y (i + 1)) h3, lowK_succ, Nat.add_mul_mod_self_left]
    · rw [dig_zero_of_lt, dig_zero_of_lt]
      · exact Nat.lt_of_lt_of_le (lowK_lt hy) (Nat.pow_le_pow_right (by decide) (Nat.mul_le_mul_left _ (by omega)))
      · exact Nat.lt_of_lt_of_le (lowK_lt hy) (Nat.pow_le_pow_right (by decide) (Nat.mul_le_mul_left _ (by omega)))
theorem midK_at (k x y i j : Nat) : midK k x y i j (i + j) = dig k (lowK k x y i / 2 ^ (k * i)) j := by
  unfold midK
  rw [if_neg (by omega), dig_div]
theorem midK_succ (k x y i j : Nat) (p : Nat) : midK k x y i (j + 1) p = if p = i + j then dig k (lowK k x y i / 2 ^ (k * i) + dig k x i * y) j else midK k x y i j p := by
  unfold midK
  by_cases h : p = i + j
  · subst h
    rw [if_pos (by omega), if_pos rfl, Nat.add_sub_cancel_left]
  · rw [if_neg h]
    by_cases h2 : i ≤ p ∧ p < i + j
    · rw [if_pos h2, if_pos (by omega)]
    · rw [if_neg h2, if_neg (by omega)]
theorem midK_zero (k x y i p : Nat) : midK k x y i 0 p = dig k (lowK k x y i) p := by unfold midK; rw [if_neg (by omega)]
theorem mul_step8 {o a b c : Nat} (h0 : o < 256) (h1 : a < 256) (h2 : b < 256) (h3 : c < 256) : wrap64 (wrap64 ((o : Int) + wrap64 ((a : Int) * (b : Int))) + (c : Int)) = ((o + a * b + c : Nat) : Int) := by
  have h4 : a * b ≤ 255 * 255 := Nat.mul_le_mul (by omega) (by omega)
  have e : wrap64 ((a : Int) * (b : Int)) = ((a * b : Nat) : Int) := w64n (by rw [Int.natCast_mul]) (by omega)
  rw [e, w_add (by omega), w_add (by omega)]
theorem mul_small8 {o a b c : Nat} (h0 : o < 256) (h1 : a < 256) (h2 : b < 256) (h3 : c < 256) : wrap64 (((o + a * b + c) / 256 : Nat) : Int) = (((o + a * b + c) / 256 : Nat) : Int) := by
  have h4 : a * b ≤ 255 * 255 := Nat.mul_le_mul (by omega) (by omega)
  exact w64n rfl (by omega)
theorem mul_in {x y n m i : Nat} (hy : y < 2 ^ (8 * m)) (hn : n ≤ 4294967296) (hm : m ≤ 4294967296) (hi : i < n) (r : List Int)
    (hnext : Ev (fun k => locutionref25_Mul.l0 k (ds 8 x n) (ds 8 y m) (ds 8 (lowK 8 x y (i + 1)) (n + m + 1)) ((i + 1 : Nat) : Int)) r) : ∀ d j, d + j = m + 1 →
    Ev (fun k => locutionref25_Mul.l1 k (ds 8 x n) (ds 8 y m) (fl (midK 8 x y i j) (n + m + 1)) (i : Int) ((mulCarry 8 (lowK 8 x y i / 2 ^ (8 * i)) (dig 8 x i) y j : Nat) : Int) (j : Int)) r := by
  intro d
  induction d with
  | zero =>
    intro j hj
    obtain rfl : j = m + 1 := by omega
    obtain ⟨K, hK⟩ := hnext
    dsimp only at hK
    have e2 : wrap64 ((i : Int) + 1) = ((i + 1 : Nat) : Int) := w64n (by omega) (by omega)
    refine ⟨K + 1, fun k hk => ?_⟩
    obtain ⟨k, rfl⟩ : ∃ m, k = m + 1 := ⟨k - 1, by omega⟩
    have hk2 := hK k (Nat.le_of_succ_le_succ hk)
    simp only [locutionref25_Mul.l1, ds_len, e2]
    rw [if_neg (by omega), show fl (midK 8 x y i (m + 1)) (n + m + 1) = ds 8 (lowK 8 x y (i + 1)) (n + m + 1) from fl_congr (fun p _ => midK_done hy p)]
    exact hk2
  | succ d ih =>
    intro j hj
    obtain ⟨K, hK⟩ := ih (j + 1) (by omega)
    dsimp only at hK
    have c1 : (j : Int) ≤ (m : Int) := by omega
    have c2 : ((i + j : Nat) : Int) < ((n + m + 1 : Nat) : Int) := by omega
    have c3 : i + j < n + m + 1 := by omega
    have c4 : (i : Int) < (n : Int) := by omega
    have e0 : wrap64 ((i : Int) + (j : Int)) = ((i + j : Nat) : Int) := w_add (by omega)
    have e2 : wrap64 ((j : Int) + 1) = ((j + 1 : Nat) : Int) := w64n (by omega) (by omega)
    have e1 := mul_step8 (dig8 (lowK 8 x y i / 2 ^ (8 * i)) j) (dig8 x i) (dig8 y j) (mulCarry_lt (k := 8) (T := lowK 8 x y i / 2 ^ (8 * i)) (y := y) (i := j) (dig8 x i))
    have e3 := mul_small8 (dig8 (lowK 8 x y i / 2 ^ (8 * i)) j) (dig8 x i) (dig8 y j) (mulCarry_lt (k := 8) (T := lowK 8 x y i / 2 ^ (8 * i)) (y := y) (i := j) (dig8 x i))
    refine ⟨K + 1, fun k hk => ?_⟩
    obtain ⟨k, rfl⟩ : ∃ m, k = m + 1 := ⟨k - 1, by clear e1 e3; omega⟩
    have hk2 := hK k (Nat.le_of_succ_le_succ hk)
    rw [mulCarry_succ, show fl (midK 8 x y i (j + 1)) (n + m + 1) = (fl (midK 8 x y i j) (n + m + 1)).set (i + j) ((dig 8 (lowK 8 x y i / 2 ^ (8 * i) + dig 8 x i * y) j : Nat) : Int) from by
      rw [fl_set]; exact fl_congr (fun p _ => midK_succ 8 x y i j p), mul_dig] at hk2
    simp only [locutionref25_Mul.l1, ds_len, fl_len, e0, e2, at_ds hy, Option.bind_some]
    rw [if_pos c1, if_pos (Int.natCast_nonneg _), if_pos c2, if_pos (Int.natCast_nonneg _), if_pos c4, rd_fl c3, rd_ds (by omega), midK_at, Int.toNat_natCast]
    simp only [e1, tm256, td256, e3]
    exact hk2
theorem mul_out {x y n m : Nat} (hx : x < 2 ^ (8 * n)) (hy : y < 2 ^ (8 * m)) (hn : n ≤ 4294967296) (hm : m ≤ 4294967296) : ∀ d i, d + i = n →
    Ev (fun k => locutionref25_Mul.l0 k (ds 8 x n) (ds 8 y m) (ds 8 (lowK 8 x y i) (n + m + 1)) (i : Int)) (cs 8 (x * y)) := by
  intro d
  induction d with
  | zero =>
    intro i hi
    obtain rfl : i = n := by omega
    have hl : lowK 8 x y i = x * y := by unfold lowK; rw [Nat.mod_eq_of_lt hx]
    have hlt : x * y < 2 ^ (8 * (i + m + 1)) := by
      rw [← hl]
      exact Nat.lt_of_lt_of_le (lowK_lt hy) (Nat.pow_le_pow_right (by decide) (by omega))
    obtain ⟨K, hK⟩ := trim_ev (x * y) (i + m + 1) (by omega) hlt
    dsimp only at hK
    refine ⟨K + 1, fun k hk => ?_⟩
    obtain ⟨k, rfl⟩ : ∃ m, k = m + 1 := ⟨k - 1, by omega⟩
    simp only [locutionref25_Mul.l0, ds_len]
    rw [if_neg (by omega), hl, hK k (by omega)]
    rfl
  | succ d ih =>
    intro i hi
    have h0 := mul_in hy hn hm (show i < n by omega) _ (ih (i + 1) (by omega)) (m + 1) 0 rfl
    rw [mulCarry_zero, show fl (midK 8 x y i 0) (n + m + 1) = ds 8 (lowK 8 x y i) (n + m + 1) from fl_congr (fun p _ => midK_zero 8 x y i p)] at h0
    obtain ⟨K, hK⟩ := h0
    dsimp only at hK
    refine ⟨K + 1, fun k hk => ?_⟩
    obtain ⟨k, rfl⟩ : ∃ m, k = m + 1 := ⟨k - 1, by omega⟩
    simp only [locutionref25_Mul.l0, ds_len]
    rw [if_pos (by omega)]
    exact hK k (by omega)
theorem ds_zero (k n : Nat) : ds k 0 n = List.replicate n 0 := by
  rw [← fl_zero]
  exact fl_congr (fun i _ => dig_zero_of_lt (Nat.two_pow_pos _))
theorem mul_ev (x y n m : Nat) (hn : n ≤ 4294967296) (hm : m ≤ 4294967296) (hx : x < 2 ^ (8 * n)) (hy : y < 2 ^ (8 * m)) : Ev (fun k => locutionref25_Mul.f k (ds 8 x n) (ds 8 y m)) (cs 8 (x * y)) := by
  have h := mul_out hx hy hn hm n 0 rfl
  rw [lowK_zero, ds_zero] at h
  have e : wrap64 (wrap64 (((ds 8 x n).length : Int) + ((ds 8 y m).length : Int)) + 1) = ((n + m + 1 : Nat) : Int) := by
    rw [ds_len, ds_len, w_add (by omega)]
    exact w64n (by omega) (by omega)
  refine Ev.congr (fun k => ?_) h
  unfold locutionref25_Mul.f
  rw [e, if_pos (Int.natCast_nonneg _), if_pos (by rw [Int.toNat_natCast]; omega), Int.toNat_natCast]
  rfl

/-- the quotient's digits from i on. -/
def hiq (q i : Nat) (p : Nat) : Nat := if i ≤ p then dig 8 q p else 0
theorem div_next (x b i : Nat) (hb : 0 < b) : (dig 8 x i + 2 ^ 8 * (x / 2 ^ (8 * (i + 1)) % b)) / b = dig 8 (x / b) i ∧ (dig 8 x i + 2 ^ 8 * (x / 2 ^ (8 * (i + 1)) % b)) % b = x / 2 ^ (8 * i) % b := by
  have h1 := div_succ 8 x i
  have h2 := Nat.div_add_mod (x / 2 ^ (8 * (i + 1))) b
  have h3 : x / 2 ^ (8 * i) = (dig 8 x i + 2 ^ 8 * (x / 2 ^ (8 * (i + 1)) % b)) + b * (2 ^ 8 * (x / 2 ^ (8 * (i + 1)) / b)) := by
    rw [h1]
    generalize x / 2 ^ (8 * (i + 1)) = X at *
    rw [Nat.mul_left_comm b, Nat.add_assoc, ← Nat.mul_add, Nat.add_comm (X % b), h2, Nat.mul_comm X]
    omega
  constructor
  · have h4 : dig 8 (x / b) i = x / 2 ^ (8 * i) / b % 2 ^ 8 := by
      unfold dig
      rw [Nat.div_div_eq_div_mul, Nat.mul_comm, ← Nat.div_div_eq_div_mul]
    rw [h4, h3, Nat.add_mul_div_left _ _ hb, Nat.add_mul_mod_self_left]
    refine (Nat.mod_eq_of_lt ?_).symm
    rw [Nat.div_lt_iff_lt_mul hb]
    have h5 := Nat.mod_lt (x / 2 ^ (8 * (i + 1))) hb
    have h6 := dig_lt 8 x i
    generalize dig 8 x i = d at *
    generalize x / 2 ^ (8 * (i + 1)) % b = r at *
    omega
  · rw [h3, Nat.add_mul_mod_self_left]
theorem wl_shift {L b : Nat} (h : L < 2 ^ 8 * b) : wl 8 L ≤ wl 8 b + 1 := by
  rw [wl_le (by decide), pow_succ_mul, Nat.mul_comm]
  exact Nat.lt_trans h (Nat.mul_lt_mul_of_pos_left (wl_lt (by decide) b) (by decide))
theorem div_in {x b n i : Nat} (hb : 0 < b) (hbw : wl 8 b ≤ 2147483648) (hn : n ≤ 2147483648) (hi : i < n) (r : List Int × List Int)
    (hnext : Ev (fun k => locutionref25_Div.l0 k (ds 8 x n) (cs 8 b) (fl (hiq (x / b) i) n) (cs 8 (x / 2 ^ (8 * i) % b)) ((i : Int) - 1)) r) : ∀ d c L, L / b = d →
    c * b + L = dig 8 x i + 2 ^ 8 * (x / 2 ^ (8 * (i + 1)) % b) →
    Ev (fun k => locutionref25_Div.l1 k (ds 8 x n) (cs 8 b) (fl (fun p => if p = i then c else hiq (x / b) (i + 1) p) n) (cs 8 L) (i : Int)) r := by
  obtain ⟨hq, hr⟩ := div_next x b i hb
  have hL0 : dig 8 x i + 2 ^ 8 * (x / 2 ^ (8 * (i + 1)) % b) < 2 ^ 8 * b := by
    have h5 := Nat.mod_lt (x / 2 ^ (8 * (i + 1))) hb
    have h6 := dig_lt 8 x i
    generalize dig 8 x i = d at *
    generalize x / 2 ^ (8 * (i + 1)) % b = r at *
    omega
  have hdq := dig8 (x / b) i
  generalize hL : dig 8 x i + 2 ^ 8 * (x / 2 ^ (8 * (i + 1)) % b) = L0 at *
  intro d
  induction d with
  | zero =>
    intro c L hd hc
    have hlt : L < b := by
      rcases Nat.div_eq_zero_iff.1 hd with h | h
      · omega
      · exact h
    have hcq : c = dig 8 (x / b) i := by
      rw [← hq, ← hc, Nat.mul_comm, Nat.mul_add_div hb, hd, Nat.add_zero]
    have hLr : L = x / 2 ^ (8 * i) % b := by
      rw [← hr, ← hc, Nat.mul_comm, Nat.mul_add_mod, Nat.mod_eq_of_lt hlt]
    have hwL : wl 8 L ≤ 4294967296 := Nat.le_trans (wl_mono (by decide) (Nat.le_of_lt hlt)) (by omega)
    obtain ⟨K1, hK1⟩ := cmp_ev L b hwL
    obtain ⟨K, hK⟩ := hnext
    dsimp only at hK hK1
    have e : wrap64 ((i : Int) - 1) = (i : Int) - 1 := w64 (by omega) (by omega)
    have hf : fl (fun p => if p = i then c else hiq (x / b) (i + 1) p) n = fl (hiq (x / b) i) n := by
      refine fl_congr (fun p _ => ?_)
      unfold hiq
      by_cases hp : p = i
      · subst hp; rw [if_pos rfl, if_pos (Nat.le_refl _), hcq]
      · rw [if_neg hp]
        by_cases h2 : i ≤ p
        · rw [if_pos h2, if_pos (by omega)]
        · rw [if_neg h2, if_neg (by omega)]
    refine ⟨max K1 K + 1, fun k hk => ?_⟩
    obtain ⟨k, rfl⟩ : ∃ m, k = m + 1 := ⟨k - 1, by clear hcq hLr; omega⟩
    have k1 : K1 ≤ k := by clear hcq hLr; omega
    have k2 : K ≤ k := by clear hcq hLr; omega
    simp only [locutionref25_Div.l1, hK1 k k1, Option.bind_some, e]
    rw [cmpN_lt hlt, if_neg (by decide), hf, hLr]
    exact hK k k2
  | succ d ih =>
    intro c L hd hc
    have hge : b ≤ L := by
      rcases Nat.lt_or_ge L b with h | h
      · rw [Nat.div_eq_of_lt h] at hd; omega
      · exact h
    have hd' : (L - b) / b = d := by
      rw [Nat.div_eq_sub_div hb hge] at hd
      omega
    have hc' : (c + 1) * b + (L - b) = L0 := by rw [Nat.add_mul, Nat.one_mul]; omega
    have hc2 : c ≤ 255 := by
      have h9 : c * b < 2 ^ 8 * b := by omega
      have := Nat.lt_of_mul_lt_mul_right h9
      omega
    have hwL : wl 8 L ≤ 4294967296 := Nat.le_trans (wl_shift (show L < 2 ^ 8 * b by omega)) (by omega)
    obtain ⟨K1, hK1⟩ := cmp_ev L b hwL
    obtain ⟨K2, hK2⟩ := sub_ev L b (wl 8 L) (wl 8 b) hwL (wl_lt (by decide) _) (wl_lt (by decide) _) hge
    obtain ⟨K, hK⟩ := ih (c + 1) (L - b) hd' hc'
    dsimp only at hK hK1 hK2
    have hcmp : (0 : Int) ≤ cmpN L b := by
      rcases Nat.lt_or_ge b L with h | h
      · rw [cmpN_gt h]; decide
      · rw [show L = b by omega, cmpN_self]; decide
    have e : wrap64 ((c : Int) + 1) = ((c + 1 : Nat) : Int) := w64n (by omega) (by omega)
    have hs : (fl (fun p => if p = i then c else hiq (x / b) (i + 1) p) n).set i ((c + 1 : Nat) : Int) = fl (fun p => if p = i then c + 1 else hiq (x / b) (i + 1) p) n := by
      rw [fl_set]
      refine fl_congr (fun p _ => ?_)
      by_cases hp : p = i
      · rw [if_pos hp, if_pos hp]
      · rw [if_neg hp, if_neg hp, if_neg hp]
    clear hd hd' hc hc' hq hr hdq
    refine ⟨max (max K1 K2) K + 1, fun k hk => ?_⟩
    obtain ⟨k, rfl⟩ : ∃ m, k = m + 1 := ⟨k - 1, by omega⟩
    have k1 : K1 ≤ k := by omega
    have k2 : K ≤ k := by omega
    have k3 : K2 ≤ k := by omega
    simp only [locutionref25_Div.l1, hK1 k k1, Option.bind_some]
    rw [if_pos hcmp, show locutionref25_Sub.f k (cs 8 L) (cs 8 b) = _ from hK2 k k3]
    simp only [Option.bind_some, fl_len]
    rw [if_pos (Int.natCast_nonneg _), if_pos (by omega), rd_fl hi, if_pos rfl, e, Int.toNat_natCast, hs]
    exact hK k k2
theorem div_out {x b n : Nat} (hx : x < 2 ^ (8 * n)) (hb : 0 < b) (hbw : wl 8 b ≤ 2147483648) (hn : n ≤ 2147483648) : ∀ i, i ≤ n →
    Ev (fun k => locutionref25_Div.l0 k (ds 8 x n) (cs 8 b) (fl (hiq (x / b) i) n) (cs 8 (x / 2 ^ (8 * i) % b)) ((i : Int) - 1)) (cs 8 (x / b), cs 8 (x % b)) := by
  intro i
  induction i with
  | zero =>
    intro _
    have hq : x / b < 2 ^ (8 * n) := Nat.lt_of_le_of_lt (Nat.div_le_self _ _) hx
    obtain ⟨K, hK⟩ := trim_ev (x / b) n (by omega) hq
    dsimp only at hK
    refine ⟨K + 1, fun k hk => ?_⟩
    obtain ⟨k, rfl⟩ : ∃ m, k = m + 1 := ⟨k - 1, by clear hq; omega⟩
    simp only [locutionref25_Div.l0]
    rw [if_neg (by omega), show fl (hiq (x / b) 0) n = ds 8 (x / b) n from fl_congr (fun p _ => if_pos (Nat.zero_le p)), hK k (by omega), Nat.mul_zero, Nat.pow_zero, Nat.div_one]
    rfl
  | succ i ih =>
    intro hi
    have h1 := div_in hb hbw hn (show i < n by omega) _ (ih (by omega)) _ 0 (dig 8 x i + 2 ^ 8 * (x / 2 ^ (8 * (i + 1)) % b)) rfl (by rw [Nat.zero_mul, Nat.zero_add])
    have hml := Nat.mod_lt (x / 2 ^ (8 * (i + 1))) hb
    generalize hr : x / 2 ^ (8 * (i + 1)) % b = r at *
    have hwr : wl 8 r ≤ 2147483648 := Nat.le_trans (wl_mono (by decide) (Nat.le_of_lt hml)) hbw
    obtain ⟨K1, hK1⟩ := trim_ev (dig 8 x i + 2 ^ 8 * r) (wl 8 r + 1) (by omega) (shift_lt (dig_lt 8 x i) (wl_lt (by decide) r))
    obtain ⟨K, hK⟩ := h1
    dsimp only at hK hK1
    have c1 : (i : Int) < (n : Int) := by omega
    have c2 : i < n := by omega
    have e0 : (((i + 1 : Nat) : Int) - 1) = (i : Int) := by omega
    have hcons := ds_cons (k := 8) (d := dig 8 x i) (x := r) (n := wl 8 r) (dig_lt 8 x i)
    have hf : fl (fun p => if p = i then 0 else hiq (x / b) (i + 1) p) n = fl (hiq (x / b) (i + 1)) n := by
      refine fl_congr (fun p _ => ?_)
      unfold hiq
      by_cases hp : p = i
      · rw [if_pos hp, if_neg (by omega)]
      · rw [if_neg hp]
    rw [hf] at hK
    refine ⟨max K1 K + 1, fun k hk => ?_⟩
    obtain ⟨k, rfl⟩ : ∃ m, k = m + 1 := ⟨k - 1, by omega⟩
    have k1 : K1 ≤ k := by omega
    have k2 : K ≤ k := by omega
    rw [e0]
    simp only [locutionref25_Div.l0, Option.bind_some, ds_len, cs_len]
    rw [if_pos (Int.natCast_nonneg _), if_pos (Int.natCast_nonneg _), if_pos c1, if_pos (by simp only [List.length_cons, List.length_nil]; omega), rd_ds c2, List.singleton_append,
      show ((dig 8 x i : Nat) : Int) :: cs 8 r = _ from hcons, hK1 k k1]
    exact hK k k2
theorem div_ev (x b n : Nat) (hx : x < 2 ^ (8 * n)) (hb : 0 < b) (hbw : wl 8 b ≤ 2147483648) (hn : n ≤ 2147483648) : Ev (fun k => locutionref25_Div.f k (ds 8 x n) (cs 8 b)) (cs 8 (x / b), cs 8 (x % b)) := by
  have h := div_out hx hb hbw hn n (Nat.le_refl _)
  rw [Nat.div_eq_of_lt hx, Nat.zero_mod, cs_zero (by decide), show fl (hiq (x / b) n) n = List.replicate n 0 from by
    rw [← fl_zero]; exact fl_congr (fun p hp => if_neg (by omega))] at h
  refine Ev.congr (fun k => ?_) h
  unfold locutionref25_Div.f
  rw [ds_len, if_pos (Int.natCast_nonneg _), if_pos (by rw [Int.toNat_natCast]; omega), Int.toNat_natCast, show wrap64 ((n : Int) - 1) = (n : Int) - 1 from w64 (by omega) (by omega)]
theorem gcd_ev (hw : Nat) (hhw : hw ≤ 2147483648) : ∀ y x, wl 8 x ≤ hw → wl 8 y ≤ hw → Ev (fun k => locutionref25_GCD.l0 k (cs 8 x) (cs 8 y)) (cs 8 (Nat.gcd x y)) := by
  intro y
  induction y using Nat.strongRecOn with
  | _ y ih =>
    intro x hx hy
    rcases Nat.eq_zero_or_pos y with h0 | h0
    · subst h0
      refine ⟨1, fun k hk => ?_⟩
      obtain ⟨k, rfl⟩ : ∃ m, k = m + 1 := ⟨k - 1, by omega⟩
      simp only [locutionref25_GCD.l0, cs_len, wl_zero (k := 8) (by decide)]
      rw [if_neg (by omega), Nat.gcd_zero_right]
    · have hml := Nat.mod_lt x h0
      have hwp : 0 < wl 8 y := by
        rcases Nat.eq_zero_or_pos (wl 8 y) with h | h
        · have := (wl_eq_zero (k := 8) (by decide)).1 h; omega
        · exact h
      obtain ⟨K, hK⟩ := ih (x % y) hml y hy (Nat.le_trans (wl_mono (by decide) (Nat.le_of_lt hml)) hy)
      obtain ⟨K1, hK1⟩ := div_ev x y (wl 8 x) (wl_lt (by decide) x) h0 (by omega) (by omega)
      dsimp only at hK hK1
      refine ⟨max K1 K + 1, fun k hk => ?_⟩
      obtain ⟨k, rfl⟩ : ∃ m, k = m + 1 := ⟨k - 1, by omega⟩
      have k1 : K1 ≤ k := by omega
      have k2 : K ≤ k := by omega
      simp only [locutionref25_GCD.l0, cs_len]
      rw [if_pos (by omega), show locutionref25_Div.f k (cs 8 x) (cs 8 y) = _ from hK1 k k1]
      simp only [Option.bind_some]
      rw [show Nat.gcd x y = Nat.gcd y (x % y) from by rw [Nat.gcd_comm, Nat.gcd_rec, Nat.gcd_comm]]
      exact hK k k2
theorem wl_pow {x n : Nat} (hx : x < 2 ^ (8 * n)) : ∀ i, wl 8 (x ^ i) ≤ n * i + 1 := by
  intro i
  rw [wl_le (by decide)]
  have h1 : x ^ i ≤ 2 ^ (8 * n * i) := by
    rw [Nat.pow_mul]
    exact Nat.pow_le_pow_left (Nat.le_of_lt hx) i
  refine Nat.lt_of_le_of_lt h1 (Nat.pow_lt_pow_right (by decide) ?_)
  rw [Nat.mul_add, Nat.mul_assoc]
  exact Nat.lt_add_of_pos_right (by decide)
theorem pow_ev (x n : Nat) (hx : x < 2 ^ (8 * n)) (m : Nat) (hm : n * m ≤ 2147483648) (hn : n ≤ 2147483648) (hmm : m ≤ 2147483648) : ∀ d i, d + i = m → Ev (fun k => locutionref25_Pow.l0 k (ds 8 x n) (m : Int) (cs 8 (x ^ i)) (i : Int)) (cs 8 (x ^ m)) := by
  intro d
  induction d with
  | zero =>
    intro i hi
    obtain rfl : i = m := by omega
    refine ⟨1, fun k hk => ?_⟩
    obtain ⟨k, rfl⟩ : ∃ m, k = m + 1 := ⟨k - 1, by omega⟩
    simp only [locutionref25_Pow.l0]
    rw [if_neg (by omega)]
  | succ d ih =>
    intro i hi
    have hb : n * i ≤ n * m := Nat.mul_le_mul_left _ (by omega)
    have hw := wl_pow hx i
    obtain ⟨K, hK⟩ := ih (i + 1) (by omega)
    obtain ⟨K1, hK1⟩ := mul_ev (x ^ i) x (wl 8 (x ^ i)) n (by omega) (by omega) (wl_lt (by decide) _) hx
    dsimp only at hK hK1
    have e : wrap64 ((i : Int) + 1) = ((i + 1 : Nat) : Int) := w64n (by omega) (by omega)
    refine ⟨max K1 K + 1, fun k hk => ?_⟩
    obtain ⟨k, rfl⟩ : ∃ m, k = m + 1 := ⟨k - 1, by clear hw; omega⟩
    have k1 : K1 ≤ k := by clear hw; omega
    have k2 : K ≤ k := by clear hw; omega
    simp only [locutionref25_Pow.l0]
    rw [if_pos (by omega), show locutionref25_Mul.f k (cs 8 (x ^ i)) (ds 8 x n) = _ from hK1 k k1]
    simp only [Option.bind_some, e]
    rw [← Nat.pow_succ]
    exact hK k k2
end Go.Proofs.Yteikhnmmkanndaa

/- What the reference's Up, Down, Of, Small, Bytes, Bits answer, by numbers. -/
namespace Go.Proofs.Yteikhnmmkanndaa
open Go.RowKit Go.Proofs.YteikhnmmkanndaaW.PrintWords Go.Proofs.YteikhnmmkanndaaW.PrintMore Go.Proofs.Yteikhnmmkanndaa.PAll

theorem tdN8 (n : Nat) : Int.tdiv ((n : Nat) : Int) 8 = ((n / 8 : Nat) : Int) := rfl
theorem tmN8 (n : Nat) : Int.tmod ((n : Nat) : Int) 8 = ((n % 8 : Nat) : Int) := rfl
theorem tdNeg (n : Nat) : Int.tdiv (-((n : Nat) : Int)) 8 = -((n / 8 : Nat) : Int) := by rw [Int.neg_tdiv]; rfl
theorem tmNeg (n : Nat) : Int.tmod (-((n : Nat) : Int)) 8 = -((n % 8 : Nat) : Int) := by rw [Int.neg_tmod]; rfl
theorem up1_l (a1 : Int) (t : Nat) (ht : Int.tmod a1 8 = (t : Int)) (ht8 : t ≤ 8) : ∀ d i V m, d + i = t → V < 2 ^ (8 * m) → m + d ≤ 2147483648 →
    Ev (fun k => locutionref25_Up.l1 k a1 (ds 8 V m) (i : Int)) (cs 8 (V * 2 ^ d)) := by
  intro d
  induction d with
  | zero =>
    intro i V m hi hV hm
    obtain ⟨K, hK⟩ := trim_ev V m (by omega) hV
    dsimp only at hK
    refine ⟨K + 1, fun k hk => ?_⟩
    obtain ⟨k, rfl⟩ : ∃ m, k = m + 1 := ⟨k - 1, by clear hV; omega⟩
    simp only [locutionref25_Up.l1, ht]
    rw [if_neg (by omega), hK k (by omega), Nat.pow_zero, Nat.mul_one]
    rfl
  | succ d ih =>
    intro i V m hi hV hm
    have hV2 : V + V < 2 ^ (8 * (m + 1)) := sum_lt (by decide) hV hV
    have hwl : wl 8 (V + V) ≤ m + 1 := (wl_le (by decide) _ _).2 hV2
    obtain ⟨K1, hK1⟩ := add_ev V V m m (by omega) (by omega) hV hV
    obtain ⟨K, hK⟩ := ih (i + 1) (V + V) (wl 8 (V + V)) (by omega) (wl_lt (by decide) _) (by omega)
    dsimp only at hK hK1
    have e : wrap64 ((i : Int) + 1) = ((i + 1 : Nat) : Int) := w64n (by omega) (by omega)
    clear hV hV2 hwl
    refine ⟨max K1 K + 1, fun k hk => ?_⟩
    obtain ⟨k, rfl⟩ : ∃ m, k = m + 1 := ⟨k - 1, by omega⟩
    simp only [locutionref25_Up.l1, ht]
    rw [if_pos (by omega), hK1 k (by omega)]
    simp only [Option.bind_some, e]
    rw [show V * 2 ^ (d + 1) = (V + V) * 2 ^ d by rw [Nat.pow_succ, Nat.mul_comm (2 ^ d) 2, ← Nat.mul_assoc, Nat.mul_two]]
    exact hK k (by omega)
theorem up0_l (a1 : Int) (q t : Nat) (hq : Int.tdiv a1 8 = (q : Int)) (hqb : q ≤ 1073741824) (ht : Int.tmod a1 8 = (t : Int)) (ht8 : t ≤ 8) (x n : Nat) (hx : x < 2 ^ (8 * n)) (hn : n ≤ 1000000000) : ∀ d i, d + i = q →
    Ev (fun k => locutionref25_Up.l0 k a1 (ds 8 (x * 2 ^ (8 * i)) (n + i)) (i : Int)) (cs 8 (x * 2 ^ (8 * q) * 2 ^ t)) := by
  have eq : wrap64 (Int.tdiv a1 8) = (q : Int) := by rw [hq]; exact w64n rfl (by omega)
  intro d
  induction d with
  | zero =>
    intro i hi
    obtain rfl : i = q := by omega
    have hV : x * 2 ^ (8 * i) < 2 ^ (8 * (n + i)) := by
      rw [Nat.mul_add, Nat.pow_add]
      exact Nat.mul_lt_mul_of_pos_right hx (Nat.two_pow_pos _)
    obtain ⟨K, hK⟩ := up1_l a1 t ht ht8 t 0 _ _ rfl hV (by omega)
    dsimp only at hK
    clear hV hx
    refine ⟨K + 1, fun k hk => ?_⟩
    obtain ⟨k, rfl⟩ : ∃ m, k = m + 1 := ⟨k - 1, by omega⟩
    simp only [locutionref25_Up.l0, eq]
    rw [if_neg (by omega)]
    exact hK k (by omega)
  | succ d ih =>
    intro i hi
    obtain ⟨K, hK⟩ := ih (i + 1) (by omega)
    dsimp only at hK
    have e : wrap64 ((i : Int) + 1) = ((i + 1 : Nat) : Int) := w64n (by omega) (by omega)
    have hc := ds_cons (k := 8) (d := 0) (x := x * 2 ^ (8 * i)) (n := n + i) (by decide)
    rw [Nat.zero_add, show 2 ^ 8 * (x * 2 ^ (8 * i)) = x * 2 ^ (8 * (i + 1)) by rw [pow_succ_mul, Nat.mul_left_comm, Nat.mul_comm (2 ^ 8)]] at hc
    clear hx
    refine ⟨K + 1, fun k hk => ?_⟩
    obtain ⟨k, rfl⟩ : ∃ m, k = m + 1 := ⟨k - 1, by omega⟩
    simp only [locutionref25_Up.l0, eq, Option.bind_some, ds_len, e]
    rw [if_pos (by omega), if_pos (by simp only [List.length_cons, List.length_nil]; omega), List.singleton_append, show (0 : Int) :: ds 8 (x * 2 ^ (8 * i)) (n + i) = _ from hc]
    exact hK k (by omega)
theorem up_ev (x : Nat) (hw : wl 8 x ≤ 1000000000) (n : Int) (h0 : -9223372036854775808 ≤ n) (h1 : n ≤ 1000000000) : Ev (fun k => locutionref25_Up.f k (cs 8 x) n) (cs 8 (x * 2 ^ n.toNat)) := by
  have base : ∀ r, Ev (fun k => locutionref25_Up.l0 k n (ds 8 (x * 2 ^ (8 * 0)) (wl 8 x + 0)) ((0 : Nat) : Int)) r → Ev (fun k => locutionref25_Up.f k (cs 8 x) n) r := by
    intro r h
    refine Ev.congr (fun k => ?_) h
    unfold locutionref25_Up.f
    simp only [Option.bind_some, cs_len, List.nil_append, List.length_nil]
    rw [if_pos (by omega), Nat.mul_zero, Nat.pow_zero, Nat.mul_one, Nat.add_zero]
    rfl
  apply base
  rcases (show n < 0 ∨ 0 ≤ n by omega) with hn | hn
  · obtain ⟨m, rfl⟩ : ∃ m : Nat, n = -(m : Int) := ⟨(-n).toNat, by omega⟩
    rw [show (-(m : Int)).toNat = 0 by omega, Nat.pow_zero, Nat.mul_one, Nat.add_zero]
    obtain ⟨K, hK⟩ := trim_ev x (wl 8 x) (by omega) (wl_lt (by decide) x)
    dsimp only at hK
    have e1 : wrap64 (Int.tdiv (-(m : Int)) 8) = -((m / 8 : Nat) : Int) := by rw [tdNeg]; exact w64 (by omega) (by omega)
    refine ⟨K + 2, fun k hk => ?_⟩
    obtain ⟨k, rfl⟩ : ∃ m, k = m + 2 := ⟨k - 2, by omega⟩
    simp only [locutionref25_Up.l0, e1]
    rw [if_neg (by omega)]
    simp only [locutionref25_Up.l1, tmNeg]
    rw [if_neg (by omega), hK k (by omega)]
    rfl
  · obtain ⟨m, rfl⟩ : ∃ m : Nat, n = (m : Int) := ⟨n.toNat, by omega⟩
    have := up0_l (m : Int) (m / 8) (m % 8) (tdN8 m) (by omega) (tmN8 m) (by omega) x (wl 8 x) (wl_lt (by decide) x) hw (m / 8) 0 rfl
    rw [Nat.mul_assoc, ← Nat.pow_add, show 8 * (m / 8) + m % 8 = m by omega] at this
    exact this

theorem cs2 : cs 8 2 = [2] := by decide +kernel
theorem cs10 : cs 8 10 = [10] := by decide +kernel
theorem cs1 : cs 8 1 = [1] := by decide +kernel
theorem down_l (a1 : Int) (t : Nat) (ht : Int.tmod a1 8 = (t : Int)) (ht8 : t ≤ 8) : ∀ d i V m, d + i = t → V < 2 ^ (8 * m) → m ≤ 2147483648 →
    Ev (fun k => locutionref25_Down.l0 k a1 (ds 8 V m) (i : Int)) (cs 8 (V / 2 ^ d)) := by
  intro d
  induction d with
  | zero =>
    intro i V m hi hV hm
    obtain ⟨K, hK⟩ := trim_ev V m (by omega) hV
    dsimp only at hK
    clear hV
    refine ⟨K + 1, fun k hk => ?_⟩
    obtain ⟨k, rfl⟩ : ∃ m, k = m + 1 := ⟨k - 1, by omega⟩
    simp only [locutionref25_Down.l0, ht]
    rw [if_neg (by omega), hK k (by omega), Nat.pow_zero, Nat.div_one]
    rfl
  | succ d ih =>
    intro i V m hi hV hm
    have hwl : wl 8 (V / 2) ≤ m := (wl_le (by decide) _ _).2 (Nat.lt_of_le_of_lt (Nat.div_le_self _ _) hV)
    obtain ⟨K1, hK1⟩ := div_ev V 2 m hV (by decide) (by decide +kernel) hm
    obtain ⟨K, hK⟩ := ih (i + 1) (V / 2) (wl 8 (V / 2)) (by omega) (wl_lt (by decide) _) (by omega)
    dsimp only at hK hK1
    rw [cs2] at hK1
    have e : wrap64 ((i : Int) + 1) = ((i + 1 : Nat) : Int) := w64n (by omega) (by omega)
    clear hV hwl
    refine ⟨max K1 K + 1, fun k hk => ?_⟩
    obtain ⟨k, rfl⟩ : ∃ m, k = m + 1 := ⟨k - 1, by omega⟩
    simp only [locutionref25_Down.l0, ht]
    rw [if_pos (by omega), hK1 k (by omega)]
    simp only [Option.bind_some, e]
    rw [show V / 2 ^ (d + 1) = (V / 2) / 2 ^ d by rw [Nat.pow_succ, Nat.mul_comm, Nat.div_div_eq_div_mul]]
    exact hK k (by omega)
theorem down_ev (x : Nat) (hw : wl 8 x ≤ 1000000000) (n : Int) (h1 : n ≤ 1000000000) : Ev (fun k => locutionref25_Down.f k (cs 8 x) n) (cs 8 (x / 2 ^ n.toNat)) := by
  rcases (show n < 1 ∨ 1 ≤ n by omega) with hn | hn
  · refine ⟨0, fun k _ => ?_⟩
    simp only [locutionref25_Down.f]
    rw [if_pos hn, show n.toNat = 0 by omega, Nat.pow_zero, Nat.div_one]
  · obtain ⟨m, rfl⟩ : ∃ m : Nat, n = (m : Int) := ⟨n.toNat, by omega⟩
    have e1 : wrap64 (Int.tdiv (m : Int) 8) = ((m / 8 : Nat) : Int) := by rw [tdN8]; exact w64n rfl (by omega)
    rw [Int.toNat_natCast]
    rcases Nat.lt_or_ge (m / 8) (wl 8 x) with hlt | hge
    · have hV : x / 2 ^ (8 * (m / 8)) < 2 ^ (8 * (wl 8 x - m / 8)) := by
        rw [Nat.div_lt_iff_lt_mul (Nat.two_pow_pos _), ← Nat.pow_add, ← Nat.mul_add, show wl 8 x - m / 8 + m / 8 = wl 8 x by omega]
        exact wl_lt (by decide) x
      have h := down_l (m : Int) (m % 8) (tmN8 m) (by omega) (m % 8) 0 _ _ rfl hV (by omega)
      rw [Nat.div_div_eq_div_mul, ← Nat.pow_add, show 8 * (m / 8) + m % 8 = m by omega] at h
      refine Ev.congr (fun k => ?_) h
      clear hV
      simp only [locutionref25_Down.f, e1, cs_len, Option.bind_some, List.nil_append, List.length_nil, Int.toNat_natCast]
      rw [if_neg (by omega), if_neg (by omega), if_pos (by omega), if_pos (by omega), show (cs 8 x).drop (m / 8) = ds 8 (x / 2 ^ (8 * (m / 8))) (wl 8 x - m / 8) from ds_drop _ _ _ _, ds_len, if_pos (by omega)]
      rfl
    · refine ⟨0, fun k _ => ?_⟩
      have hz : x / 2 ^ m = 0 := Nat.div_eq_of_lt (Nat.lt_of_lt_of_le (wl_lt (k := 8) (by decide) x) (Nat.pow_le_pow_right (by decide) (by omega)))
      simp only [locutionref25_Down.f, e1, cs_len]
      rw [if_neg (by omega), if_pos (by omega), hz, cs_zero (by decide)]

/-- byte i of a list of bytes, from the end. -/
def byt (l : List Int) (i : Nat) : Nat := (rd l ((l.length : Int) - 1 - (i : Int))).toNat
/-- bytes are bytes. -/
def Bys (l : List Int) : Prop := ∀ x, x ∈ l → 0 ≤ x ∧ x < 256
/-- the number of bytes, the highest first. -/
def be (l : List Int) : Nat := num 8 (byt l) l.length
theorem rd_in {l : List Int} (h : Bys l) (i : Int) : 0 ≤ rd l i ∧ rd l i < 256 := by
  unfold rd
  rw [List.getD_eq_getElem?_getD]
  cases hg : l[i.toNat]? with
  | none => exact ⟨Int.le_refl _, by decide⟩
  | some v => exact h v (List.mem_of_getElem? hg)
theorem byt_lt {l : List Int} (h : Bys l) (i : Nat) : byt l i < 2 ^ 8 := by
  have := rd_in h ((l.length : Int) - 1 - (i : Int))
  unfold byt
  omega
theorem be_lt {l : List Int} (h : Bys l) : be l < 2 ^ (8 * l.length) := num_lt (byt_lt h) _
theorem be_wl {l : List Int} (h : Bys l) : wl 8 (be l) ≤ l.length := (wl_le (by decide) _ _).2 (be_lt h)
theorem of_l (l : List Int) (h : Bys l) (hl : l.length ≤ 1099511627776) : ∀ d i, d + i = l.length → Ev (fun k => locutionref25_Of.l0 k l (ds 8 (be l) i) ((d : Int) - 1)) (cs 8 (be l)) := by
  intro d
  induction d with
  | zero =>
    intro i hi
    obtain rfl : i = l.length := by omega
    obtain ⟨K, hK⟩ := trim_ev (be l) l.length hl (be_lt h)
    dsimp only at hK
    refine ⟨K + 1, fun k hk => ?_⟩
    obtain ⟨k, rfl⟩ : ∃ m, k = m + 1 := ⟨k - 1, by omega⟩
    simp only [locutionref25_Of.l0]
    rw [if_neg (by omega), hK k (by omega)]
    rfl
  | succ d ih =>
    intro i hi
    obtain ⟨K, hK⟩ := ih (i + 1) (by omega)
    dsimp only at hK
    have e0 : (((d + 1 : Nat) : Int) - 1) = (d : Int) := by omega
    have e1 : wrap64 ((d : Int) - 1) = (d : Int) - 1 := w64 (by omega) (by omega)
    have hr := rd_in h (d : Int)
    have e2 : wrap64 (rd l (d : Int)) = ((dig 8 (be l) i : Nat) : Int) := by
      rw [w64 (by omega) (by omega), show dig 8 (be l) i = byt l i from dig_num (byt_lt h) _ _ (by omega)]
      unfold byt
      rw [show ((l.length : Int) - 1 - (i : Int)) = (d : Int) by omega]
      omega
    rw [ds_succ] at hK
    rw [e0]
    clear hr
    refine ⟨K + 1, fun k hk => ?_⟩
    obtain ⟨k, rfl⟩ : ∃ m, k = m + 1 := ⟨k - 1, by clear e2; omega⟩
    simp only [locutionref25_Of.l0, e1, e2, ds_len]
    rw [if_pos (Int.natCast_nonneg _), if_pos (Int.natCast_nonneg _), if_pos (by clear e2; omega), if_pos (by clear e2; omega)]
    exact hK k (by clear e2; omega)
theorem of_ev (l : List Int) (h : Bys l) (hl : l.length ≤ 1099511627776) : Ev (fun k => locutionref25_Of.f k l) (cs 8 (be l)) := by
  have := of_l l h hl l.length 0 rfl
  unfold locutionref25_Of.f
  rw [show wrap64 ((l.length : Int) - 1) = (l.length : Int) - 1 from w64 (by omega) (by omega)]
  exact this
theorem small_l (v : Nat) (hv : v < 18446744073709551616) : ∀ d i, d + i = wl 8 v → Ev (fun k => locutionref25_Small.l0 k ((v / 2 ^ (8 * i) : Nat) : Int) (ds 8 v i)) (cs 8 v) := by
  have hw : wl 8 v ≤ 8 := (wl_le (by decide) v 8).2 hv
  intro d
  induction d with
  | zero =>
    intro i hi
    obtain rfl : i = wl 8 v := by omega
    have hz : v / 2 ^ (8 * wl 8 v) = 0 := Nat.div_eq_of_lt (wl_lt (by decide) v)
    refine ⟨1, fun k hk => ?_⟩
    obtain ⟨k, rfl⟩ : ∃ m, k = m + 1 := ⟨k - 1, by clear hz; omega⟩
    simp only [locutionref25_Small.l0, hz]
    rw [if_neg (by decide)]
    rfl
  | succ d ih =>
    intro i hi
    obtain ⟨K, hK⟩ := ih (i + 1) (by omega)
    dsimp only at hK
    have hp : 0 < v / 2 ^ (8 * i) := Nat.div_pos ((lt_wl (by decide) v i).1 (by omega)) (Nat.two_pow_pos _)
    have hle : v / 2 ^ (8 * i) ≤ v := Nat.div_le_self _ _
    have e1 : IntKind.u64.wrap (Int.tdiv ((v / 2 ^ (8 * i) : Nat) : Int) 256) = ((v / 2 ^ (8 * (i + 1)) : Nat) : Int) := by
      rw [td256, pow_succ_mul, ← Nat.div_div_eq_div_mul, PAll.wrap_u64]
      generalize v / 2 ^ (8 * i) = u at *
      omega
    have e2 : wrap64 (Int.tmod ((v / 2 ^ (8 * i) : Nat) : Int) 256) = ((dig 8 v i : Nat) : Int) := by
      rw [tm256]
      exact w64n rfl (Nat.le_of_lt (Nat.lt_trans (dig8 v i) (by decide)))
    rw [ds_succ] at hK
    have hi2 : i < 17592186044416 := by omega
    have hp2 : (0 : Int) < ((v / 2 ^ (8 * i) : Nat) : Int) := by omega
    clear hle hp
    refine ⟨K + 1, fun k hk => ?_⟩
    obtain ⟨k, rfl⟩ : ∃ m, k = m + 1 := ⟨k - 1, by clear e1 e2 hp2; omega⟩
    simp only [locutionref25_Small.l0, ds_len]
    rw [if_pos hp2, if_pos hi2, e1, e2]
    exact hK k (by clear e1 e2 hp2; omega)
theorem small_ev (v : Nat) (hv : v < 18446744073709551616) : Ev (fun k => locutionref25_Small.f k ((v : Nat) : Int)) (cs 8 v) := by
  have := small_l v hv (wl 8 v) 0 rfl
  rw [Nat.mul_zero, Nat.pow_zero, Nat.div_one] at this
  exact this
theorem bits_l (v : Nat) (hv : v < 256) : ∀ n : Nat, n + v ≤ 1099511627776 → Ev (fun k => locutionref25_Bits.l0 k (n : Int) (v : Int)) ((n + bl v : Nat) : Int) := by
  induction v using Nat.strongRecOn with
  | _ v ih =>
    intro n hn
    rcases Nat.eq_zero_or_pos v with h0 | h0
    · subst h0
      refine ⟨1, fun k hk => ?_⟩
      obtain ⟨k, rfl⟩ : ∃ m, k = m + 1 := ⟨k - 1, by omega⟩
      simp only [locutionref25_Bits.l0]
      rw [if_neg (by omega), bl_zero, Nat.add_zero]
    · obtain ⟨K, hK⟩ := ih (v / 2) (by omega) (by omega) (n + 1) (by omega)
      dsimp only at hK
      have e1 : wrap64 ((n : Int) + 1) = ((n + 1 : Nat) : Int) := w64n (by omega) (by omega)
      have e2 : wrap64 (Int.tdiv (v : Int) 2) = ((v / 2 : Nat) : Int) := w64n rfl (by omega)
      have hb : bl v = bl (v / 2) + 1 := by
        have := bl_div v 1
        have h2 := (bl_le v 0).1
        have h3 : 0 < bl v := by
          rcases Nat.eq_zero_or_pos (bl v) with h | h
          · have := bl_eq_zero.1 h; omega
          · exact h
        rw [Nat.pow_one] at this
        omega
      refine ⟨K + 1, fun k hk => ?_⟩
      obtain ⟨k, rfl⟩ : ∃ m, k = m + 1 := ⟨k - 1, by clear hb; omega⟩
      simp only [locutionref25_Bits.l0, e1, e2]
      rw [if_pos (by clear hb; omega), hb, show n + (bl (v / 2) + 1) = n + 1 + bl (v / 2) by clear hb; omega]
      exact hK k (by clear hb; omega)
theorem rbits_ev (x : Nat) (hw : wl 8 x ≤ 1000000000) : Ev (fun k => locutionref25_Bits.f k (cs 8 x)) ((bl x : Nat) : Int) := by
  unfold locutionref25_Bits.f
  rw [cs_len]
  rcases Nat.eq_zero_or_pos (wl 8 x) with h0 | h0
  · have hx := (wl_eq_zero (k := 8) (by decide)).1 h0
    refine ⟨0, fun k _ => ?_⟩
    dsimp only
    rw [if_pos (by omega), hx]
    rfl
  · obtain ⟨j, hj⟩ : ∃ j, wl 8 x = j + 1 := ⟨wl 8 x - 1, by omega⟩
    have e1 : wrap64 ((wl 8 x : Int) - 1) = (j : Int) := w64n (by omega) (by omega)
    have e2 : wrap64 (8 * (j : Int)) = ((8 * j : Nat) : Int) := w64n (by omega) (by omega)
    refine Ev.to (Ev.congr (fun k => ?_) (bits_l (dig 8 x j) (dig8 x j) (8 * j) (by have := dig8 x j; omega))) (by rw [bl_top (k := 8) (by decide) hj])
    rw [if_neg (by omega), e1, if_pos (by omega), if_pos (by omega), e2, show rd (cs 8 x) (j : Int) = ((dig 8 x j : Nat) : Int) from rd_ds (by omega)]
/-- the digits, the highest first. -/
def rev8 (x n : Nat) : List Int := fl (fun i => dig 8 x (n - 1 - i)) n
theorem bytes_l (x n : Nat) (hn : n ≤ 1099511627776) : ∀ d i, d + i = n → Ev (fun k => locutionref25_Bytes.l0 k (ds 8 x n) (fl (fun i => dig 8 x (n - 1 - i)) i) ((d : Int) - 1)) (rev8 x n) := by
  intro d
  induction d with
  | zero =>
    intro i hi
    obtain rfl : i = n := by omega
    refine ⟨1, fun k hk => ?_⟩
    obtain ⟨k, rfl⟩ : ∃ m, k = m + 1 := ⟨k - 1, by omega⟩
    simp only [locutionref25_Bytes.l0]
    rw [if_neg (by omega)]
    rfl
  | succ d ih =>
    intro i hi
    obtain ⟨K, hK⟩ := ih (i + 1) (by omega)
    dsimp only at hK
    have e0 : (((d + 1 : Nat) : Int) - 1) = (d : Int) := by omega
    have e1 : wrap64 ((d : Int) - 1) = (d : Int) - 1 := w64 (by omega) (by omega)
    rw [fl_succ, show n - 1 - i = d by omega] at hK
    rw [e0]
    refine ⟨K + 1, fun k hk => ?_⟩
    obtain ⟨k, rfl⟩ : ∃ m, k = m + 1 := ⟨k - 1, by omega⟩
    simp only [locutionref25_Bytes.l0, e1, ds_len, fl_len]
    rw [if_pos (Int.natCast_nonneg _), if_pos (Int.natCast_nonneg _), if_pos (by omega), if_pos (by omega), rd_ds (by omega), show (((dig 8 x d : Nat) : Int) % 256) = ((dig 8 x d : Nat) : Int) from by
      have := dig8 x d
      generalize dig 8 x d = u at *
      omega]
    exact hK k (by omega)
theorem rbytes_ev (x : Nat) (hw : wl 8 x ≤ 1000000000) : Ev (fun k => locutionref25_Bytes.f k (cs 8 x)) (rev8 x (wl 8 x)) := by
  have := bytes_l x (wl 8 x) (by omega) (wl 8 x) 0 rfl
  unfold locutionref25_Bytes.f
  rw [cs_len, show wrap64 (((wl 8 x : Nat) : Int) - 1) = ((wl 8 x : Nat) : Int) - 1 from w64 (by omega) (by omega)]
  exact this
end Go.Proofs.Yteikhnmmkanndaa

/- Contracts of the reference's functions, by numbers. -/
namespace Go.Proofs.Yteikhnmmkanndaa
open Go.RowKit Go.Proofs.YteikhnmmkanndaaW.PrintWords Go.Proofs.YteikhnmmkanndaaW.PrintMore Go.Proofs.Yteikhnmmkanndaa.PAll

/-- a slice of the reference's digits that is x. -/
def R256 (w : World) (v : Value) (x : Nat) : Prop := Kd.V (Kd.int .i64) 3 w 0 (fun _ => True) v (cs 8 x)
/-- a slice of bytes. -/
def ByS (w : World) (v : Value) (l : List Int) : Prop := Kd.V (Kd.int .u8) 5 w 0 (fun _ => True) v l
section
variable {w w' : World} {v : Value} {x base : Nat} {ok : Nat → Prop} {l : List Int}
theorem R256.below (h : R256 w v x) (hb : Below w.heap.size w w') : R256 w' v x := Kd.V_below h hb
theorem ByS.below (h : ByS w v l) (hb : Below w.heap.size w w') : ByS w' v l := Kd.V_below h hb
theorem R256.of_R (h : Kd.R (Kd.int .i64) 3 w base ok v (cs 8 x)) : R256 w v x := Kd.V_mono (Kd.R_V h) (fun _ _ => trivial)
theorem R256.of_V (h : Kd.V (Kd.int .i64) 3 w base ok v (cs 8 x)) : R256 w v x := Kd.V_mono (Kd.V_map h (fun _ hf => hf)) (fun _ _ => trivial)
theorem ByS.of_R (h : Kd.R (Kd.int .u8) 5 w base ok v l) : ByS w v l := Kd.V_mono (Kd.R_V h) (fun _ _ => trivial)
theorem R256.zero (w : World) : R256 w (.slice none 0 0) 0 := by unfold R256; rw [cs_zero (by decide)]; exact Kd.V_nil _ _ _ _ _
end
/-- what a function answers that makes a number. -/
def Mk256 (w : World) (x : Nat) : Ending → World → Prop := fun e w' => ∃ v, e = .returned v ∧ R256 w' v x ∧ Below w.heap.size w w'

theorem rof_any (v : Value) (l : List Int) (w : World) (h : ByS w v l) (hb : Bys l) (hl : l.length ≤ 1099511627776) : Calls Try.prog 28 #[v] w (Mk256 w (be l)) := by
  obtain ⟨A, c, rfl, hc, hf⟩ := h
  obtain ⟨k, hk⟩ := Ev.rounds (of_ev l hb hl)
  refine (locutionref25_Of.calls k A c l _ w (Kd.F_now hf) hc hk).mono ?_
  rintro e w1 ⟨v, rfl, hv, hb⟩
  exact ⟨v, rfl, R256.of_R hv, hb⟩
theorem rsmall_any (x : Nat) (w : World) (hx : x < 18446744073709551616) : Calls Try.prog 118 #[.int .u64 (x : Nat)] w (Mk256 w x) := by
  obtain ⟨k, hk⟩ := Ev.rounds (small_ev x hx)
  refine (locutionref25_Small.calls k _ _ w hk).mono ?_
  rintro e w1 ⟨v, rfl, hv, hb⟩
  exact ⟨v, rfl, R256.of_R hv, hb⟩
section
variable {va vb : Value} {x y : Nat} {w : World}
theorem radd_any (ha : R256 w va x) (hb : R256 w vb y) (hx : wl 8 x ≤ 2147483648) (hy : wl 8 y ≤ 2147483648) : Calls Try.prog 59 #[va, vb] w (Mk256 w (x + y)) := by
  obtain ⟨A, c, rfl, hl, hf⟩ := ha
  obtain ⟨B, d, rfl, hm, hg⟩ := hb
  obtain ⟨k, hk⟩ := Ev.rounds (add_ev x y (wl 8 x) (wl 8 y) (by omega) (by omega) (wl_lt (by decide) _) (wl_lt (by decide) _))
  refine (locutionref25_Add.calls k A c _ B d _ _ w (Kd.F_now hf) hl (Kd.F_now hg) hm hk).mono ?_
  rintro e w1 ⟨v, rfl, hv, hb⟩
  exact ⟨v, rfl, R256.of_R hv, hb⟩
theorem rsub_any (ha : R256 w va x) (hb : R256 w vb y) (hx : wl 8 x ≤ 2147483648) (h : y ≤ x) : Calls Try.prog 60 #[va, vb] w (Mk256 w (x - y)) := by
  obtain ⟨A, c, rfl, hl, hf⟩ := ha
  obtain ⟨B, d, rfl, hm, hg⟩ := hb
  obtain ⟨k, hk⟩ := Ev.rounds (sub_ev x y (wl 8 x) (wl 8 y) (by omega) (wl_lt (by decide) _) (wl_lt (by decide) _) h)
  refine (locutionref25_Sub.calls k A c _ B d _ _ w (Kd.F_now hf) hl (Kd.F_now hg) hm hk).mono ?_
  rintro e w1 ⟨v, rfl, hv, hb⟩
  exact ⟨v, rfl, R256.of_R hv, hb⟩
theorem rmul_any (ha : R256 w va x) (hb : R256 w vb y) (hx : wl 8 x ≤ 2147483648) (hy : wl 8 y ≤ 2147483648) : Calls Try.prog 27 #[va, vb] w (Mk256 w (x * y)) := by
  obtain ⟨A, c, rfl, hl, hf⟩ := ha
  obtain ⟨B, d, rfl, hm, hg⟩ := hb
  obtain ⟨k, hk⟩ := Ev.rounds (mul_ev x y (wl 8 x) (wl 8 y) (by omega) (by omega) (wl_lt (by decide) _) (wl_lt (by decide) _))
  refine (locutionref25_Mul.calls k A c _ B d _ _ w (Kd.F_now hf) hl (Kd.F_now hg) hm hk).mono ?_
  rintro e w1 ⟨v, rfl, hv, hb⟩
  exact ⟨v, rfl, R256.of_R hv, hb⟩
theorem rcmp_any (ha : R256 w va x) (hb : R256 w vb y) (hx : wl 8 x ≤ 2147483648) : Calls Try.prog 57 #[va, vb] w fun e w' => e = .returned (.int .i64 (cmpN x y)) ∧ Drawn0 w w' := by
  obtain ⟨A, c, rfl, hl, hf⟩ := ha
  obtain ⟨B, d, rfl, hm, hg⟩ := hb
  obtain ⟨k, hk⟩ := Ev.rounds (cmp_ev x y (by omega))
  exact locutionref25_Cmp.calls k A c _ B d _ _ w (Kd.F_now hf) hl (Kd.F_now hg) hm hk
theorem rdiv_any (ha : R256 w va x) (hb : R256 w vb y) (hx : wl 8 x ≤ 2147483648) (hy : wl 8 y ≤ 2147483648) (h0 : 0 < y) :
    Calls Try.prog 30 #[va, vb] w fun e w' => ∃ q r, e = .returned (.tuple #[q, r]) ∧ R256 w' q (x / y) ∧ R256 w' r (x % y) ∧ Below w.heap.size w w' := by
  obtain ⟨A, c, rfl, hl, hf⟩ := ha
  obtain ⟨B, d, rfl, hm, hg⟩ := hb
  obtain ⟨k, hk⟩ := Ev.rounds (div_ev x y (wl 8 x) (wl_lt (by decide) _) h0 hy hx)
  refine (locutionref25_Div.calls k A c _ B d _ _ _ w (Kd.F_now hf) hl (Kd.F_now hg) hm hk).mono ?_
  rintro e w1 ⟨v, u, rfl, hv, hu, hb⟩
  exact ⟨v, u, rfl, R256.of_R hv, R256.of_R hu, hb⟩
theorem rgcd_any (ha : R256 w va x) (hb : R256 w vb y) (hx : wl 8 x ≤ 2147483648) (hy : wl 8 y ≤ 2147483648) : Calls Try.prog 54 #[va, vb] w (Mk256 w (Nat.gcd x y)) := by
  obtain ⟨A, c, rfl, hl, hf⟩ := ha
  obtain ⟨B, d, rfl, hm, hg⟩ := hb
  obtain ⟨k, hk⟩ := Ev.rounds (gcd_ev 2147483648 (Nat.le_refl _) y x hx hy)
  refine (locutionref25_GCD.calls k (fun _ => True) A c _ (fun _ => True) B d _ _ w ⟨A, c, rfl, hl, hf⟩ ⟨B, d, rfl, hm, hg⟩ hk).mono ?_
  rintro e w1 ⟨v, rfl, hv, hb⟩
  exact ⟨v, rfl, R256.of_V hv, hb⟩
theorem rpow_any (ha : R256 w va x) (m : Nat) (hm : wl 8 x * m ≤ 2147483648) (hx : wl 8 x ≤ 2147483648) (hmm : m ≤ 2147483648) : Calls Try.prog 56 #[va, .int .i64 (m : Nat)] w (Mk256 w (x ^ m)) := by
  obtain ⟨A, c, rfl, hl, hf⟩ := ha
  have h := pow_ev x (wl 8 x) (wl_lt (by decide) _) m hm hx hmm m 0 rfl
  rw [Nat.pow_zero, cs1] at h
  obtain ⟨k, hk⟩ := Ev.rounds h
  refine (locutionref25_Pow.calls k A c _ _ _ w (Kd.F_now hf) hl hk).mono ?_
  rintro e w1 ⟨v, rfl, hv, hb⟩
  exact ⟨v, rfl, R256.of_R hv, hb⟩
theorem rup_any (ha : R256 w va x) (n : Int) (hx : wl 8 x ≤ 1000000000) (h0 : -9223372036854775808 ≤ n) (h1 : n ≤ 1000000000) : Calls Try.prog 32 #[va, .int .i64 n] w (Mk256 w (x * 2 ^ n.toNat)) := by
  obtain ⟨A, c, rfl, hl, hf⟩ := ha
  obtain ⟨k, hk⟩ := Ev.rounds (up_ev x hx n h0 h1)
  refine (locutionref25_Up.calls k A c _ _ _ w (Kd.F_now hf) hl hk).mono ?_
  rintro e w1 ⟨v, rfl, hv, hb⟩
  exact ⟨v, rfl, R256.of_R hv, hb⟩
theorem rdown_any (ha : R256 w va x) (n : Int) (hx : wl 8 x ≤ 1000000000) (h1 : n ≤ 1000000000) : Calls Try.prog 34 #[va, .int .i64 n] w (Mk256 w (x / 2 ^ n.toNat)) := by
  obtain ⟨A, c, rfl, hl, hf⟩ := ha
  obtain ⟨k, hk⟩ := Ev.rounds (down_ev x hx n h1)
  refine (locutionref25_Down.calls k (fun _ => True) A c _ _ _ w ⟨A, c, rfl, hl, hf⟩ hk).mono ?_
  rintro e w1 ⟨v, rfl, hv, hb⟩
  exact ⟨v, rfl, R256.of_V hv, hb⟩
theorem rbits_any (ha : R256 w va x) (hx : wl 8 x ≤ 1000000000) : Calls Try.prog 49 #[va] w fun e w' => e = .returned (.int .i64 (bl x : Nat)) ∧ Drawn0 w w' := by
  obtain ⟨A, c, rfl, hl, hf⟩ := ha
  obtain ⟨k, hk⟩ := Ev.rounds (rbits_ev x hx)
  exact locutionref25_Bits.calls k A c _ _ w (Kd.F_now hf) hl hk
theorem rbytes_any (ha : R256 w va x) (hx : wl 8 x ≤ 1000000000) : Calls Try.prog 105 #[va] w fun e w' => ∃ v, e = .returned v ∧ ByS w' v (rev8 x (wl 8 x)) ∧ Below w.heap.size w w' := by
  obtain ⟨A, c, rfl, hl, hf⟩ := ha
  obtain ⟨k, hk⟩ := Ev.rounds (rbytes_ev x hx)
  refine (locutionref25_Bytes.calls k A c _ _ w (Kd.F_now hf) hl hk).mono ?_
  rintro e w1 ⟨v, rfl, hv, hb⟩
  exact ⟨v, rfl, ByS.of_R hv, hb⟩
end
end Go.Proofs.Yteikhnmmkanndaa
