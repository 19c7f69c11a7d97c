/- The censuses behind all contexts add up to that of all n-grams. Plain laws. -/
import Derived.Test.YtokcnblonbcpeaaPlus
import Derived.Test.YtokcnblonbcpeaaLex
import Derived.Test.YtokcnblonbcpeaaSmall
namespace Go.Proofs.Ytokcnblonbcpeaa

theorem add_plus_l (s t : Cen) (x : Cnt) : (s.plus t).add x = (s.add x).plus t := by
  by_cases ho : outB x = true
  · rw [Cen.add_out ho, Cen.add_out ho]
  · rw [Cen.add_in ho, Cen.add_in ho]
    unfold Cen.plus
    simp only [Cen.mk.injEq]
    refine ⟨by omega, by omega, ?_, ?_, ?_, ?_⟩ <;> split <;> omega
theorem add_plus_r (s t : Cen) (x : Cnt) : (s.plus t).add x = s.plus (t.add x) := by
  by_cases ho : outB x = true
  · rw [Cen.add_out ho, Cen.add_out ho]
  · rw [Cen.add_in ho, Cen.add_in ho]
    unfold Cen.plus
    simp only [Cen.mk.injEq]
    refine ⟨by omega, by omega, ?_, ?_, ?_, ?_⟩ <;> split <;> omega
theorem cenOf_or (L : List Cnt) (p q : Cnt → Bool) (hd : ∀ x ∈ L, p x = true → q x = false) : cenOf (L.filter (fun x => p x || q x)) = (cenOf (L.filter p)).plus (cenOf (L.filter q)) := by
  rcases List.eq_nil_or_concat L with rfl | ⟨M, x, rfl⟩
  · rfl
  · rw [List.concat_eq_append] at hd ⊢
    have ih := cenOf_or M p q (fun y hy => hd y (List.mem_append_left _ hy))
    have hx := hd x (by simp)
    rw [List.filter_append, List.filter_append, List.filter_append]
    cases hp : p x
    · cases hq : q x
      · simpa [hp, hq] using ih
      · simp only [List.filter_cons, hp, hq, Bool.or_true, if_true, List.filter_nil, Bool.false_eq_true, if_false, List.append_nil]
        rw [cenOf_snoc, cenOf_snoc, ih, add_plus_r]
    · have hq := hx hp
      simp only [List.filter_cons, hp, hq, Bool.or_false, if_true, List.filter_nil, Bool.false_eq_true, if_false, List.append_nil]
      rw [cenOf_snoc, cenOf_snoc, ih, add_plus_l]
termination_by L.length

theorem cmpL_self (a : List Int) : cmpL a a = 0 := by
  induction a with
  | nil => rfl
  | cons x a ih => unfold cmpL; rw [if_neg (by omega), if_neg (by omega)]; exact ih
theorem cmpL_eq (a b : List Int) (h : cmpL a b = 0) : a = b := by
  induction a generalizing b with
  | nil => cases b with
    | nil => rfl
    | cons y b => simp [cmpL] at h
  | cons x a ih =>
    cases b with
    | nil => simp [cmpL] at h
    | cons y b =>
      unfold cmpL at h
      split at h
      · omega
      · split at h
        · omega
        · rw [ih b h, show x = y by omega]
theorem cmpL_take (a b : List Int) (m : Nat) (h : cmpL a b ≤ 0) : cmpL (a.take m) (b.take m) ≤ 0 := by
  induction m generalizing a b with
  | zero => simp [cmpL]
  | succ m ih =>
    cases a with
    | nil => cases b <;> simp [cmpL]
    | cons x a =>
      cases b with
      | nil => simp [cmpL] at h
      | cons y b =>
        rw [List.take_succ_cons, List.take_succ_cons]
        unfold cmpL at h ⊢
        split
        · omega
        · rename_i h1
          rw [if_neg h1] at h
          split
          · rename_i h2
            rw [if_pos h2] at h
            omega
          · rename_i h2
            rw [if_neg h2] at h
            exact ih a b h
/-- has the context of x been met among the first k? -/
def seen (L : List Cnt) (m k : Nat) (x : Cnt) : Bool := (L.take k).any (fun y => behB (y.g.take m) x)
theorem seen_zero (L : List Cnt) (m : Nat) : L.filter (seen L m 0) = [] := by
  rw [List.filter_eq_nil_iff]
  intro x _
  simp [seen]
theorem seen_succ (L : List Cnt) (m k : Nat) (h : k < L.length) (x : Cnt) : seen L m (k + 1) x = (seen L m k x || behB (L[k].g.take m) x) := by
  unfold seen
  rw [List.take_succ_eq_append_getElem h, List.any_append]
  simp
theorem seen_same (L : List Cnt) (m k : Nat) (h : k + 1 < L.length) (he : (L[k]'(by omega)).g.take m = L[k + 1].g.take m) : seen L m (k + 1 + 1) = seen L m (k + 1) := by
  funext x
  rw [seen_succ L m (k + 1) h, seen_succ L m k (by omega), he]
  cases seen L m k x <;> cases behB (L[k + 1].g.take m) x <;> rfl
theorem seen_first (L : List Cnt) (m : Nat) (h : 0 < L.length) : cenOf (L.filter (seen L m 1)) = (cenOf (L.filter (seen L m 0))).plus (cenOf (after L (L[0].g.take m))) := by
  have : seen L m 1 = fun x => seen L m 0 x || behB (L[0].g.take m) x := funext fun x => seen_succ L m 0 h x
  rw [this]
  exact cenOf_or L _ _ (fun x _ hx => by simp [seen] at hx)
theorem seen_new (L : List Cnt) (m k : Nat) (hs : Sorted L) (h : k + 1 < L.length) (hl : ∀ i (hi : i < L.length), i < k + 1 + 1 → L[i].g.length = m + 1) (he : ¬ (L[k]'(by omega)).g.take m = L[k + 1].g.take m) :
    cenOf (L.filter (seen L m (k + 1 + 1))) = (cenOf (L.filter (seen L m (k + 1)))).plus (cenOf (after L (L[k + 1].g.take m))) := by
  have : seen L m (k + 1 + 1) = fun x => seen L m (k + 1) x || behB (L[k + 1].g.take m) x := funext fun x => seen_succ L m (k + 1) h x
  rw [this]
  refine cenOf_or L _ _ (fun x _ hx => ?_)
  cases hb : behB (L[k + 1].g.take m) x
  · rfl
  · exfalso
    unfold seen at hx
    rw [List.any_eq_true] at hx
    obtain ⟨y, hy, hyx⟩ := hx
    obtain ⟨i, hi, rfl⟩ := List.getElem_of_mem hy
    have hik : i < k + 1 ∧ i < L.length := by simp at hi; omega
    rw [List.getElem_take] at hyx
    unfold behB pre at hyx hb
    rw [Bool.and_eq_true, decide_eq_true_iff, decide_eq_true_iff, List.length_take] at hyx hb
    have l1 := hl i hik.2 (by omega)
    have l2 := hl (k + 1) h (by omega)
    rw [Nat.min_eq_left (by omega)] at hyx hb
    have hu : L[i].g.take m = L[k + 1].g.take m := hyx.1.symm.trans hb.1
    have h1 : cmpL (L[i].g.take m) ((L[k]'(by omega)).g.take m) ≤ 0 := by
      by_cases hik2 : i = k
      · subst hik2; rw [cmpL_self]; omega
      · exact cmpL_take _ _ _ (by have := (List.pairwise_iff_getElem.1 hs) i k hik.2 (by omega) (by omega); omega)
    have h2 : cmpL ((L[k]'(by omega)).g.take m) (L[k + 1].g.take m) ≤ 0 := cmpL_take _ _ _ (by have := (List.pairwise_iff_getElem.1 hs) k (k + 1) (by omega) h (by omega); omega)
    rw [hu, cmpL_anti] at h1
    exact he (cmpL_eq _ _ (by omega))
theorem seen_all (L : List Cnt) (m : Nat) (hl : ∀ i (hi : i < L.length), L[i].g.length = m + 1) : L.filter (seen L m L.length) = L := by
  rw [List.filter_eq_self]
  intro x hx
  unfold seen
  rw [List.take_length, List.any_eq_true]
  refine ⟨x, hx, ?_⟩
  obtain ⟨i, hi, rfl⟩ := List.getElem_of_mem hx
  have := hl i hi
  unfold behB pre
  rw [List.length_take, Nat.min_eq_left (by omega), decide_eq_true rfl, decide_eq_true (by omega)]
  rfl
theorem small_long {L : List Cnt} {most long : Int} (h : smallB L most long = true) (i : Nat) (hi : i < L.length) : (L[i].g.length : Int) ≤ long := by
  unfold smallB at h
  rw [Bool.and_eq_true, List.all_eq_true] at h
  have := h.2 L[i] (List.getElem_mem hi)
  rwa [decide_eq_true_iff] at this
theorem plus_tot (s t u : Cen) (h : u = s.plus t) (b : Int) (hu : u.tot ≤ b) : s.tot + t.tot ≤ b := by
  subst h
  exact hu
theorem fits_filter (L : List Cnt) (p : Cnt → Bool) (hn : L.length ≤ 1000) (hp : posSum L ≤ 4611686018427387904) : (cenOf (L.filter p)).fits := by
  have h0 : (L.filter p).length ≤ L.length := List.length_filter_le _ _
  have h1 := Cen.ok_of (L.filter p) (L.filter p).length (Nat.le_refl _)
  rw [List.take_length] at h1
  have h2 := cen_tot (L.filter p)
  have h3 : posSum (L.filter p) ≤ posSum L := by
    clear h0 h1 h2 hn hp
    induction L with
    | nil => simp
    | cons x L ih =>
      rw [List.filter_cons]
      split
      · unfold posSum; omega
      · conv => rhs; unfold posSum
        omega
  exact Cen.fits_of h1 (by omega) h2.1 (by omega)
end Go.Proofs.Ytokcnblonbcpeaa
