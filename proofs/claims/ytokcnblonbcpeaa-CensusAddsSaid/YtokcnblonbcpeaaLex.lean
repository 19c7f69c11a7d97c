/- Rows of numbers in their order; in a list that rises, those behind a context stand side by side. Plain laws. -/
import Derived.Test.YtokcnblonbcpeaaMem
namespace Go.Proofs.Ytokcnblonbcpeaa

def cmpI (a b : Int) : Int := if a < b then -1 else if b < a then 1 else 0
def cmpL : List Int → List Int → Int
  | [], [] => 0
  | [], _ :: _ => -1
  | _ :: _, [] => 1
  | a :: x, b :: y => if a < b then -1 else if b < a then 1 else cmpL x y
theorem cmpL_range (a b : List Int) : cmpL a b = -1 ∨ cmpL a b = 0 ∨ cmpL a b = 1 := by
  induction a generalizing b with
  | nil => cases b <;> simp [cmpL]
  | cons x a ih =>
    cases b with
    | nil => simp [cmpL]
    | cons y b =>
      unfold cmpL
      split
      · simp
      · split
        · simp
        · exact ih b
theorem cmpL_anti (a b : List Int) : cmpL b a = - cmpL a b := by
  induction a generalizing b with
  | nil => cases b <;> simp [cmpL]
  | cons x a ih =>
    cases b with
    | nil => simp [cmpL]
    | cons y b =>
      unfold cmpL
      by_cases h1 : x < y
      · rw [if_pos h1, if_neg (by omega), if_pos h1]; rfl
      · by_cases h2 : y < x
        · rw [if_pos h2, if_neg h1, if_pos h2]
        · rw [if_neg h2, if_neg h1, if_neg h1, if_neg h2]; exact ih b
theorem cmpL_trans {a b c : List Int} (h1 : cmpL a b < 0) (h2 : cmpL b c < 0) : cmpL a c < 0 := by
  induction a generalizing b c with
  | nil =>
    cases b with
    | nil => simp [cmpL] at h1
    | cons y b =>
      cases c with
      | nil => simp [cmpL] at h2
      | cons z c => simp [cmpL]
  | cons x a ih =>
    cases b with
    | nil => simp [cmpL] at h1
    | cons y b =>
      cases c with
      | nil => simp [cmpL] at h2
      | cons z c =>
        unfold cmpL at h1 h2 ⊢
        by_cases hxy : x < y
        · by_cases hyz : y < z
          · rw [if_pos (by omega)]; omega
          · rw [if_neg hyz] at h2
            by_cases hzy : z < y
            · rw [if_pos hzy] at h2; omega
            · rw [if_pos (by omega)]; omega
        · rw [if_neg hxy] at h1
          by_cases hyx : y < x
          · rw [if_pos hyx] at h1; omega
          · rw [if_neg hyx] at h1
            by_cases hyz : y < z
            · rw [if_pos (by omega)]; omega
            · rw [if_neg hyz] at h2
              by_cases hzy : z < y
              · rw [if_pos hzy] at h2; omega
              · rw [if_neg hzy] at h2
                rw [if_neg (by omega), if_neg (by omega)]
                exact ih h1 h2
/-- does a row begin with h? -/
def pre (h g : List Int) : Bool := decide (g.take h.length = h)
theorem pre_cons (x : Int) (h : List Int) (y : Int) (g : List Int) : pre (x :: h) (y :: g) = (decide (x = y) && pre h g) := by
  unfold pre
  rw [Bool.eq_iff_iff, Bool.and_eq_true, decide_eq_true_iff, decide_eq_true_iff, decide_eq_true_iff]
  simp only [List.length_cons, List.take_succ_cons]
  constructor
  · intro e; injection e with e1 e2; exact ⟨e1.symm, e2⟩
  · rintro ⟨rfl, e⟩; rw [e]
theorem pre_nil (g : List Int) : pre [] g = true := by unfold pre; simp
theorem pre_cons_nil (x : Int) (h : List Int) : pre (x :: h) [] = false := by unfold pre; simp
/-- a longer row that begins with h is greater. -/
theorem pre_longer (h g : List Int) (hp : pre h g = true) (hl : h.length < g.length) : 0 < cmpL g h := by
  induction h generalizing g with
  | nil =>
    cases g with
    | nil => simp at hl
    | cons y g => simp [cmpL]
  | cons x h ih =>
    cases g with
    | nil => simp at hl
    | cons y g =>
      rw [pre_cons, Bool.and_eq_true, decide_eq_true_iff] at hp
      obtain ⟨rfl, hp⟩ := hp
      unfold cmpL
      rw [if_neg (by omega), if_neg (by omega)]
      exact ih g hp (by simpa using hl)
/-- what is greater than h and does not begin with it is greater than all that begins with it. -/
theorem pre_below (h y z : List Int) (hy : 0 < cmpL y h) (hny : pre h y = false) (hz : pre h z = true) : cmpL z y < 0 := by
  induction h generalizing y z with
  | nil => rw [pre_nil] at hny; simp at hny
  | cons x h ih =>
    cases z with
    | nil => rw [pre_cons_nil] at hz; simp at hz
    | cons b z =>
      rw [pre_cons, Bool.and_eq_true, decide_eq_true_iff] at hz
      obtain ⟨rfl, hz⟩ := hz
      cases y with
      | nil => simp [cmpL] at hy
      | cons c y =>
        unfold cmpL at hy ⊢
        by_cases h1 : c < x
        · rw [if_pos h1] at hy; omega
        · rw [if_neg h1] at hy
          by_cases h2 : x < c
          · rw [if_pos h2]; omega
          · rw [if_neg h2] at hy
            rw [if_neg h2, if_neg h1]
            have hcx : c = x := by omega
            subst hcx
            rw [pre_cons, decide_eq_true rfl, Bool.true_and] at hny
            exact ih y z hy hny hz

/-- the n-grams behind a context: those that begin with it, and have one word more. -/
def behB (h : List Int) (x : Cnt) : Bool := pre h x.g && decide (x.g.length = h.length + 1)
def after (L : List Cnt) (h : List Int) : List Cnt := L.filter (behB h)
def Sorted (L : List Cnt) : Prop := L.Pairwise (fun a b => cmpL a.g b.g < 0)
theorem after_eq (L : List Cnt) (h : List Int) (k : Nat) (hs : Sorted L) (h1 : ∀ i (hi : i < L.length), i < k → cmpL L[i].g h ≤ 0) (h2 : ∀ i (hi : i < L.length), k ≤ i → 0 < cmpL L[i].g h) :
    after L h = ((L.drop k).takeWhile (fun x => pre h x.g)).filter (behB h) := by
  unfold after
  conv => lhs; rw [← List.take_append_drop k L]
  rw [List.filter_append]
  have ha : (L.take k).filter (behB h) = [] := by
    rw [List.filter_eq_nil_iff]
    intro x hx hb
    obtain ⟨i, hi, rfl⟩ := List.getElem_of_mem hx
    have hik : i < k ∧ i < L.length := by simp at hi; omega
    rw [List.getElem_take] at hb
    unfold behB at hb
    rw [Bool.and_eq_true, decide_eq_true_iff] at hb
    have := pre_longer h _ hb.1 (by omega)
    have := h1 i hik.2 hik.1
    omega
  rw [ha, List.nil_append]
  conv => lhs; rw [← List.takeWhile_append_dropWhile (p := fun x : Cnt => pre h x.g) (l := L.drop k)]
  rw [List.filter_append]
  have hd : ((L.drop k).dropWhile (fun x => pre h x.g)).filter (behB h) = [] := by
    have hsub : ((L.drop k).dropWhile (fun x => pre h x.g)).Sublist (L.drop k) := List.dropWhile_sublist _
    have hpw : ((L.drop k).dropWhile (fun x => pre h x.g)).Pairwise (fun a b => cmpL a.g b.g < 0) := List.Pairwise.sublist (hsub.trans (List.drop_sublist k L)) hs
    have hgt : ∀ x ∈ (L.drop k).dropWhile (fun x => pre h x.g), 0 < cmpL x.g h := by
      intro x hx
      have hx2 := hsub.subset hx
      obtain ⟨i, hi, rfl⟩ := List.getElem_of_mem hx2
      rw [List.getElem_drop]
      exact h2 _ (by simp at hi; omega) (by omega)
    rw [List.filter_eq_nil_iff]
    intro z hz hb
    cases hW : (L.drop k).dropWhile (fun x => pre h x.g) with
    | nil => rw [hW] at hz; simp at hz
    | cons y t =>
      have hny : pre h y.g = false := by
        have := List.head_dropWhile_not (fun x : Cnt => pre h x.g) (l := L.drop k) (by rw [hW]; simp)
        simpa [hW] using this
      rw [hW] at hz hpw hgt
      unfold behB at hb
      rw [Bool.and_eq_true] at hb
      rcases List.mem_cons.1 hz with rfl | hz
      · rw [hny] at hb; simp at hb
      · have h3 := (List.pairwise_cons.1 hpw).1 z hz
        have h4 := pre_below h y.g z.g (hgt y (by simp)) hny hb.1
        rw [cmpL_anti] at h4
        omega
  rw [hd, List.append_nil]

/-- does a list rise? -/
def risesB : List Cnt → Bool
  | [] => true
  | [_] => true
  | a :: b :: L => decide (cmpL a.g b.g < 0) && risesB (b :: L)
theorem sorted_of_rises (L : List Cnt) (h : risesB L = true) : Sorted L := by
  match L with
  | [] => exact List.Pairwise.nil
  | [a] => simp [Sorted]
  | a :: b :: L =>
    unfold risesB at h
    rw [Bool.and_eq_true, decide_eq_true_iff] at h
    have ih := sorted_of_rises (b :: L) h.2
    refine List.Pairwise.cons ?_ ih
    intro x hx
    rcases List.mem_cons.1 hx with rfl | hx
    · exact h.1
    · exact cmpL_trans h.1 ((List.pairwise_cons.1 ih).1 x hx)
end Go.Proofs.Ytokcnblonbcpeaa
