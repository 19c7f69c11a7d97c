/- Laid together by prune.py out of the texts that the row needs: the declarations that its theorem uses. -/
import Derived.Test.YteikhnmmkanndaaXLogTwos4
import Derived.Orders
import Derived.Still
import Derived.Tactics
import Derived.Tactics2
namespace Go.Proofs.Yteikhnmmkanndaa
section
variable {P : Program} {ops : Array Oper}
def dstOf (ops : Array Oper) (j : Nat) : Option Tmp := (ops[j]?).bind (·.dst)
def waits (ops : Array Oper) (i k : Nat) : Bool := ((ops[i]?).map (fun o => o.after.any (fun e => Region.binds .any e && e.on == k))).getD false
def dstsB (ops : Array Oper) (size : Nat) : Bool :=
  (List.range ops.size).all fun i => match dstOf ops i with
    | none => true
    | some t => decide (t < size) && (List.range ops.size).all fun j => j == i || dstOf ops j != some t
structure Mix (ops : Array Oper) (a0 : Act) (L : Nat → Bool) (v : Nat → Value) (a : Act) : Prop where
  defers : a.defers = a0.defers
  size : a.tmps.size = a0.tmps.size
  got : ∀ j t, L j = true → dstOf ops j = some t → t < a0.tmps.size → a.tmps[t]? = some (v j)
  kept : ∀ t, (∀ j, L j = true → dstOf ops j ≠ some t) → a.tmps[t]? = a0.tmps[t]?
def setB (L : Nat → Bool) (i : Nat) : Nat → Bool := fun j => if j = i then true else L j
def setV (v : Nat → Value) (i : Nat) (u : Value) : Nat → Value := fun j => if j = i then u else v j
theorem setV_same (v : Nat → Value) (i : Nat) : setV v i (v i) = v := by
  funext j
  unfold setV
  split
  · rename_i h; rw [h]
  · rfl
set_option maxRecDepth 4000 in
theorem dst_ne {size i j : Nat} {t : Tmp} (hD : dstsB ops size = true) (hi : dstOf ops i = some t) (hj : dstOf ops j = some t) : i = j := by
  have hil : i < ops.size := by
    rcases Nat.lt_or_ge i ops.size with h | h
    · exact h
    · unfold dstOf at hi; rw [Array.getElem?_eq_none h] at hi; cases hi
  have hjl : j < ops.size := by
    rcases Nat.lt_or_ge j ops.size with h | h
    · exact h
    · unfold dstOf at hj; rw [Array.getElem?_eq_none h] at hj; cases hj
  unfold dstsB at hD
  have h1 := List.all_eq_true.1 hD i (List.mem_range.2 hil)
  rw [hi] at h1
  simp only [Bool.and_eq_true] at h1
  have h2 := List.all_eq_true.1 h1.2 j (List.mem_range.2 hjl)
  rw [hj] at h2
  rcases Bool.or_eq_true _ _ ▸ h2 with h3 | h3
  · exact (beq_iff_eq.1 h3).symm
  · simp at h3
theorem dst_lt {size i : Nat} {t : Tmp} (hD : dstsB ops size = true) (hi : dstOf ops i = some t) : t < size := by
  have hil : i < ops.size := by
    rcases Nat.lt_or_ge i ops.size with h | h
    · exact h
    · unfold dstOf at hi; rw [Array.getElem?_eq_none h] at hi; cases hi
  have h1 := List.all_eq_true.1 hD i (List.mem_range.2 hil)
  rw [hi] at h1
  simp only [Bool.and_eq_true, decide_eq_true_eq] at h1
  exact h1.1
theorem Mix.start (a0 : Act) (v : Nat → Value) : Mix ops a0 (fun _ => false) v a0 := ⟨rfl, rfl, fun _ _ h => absurd h (by simp), fun _ _ => rfl⟩
theorem Mix.put {a0 a : Act} {L : Nat → Bool} {v : Nat → Value} (h : Mix ops a0 L v a) {size : Nat} (hD : dstsB ops size = true) (i : Nat) (u : Value) : Mix ops a0 (setB L i) (setV v i u) (a.put (dstOf ops i) u) := by
  cases hd : dstOf ops i with
  | none =>
    refine ⟨h.defers, h.size, fun j t hj ht htl => ?_, fun t hno => h.kept t fun j hj => hno j (by unfold setB; split <;> simp_all)⟩
    have hji : j ≠ i := by rintro rfl; rw [hd] at ht; cases ht
    unfold setB setV at *
    rw [if_neg hji] at hj ⊢
    exact h.got j t hj ht htl
  | some d =>
    refine ⟨h.defers, by simp [Act.put, h.size], fun j t hj ht htl => ?_, fun t hno => ?_⟩
    · show (a.tmps.setIfInBounds d u)[t]? = _
      by_cases hji : j = i
      · subst hji
        rw [hd] at ht
        cases ht
        rw [Array.getElem?_setIfInBounds_self_of_lt (by rw [h.size]; exact htl)]
        unfold setV
        rw [if_pos rfl]
      · have hne : d ≠ t := fun e => hji (dst_ne hD ht (by rw [hd, e]))
        rw [Array.getElem?_setIfInBounds_ne hne]
        unfold setB at hj
        unfold setV
        rw [if_neg hji] at hj ⊢
        exact h.got j t hj ht htl
    · have hne : d ≠ t := fun e => hno i (by unfold setB; rw [if_pos rfl]) (by rw [hd, e])
      show (a.tmps.setIfInBounds d u)[t]? = _
      rw [Array.getElem?_setIfInBounds_ne hne]
      exact h.kept t fun j hj => hno j (by unfold setB; split <;> simp_all)
theorem Mix.congrL {a0 a : Act} {L L' : Nat → Bool} {v : Nat → Value} (h : Mix ops a0 L v a) (hL : ∀ j, j < ops.size → L j = L' j) : Mix ops a0 L' v a := by
  have hlt : ∀ j t, dstOf ops j = some t → j < ops.size := fun j t hj => by
    rcases Nat.lt_or_ge j ops.size with h | h
    · exact h
    · unfold dstOf at hj; rw [Array.getElem?_eq_none h] at hj; cases hj
  refine ⟨h.defers, h.size, fun j t hj ht => h.got j t (by rw [hL j (hlt j t ht)]; exact hj) ht, fun t hno => h.kept t fun j hj ht => hno j (by rw [← hL j (hlt j t ht)]; exact hj) ht⟩
theorem Mix.same {a0 a a' : Act} {L : Nat → Bool} {v : Nat → Value} (h : Mix ops a0 L v a) (h' : Mix ops a0 L v a') {size : Nat} (hD : dstsB ops size = true) (hs : size = a0.tmps.size) : a = a' := by
  have ht : a.tmps = a'.tmps := by
    apply Array.ext_getElem?
    intro t
    by_cases hx : ∃ j, L j = true ∧ dstOf ops j = some t
    · obtain ⟨j, hj, hd⟩ := hx
      have hl := dst_lt hD hd
      rw [hs] at hl
      rw [h.got j t hj hd hl, h'.got j t hj hd hl]
    · rw [h.kept t (fun j hj hd => hx ⟨j, hj, hd⟩), h'.kept t (fun j hj hd => hx ⟨j, hj, hd⟩)]
  cases a; cases a'
  have := h.defers; have := h'.defers
  simp_all
def putN (ops : Array Oper) (v : Nat → Value) (a0 : Act) : Nat → Act
  | 0 => a0
  | n + 1 => (putN ops v a0 n).put (dstOf ops n) (v n)
theorem Mix.putN {a0 : Act} (v : Nat → Value) {size : Nat} (hD : dstsB ops size = true) (n : Nat) : Mix ops a0 (fun j => decide (j < n)) v (putN ops v a0 n) := by
  induction n with
  | zero => exact (Mix.start a0 v).congrL (fun j _ => by simp)
  | succ n ih =>
    have h1 := ih.put hD n (v n)
    rw [setV_same] at h1
    refine h1.congrL (fun j _ => ?_)
    unfold setB
    split
    · rename_i hj; subst hj; simp
    · rename_i hj
      rw [Bool.eq_iff_iff, decide_eq_true_iff, decide_eq_true_iff]
      omega
theorem lex_apart : ∀ (fuel k : Nat) (listed : Array Bool), listed.size = ops.size → (∀ j, j < ops.size → listed.getD j false = decide (j < k)) → Region.lexFrom .any ops fuel k listed = true → k + fuel = ops.size →
    ∀ i j oi oj, k ≤ i → i < j → ops[i]? = some oi → ops[j]? = some oj → waits ops j i = true ∨ oi.apart ops oj = true := by
  intro fuel
  induction fuel with
  | zero =>
    intro k listed _ _ _ hk i j oi oj hki _ hoi _
    have := (Array.getElem?_eq_some_iff.1 hoi).1
    omega
  | succ fuel ih =>
    intro k listed hsz hl hB hk i j oi oj hki hij hoi hoj
    simp only [Region.lexFrom, Bool.and_eq_true] at hB
    obtain ⟨⟨hr, hf⟩, hB'⟩ := hB
    by_cases hik : i = k
    · subst hik
      have hjl := (Array.getElem?_eq_some_iff.1 hoj).1
      have hun : listed.getD j true = false := by
        have h1 := hl j hjl
        rw [decide_eq_false (by omega)] at h1
        have h2 : j < listed.size := by omega
        simp [h2] at h1 ⊢
        exact h1
      by_cases hw : waits ops j i = true
      · exact .inl hw
      · refine .inr (Region.free_spec hoi hf j oj hoj (by omega) hun fun e he hb heq => hw ?_)
        unfold waits
        rw [hoj]
        simp only [Option.map_some, Option.getD_some]
        exact Array.any_eq_true'.2 ⟨e, he, by simp [hb, heq]⟩
    · refine ih (k + 1) (listed.setIfInBounds k true) (by simpa using hsz) ?_ hB' (by omega) i j oi oj (by omega) hij hoi hoj
      intro m hm
      by_cases hmk : m = k
      · subst hmk
        rw [decide_eq_true (by omega)]
        have h2 : m < listed.size := by omega
        simp [h2]
      · rw [getD_set_ne false (Ne.symm hmk), hl m hm, Bool.eq_iff_iff, decide_eq_true_iff, decide_eq_true_iff]
        omega
def see (o : Oper) (a : Act) : Value := match o.dst with
  | some d => a.tmps.getD d undef
  | none => undef
def Only (a0 : Act) (o : Oper) (R : Value → World → Prop) : Exit → Act → World → Prop := fun e a w => e = .normal ∧ a.defers = a0.defers ∧ R (see o a) w
theorem wpOp_of_only {Q : Exit → Act → World → Prop} {a0 ai a : Act} {i : Nat} {o : Oper} {w : World} {R : Value → World → Prop} {K : Act → World → Prop}
    (ho : ops[i]? = some o) (hai : ai.defers = a0.defers) (hsz : ∀ d, o.dst = some d → d < ai.tmps.size)
    (he : execOp a.eval o = execOp ai.eval o) (hw : Region.wanted o (yielded ops a.tmps) = Region.wanted o (yielded ops ai.tmps))
    (h : wpList P ops (Only a0 o R) [o] ai w) (hK : ∀ u w', R u w' → K (a.put o.dst u) w') : wpOp P ops Q i K a w := by
  have hsee : ∀ u, ∃ u', see o (ai.put o.dst u) = u' ∧ a.put o.dst u' = a.put o.dst u := by
    intro u
    unfold see
    cases hd : o.dst with
    | none => exact ⟨undef, rfl, rfl⟩
    | some d =>
      refine ⟨u, ?_, rfl⟩
      have := hsz d hd
      simp [Act.put, Array.getD_eq_getD_getElem?, this]
  have hR : ∀ u w', R (see o (ai.put o.dst u)) w' → K (a.put o.dst u) w' := by
    intro u w' hr
    obtain ⟨u', hu', hp⟩ := hsee u
    rw [← hp]
    exact hK u' w' (hu' ▸ hr)
  unfold wpOp
  simp only [ho]
  unfold wpList at h
  rw [hw]
  split
  · rename_i hwt
    rw [if_pos hwt] at h
    rcases h with h | ⟨_, a', w', hf, _⟩
    case inr => cases hf
    refine .inl ?_
    unfold Oper.wp at h ⊢
    rw [he]
    generalize (execOp ai.eval o).run P w = r at h ⊢
    cases r with
    | ok n w' =>
      cases n <;> simp only [Oper.upon, wpList] at h ⊢
      case value u => exact hR u w' h.2.2
      case skip => exact hR undef w' h.2.2
      case defer d =>
        exfalso
        have h1 := h.2.1
        rw [← hai] at h1
        have h2 : (d :: ai.defers) = ai.defers := by cases hd : o.dst <;> rw [hd] at h1 <;> exact h1
        have := congrArg List.length h2
        simp at this
      case enter f args =>
        refine Calls.mono h fun e w'' he => ?_
        cases e with
        | returned u => exact hR u w'' he.2.2
        | panicked c => exact absurd he.1 (by simp)
        | outgrown => obtain ⟨_, _, hf, _⟩ := he; cases hf
      case row row args => exact Rows.mono h fun u w'' he => hR u w'' he.2.2
    | halt x w' =>
      cases x <;> simp only [Oper.upon] at h ⊢
      case panic u => exact absurd h.1 (by simp)
  · rename_i hwt
    rw [if_neg hwt] at h
    exact hR undef w h.2.2
def Steps (P : Program) (ops : Array Oper) (a0 : Act) (J : (Nat → Bool) → (Nat → Value) → World → Prop) (E : ((Nat → Value) → Act) → Prop) : Nat → List Oper → ((Nat → Value) → Act) → Prop
  | _, [], F => E F
  | k, o :: r, F => (∀ L v w, J L v w → L k = false → (∀ j, waits ops k j = true → L j = true) → (∀ j, waits ops j k = true → L j = false) → wpList P ops (Only a0 o (fun u w' => J (setB L k) (setV v k u) w')) [o] (F v) w) ∧
      Steps P ops a0 J E (k + 1) r (fun v => (F v).put o.dst (v k))
variable {J : (Nat → Bool) → (Nat → Value) → World → Prop} {E : ((Nat → Value) → Act) → Prop}
theorem Steps.cons {a0 : Act} {k : Nat} {o : Oper} {r : List Oper} {F : (Nat → Value) → Act}
    (h : ∀ L v w, J L v w → L k = false → (∀ j, waits ops k j = true → L j = true) → (∀ j, waits ops j k = true → L j = false) → wpList P ops (Only a0 o (fun u w' => J (setB L k) (setV v k u) w')) [o] (F v) w)
    (h2 : Steps P ops a0 J E (k + 1) r (fun v => (F v).put o.dst (v k))) : Steps P ops a0 J E k (o :: r) F := ⟨h, h2⟩
theorem Steps.nil {a0 : Act} {k : Nat} {F : (Nat → Value) → Act} (h : E F) : Steps P ops a0 J E k [] F := h
theorem Steps.last {a0 : Act} : ∀ (l : List Oper) (k : Nat) (F : (Nat → Value) → Act), (∀ j, l[j]? = ops[k + j]?) → (∀ v, F v = putN ops v a0 k) → Steps P ops a0 J E k l F → E (fun v => putN ops v a0 (k + l.length))
  | [], k, F, _, hF, h => by
    have : F = fun v => putN ops v a0 k := funext hF
    rw [this] at h
    exact h
  | x :: l, k, F, hl, hF, h => by
    have h0 : ops[k]? = some x := by simpa using (hl 0).symm
    have := Steps.last l (k + 1) _ (fun j => by have := hl (j + 1); simpa [Nat.add_assoc, Nat.add_comm 1 j] using this) (fun v => by
      show (F v).put x.dst (v k) = (putN ops v a0 k).put (dstOf ops k) (v k)
      rw [hF v]
      unfold dstOf
      rw [h0]
      rfl) h.2
    rw [show k + (x :: l).length = k + 1 + l.length by simp; omega]
    exact this
theorem Steps.get {a0 : Act} : ∀ (l : List Oper) (k : Nat) (F : (Nat → Value) → Act), (∀ j, l[j]? = ops[k + j]?) → (∀ v, F v = putN ops v a0 k) → Steps P ops a0 J E k l F →
    ∀ i o, k ≤ i → ops[i]? = some o → ∀ L v w, J L v w → L i = false → (∀ j, waits ops i j = true → L j = true) → (∀ j, waits ops j i = true → L j = false) → wpList P ops (Only a0 o (fun u w' => J (setB L i) (setV v i u) w')) [o] (putN ops v a0 i) w
  | [], k, F, hl, _, _, i, o, hki, ho => by
    have h := hl (i - k)
    rw [show k + (i - k) = i by omega, ho] at h
    simp at h
  | x :: l, k, F, hl, hF, hS, i, o, hki, ho => by
    have h0 : ops[k]? = some x := by simpa using (hl 0).symm
    by_cases hik : i = k
    · subst hik
      rw [h0] at ho
      cases ho
      intro L v w
      rw [← hF v]
      exact hS.1 L v w
    · refine Steps.get l (k + 1) _ (fun j => by have := hl (j + 1); simpa [Nat.add_assoc, Nat.add_comm 1 j] using this) (fun v => ?_) hS.2 i o (by omega) ho
      show (F v).put x.dst (v k) = (putN ops v a0 k).put (dstOf ops k) (v k)
      rw [hF v]
      unfold dstOf
      rw [h0]
      rfl
theorem lex_waits : ∀ (fuel k : Nat) (listed : Array Bool), listed.size = ops.size → (∀ j, j < ops.size → listed.getD j false = decide (j < k)) → Region.lexFrom .any ops fuel k listed = true → k + fuel = ops.size →
    ∀ i m, k ≤ i → waits ops i m = true → m < i := by
  intro fuel
  induction fuel with
  | zero =>
    intro k listed _ _ _ hk i m hki hw
    unfold waits at hw
    rw [Array.getElem?_eq_none (by omega)] at hw
    cases hw
  | succ fuel ih =>
    intro k listed hsz hl hB hk i m hki hw
    simp only [Region.lexFrom, Bool.and_eq_true] at hB
    obtain ⟨⟨hr, hf⟩, hB'⟩ := hB
    by_cases hik : i = k
    · subst hik
      obtain ⟨_, o, ho, hall⟩ := mem_ready.1 (show i ∈ Region.ready .any ops listed by simpa using hr)
      unfold waits at hw
      rw [ho] at hw
      simp only [Option.map_some, Option.getD_some] at hw
      obtain ⟨e, he, hb⟩ := Array.any_eq_true'.1 hw
      simp only [Bool.and_eq_true, beq_iff_eq] at hb
      have h1 := hall e he hb.1
      rw [hb.2] at h1
      by_cases hm : m < ops.size
      · rw [hl m hm] at h1
        exact decide_eq_true_iff.1 h1
      · have : ¬ m < listed.size := by omega
        simp [this] at h1
    · refine ih (k + 1) (listed.setIfInBounds k true) (by simpa using hsz) ?_ hB' (by omega) i m (by omega) hw
      intro m hm
      by_cases hmk : m = k
      · subst hmk
        rw [decide_eq_true (by omega)]
        have h2 : m < listed.size := by omega
        simp [h2]
      · rw [getD_set_ne false (Ne.symm hmk), hl m hm, Bool.eq_iff_iff, decide_eq_true_iff, decide_eq_true_iff]
        omega
theorem waits_of {i : Nat} {o : Oper} (ho : ops[i]? = some o) {e : Edge} (he : e ∈ o.after) (hb : Region.binds .any e = true) : waits ops i e.on = true := by
  unfold waits
  rw [ho]
  exact Array.any_eq_true'.2 ⟨e, he, by simp [hb]⟩
theorem of_waits {i k : Nat} {o : Oper} (ho : ops[i]? = some o) (h : waits ops i k = true) : ∃ e ∈ o.after, Region.binds .any e = true ∧ e.on = k := by
  unfold waits at h
  rw [ho] at h
  simp only [Option.map_some, Option.getD_some] at h
  obtain ⟨e, he, hb⟩ := Array.any_eq_true'.1 h
  simp only [Bool.and_eq_true, beq_iff_eq] at hb
  exact ⟨e, he, hb⟩
def todo (listed : Array Bool) (n : Nat) : Nat := ((List.range n).filter (fun j => !listed.getD j false)).length
theorem todo_set {listed : Array Bool} {n i : Nat} (hi : i < n) (hs : listed.size = n) (hl : listed.getD i false = false) : todo (listed.setIfInBounds i true) n < todo listed n := by
  unfold todo
  have key : ∀ m, m ≤ n → ((List.range m).filter (fun j => !(listed.setIfInBounds i true).getD j false)).length + (if i < m then 1 else 0) = ((List.range m).filter (fun j => !listed.getD j false)).length := by
    intro m
    induction m with
    | zero => intro _; simp
    | succ m ih =>
      intro hm
      rw [List.range_succ, List.filter_append, List.filter_append, List.length_append, List.length_append, ← ih (by omega)]
      by_cases him : i = m
      · subst him
        have h1 : (listed.setIfInBounds i true).getD i false = true := by
          have : i < listed.size := by omega
          simp [this]
        have a1 : ([i].filter (fun j => !(listed.setIfInBounds i true).getD j false)).length = 0 := by rw [List.filter_cons, h1]; rfl
        have a2 : ([i].filter (fun j => !listed.getD j false)).length = 1 := by rw [List.filter_cons, hl]; rfl
        rw [a1, a2, if_neg (Nat.lt_irrefl i), if_pos (Nat.lt_succ_self i)]
      · have a1 : ([m].filter (fun j => !(listed.setIfInBounds i true).getD j false)) = [m].filter (fun j => !listed.getD j false) := by
          rw [List.filter_cons, List.filter_cons, getD_set_ne false him]
          rfl
        rw [a1]
        by_cases h2 : i < m
        · rw [if_pos h2, if_pos (Nat.lt_succ_of_lt h2)]; omega
        · rw [if_neg h2, if_neg (by omega)]; omega
  have := key n (Nat.le_refl n)
  rw [if_pos hi] at this
  omega
theorem wpAny_mono {Q : Exit → Act → World → Prop} {a0 : Act} (hD : dstsB ops a0.tmps.size = true) (hsel : Region.noSelect ops = true)
    (hlex : ∀ i j oi oj, i < j → ops[i]? = some oi → ops[j]? = some oj → waits ops j i = true ∨ oi.apart ops oj = true)
    (hlt : ∀ i k, waits ops i k = true → k < i)
    (hstep : ∀ i o, ops[i]? = some o → ∀ L v w, J L v w → L i = false → (∀ j, waits ops i j = true → L j = true) → (∀ j, waits ops j i = true → L j = false) → wpList P ops (Only a0 o (fun u w' => J (setB L i) (setV v i u) w')) [o] (putN ops v a0 i) w)
    (hend : ∀ v w, J (fun j => decide (j < ops.size)) v w → Q .normal (putN ops v a0 ops.size) w) :
    ∀ (fuel : Nat) (listed : Array Bool) (a : Act) (w : World) (v : Nat → Value), listed.size = ops.size →
      (∀ j k, listed.getD j false = true → waits ops j k = true → listed.getD k false = true) → todo listed ops.size ≤ fuel →
      J (fun j => listed.getD j false) v w → Mix ops a0 (fun j => listed.getD j false) v a → wpAny P .any ops Q fuel listed a w := by
  have hunl : ∀ (listed : Array Bool) j, listed.size = ops.size → j < ops.size → listed.getD j true = listed.getD j false := fun listed j hs hj => by
    have : j < listed.size := by omega
    simp [this]
  have hdone : ∀ (listed : Array Bool) (a : Act) (w : World) (v : Nat → Value), listed.size = ops.size → (∀ j, j < ops.size → listed.getD j false = true) →
      J (fun j => listed.getD j false) v w → Mix ops a0 (fun j => listed.getD j false) v a → Q .normal a w := by
    intro listed a w v hs hall hj hm
    have hLL : (fun j => listed.getD j false) = fun j => decide (j < ops.size) := funext fun j => by
      by_cases h : j < ops.size
      · rw [hall j h, decide_eq_true h]
      · rw [decide_eq_false h]
        have : ¬ j < listed.size := by omega
        simp [this]
    rw [hLL] at hj hm
    rw [hm.same (Mix.putN v hD ops.size) hD rfl]
    exact hend v w hj
  -- where none may come up, all have
  have hstuck : ∀ (listed : Array Bool), listed.size = ops.size → Region.ready .any ops listed = [] → ∀ j, j < ops.size → listed.getD j false = true := by
    intro listed hs hr j
    induction j using Nat.strongRecOn with
    | ind j ih =>
      intro hj
      cases hlj : listed.getD j false with
      | true => rfl
      | false =>
        exfalso
        have : j ∈ Region.ready .any ops listed := by
          refine mem_ready.2 ⟨(hunl listed j hs hj).trans hlj, ops[j], by simp [hj], fun e he hb => ?_⟩
          have hk := hlt j e.on (waits_of (by simp [hj]) he hb)
          exact ih e.on hk (by omega)
        rw [hr] at this
        cases this
  intro fuel
  induction fuel with
  | zero =>
    intro listed a w v hs hdc hto hj hm
    have hall : ∀ j, j < ops.size → listed.getD j false = true := by
      intro j hjl
      cases hlj : listed.getD j false with
      | true => rfl
      | false =>
        have : j ∈ (List.range ops.size).filter (fun j => !listed.getD j false) := List.mem_filter.2 ⟨List.mem_range.2 hjl, by simp [hlj]⟩
        unfold todo at hto
        rw [List.length_eq_zero_iff.1 (Nat.le_zero.1 hto)] at this
        cases this
    refine ⟨?_, hdone listed a w v hs hall hj hm⟩
    apply List.eq_nil_iff_forall_not_mem.2
    intro i hi
    obtain ⟨h1, o, ho, _⟩ := mem_ready.1 hi
    have hil := (Array.getElem?_eq_some_iff.1 ho).1
    rw [hunl listed i hs hil, hall i hil] at h1
    cases h1
  | succ fuel ih =>
    intro listed a w v hs hdc hto hj hm
    refine ⟨fun h0 => hdone listed a w v hs (hstuck listed hs h0) hj hm, fun i hi => ?_⟩
    obtain ⟨h1, o, ho, hall⟩ := mem_ready.1 hi
    have hil := (Array.getElem?_eq_some_iff.1 ho).1
    rw [hunl listed i hs hil] at h1
    have hwi : ∀ j, waits ops i j = true → listed.getD j false = true := fun j hw => by
      obtain ⟨e, he, hb, rfl⟩ := of_waits ho hw
      exact hall e he hb
    have hp := Mix.putN (a0 := a0) v hD i
    -- what it looks at is the same in both frames
    have heq : ∀ t, t ∈ o.looksAt ops → a.tmps[t]? = (putN ops v a0 i).tmps[t]? := by
      intro t ht
      by_cases hx : ∃ j, dstOf ops j = some t
      · obtain ⟨j, hd⟩ := hx
        have htl := dst_lt hD hd
        have hjs : ∃ oj, ops[j]? = some oj ∧ oj.dst = some t := by
          unfold dstOf at hd
          cases hoj : ops[j]? with
          | none => rw [hoj] at hd; cases hd
          | some oj => rw [hoj] at hd; exact ⟨oj, rfl, hd⟩
        obtain ⟨oj, hoj, hdj⟩ := hjs
        rcases Nat.lt_trichotomy j i with hji | hji | hji
        · have hw : waits ops i j = true := by
            rcases hlex j i oj o hji hoj ho with h | h
            · exact h
            · exact absurd ht ((Oper.apart_spec h).1 t hdj)
          rw [hm.got j t (hwi j hw) hd htl, hp.got j t (by simp [hji]) hd htl]
        · subst hji
          rw [hm.kept t (fun m hmL hmd => by
            have := dst_ne hD hmd hd
            subst this
            rw [h1] at hmL
            cases hmL), hp.kept t (fun m hmL hmd => by
            have := dst_ne hD hmd hd
            subst this
            simp at hmL)]
        · have hlj : listed.getD j false = false := by
            cases hlj : listed.getD j false with
            | false => rfl
            | true =>
              rcases hlex i j o oj hji ho hoj with h | h
              · have := hdc j i hlj h
                rw [h1] at this
                cases this
              · exact absurd ht ((Oper.apart_spec h).2.2 t hdj)
          rw [hm.kept t (fun m hmL hmd => by
            have := dst_ne hD hmd hd
            subst this
            rw [hlj] at hmL
            cases hmL), hp.kept t (fun m hmL hmd => by
            have := dst_ne hD hmd hd
            subst this
            simp at hmL
            omega)]
      · rw [hm.kept t (fun m _ hmd => hx ⟨m, hmd⟩), hp.kept t (fun m _ hmd => hx ⟨m, hmd⟩)]
    have hex : execOp a.eval o = execOp (putN ops v a0 i).eval o := by
      refine execOp_congr o (fun cs b => Region.noSelect_spec hsel i o cs b ho) fun x hx => ?_
      cases x with
      | tmp t =>
        have ht : t ∈ o.looksAt ops := List.mem_append_left _ (List.mem_filterMap.2 ⟨.tmp t, by simpa using hx, rfl⟩)
        have := heq t ht
        simp only [Act.eval, Array.getD_eq_getD_getElem?, this]
      | _ => rfl
    have hwa : Region.wanted o (yielded ops a.tmps) = Region.wanted o (yielded ops (putN ops v a0 i).tmps) := by
      unfold Region.wanted
      cases hg : o.guard with
      | none => rfl
      | some gw =>
        obtain ⟨g, want⟩ := gw
        have hy : yielded ops a.tmps g = yielded ops (putN ops v a0 i).tmps g := by
          unfold yielded
          cases ht : (ops[g]?).bind (·.dst) with
          | none => rfl
          | some t =>
            have := heq t (by simp [Oper.looksAt, hg, ht])
            simp only [Option.bind_some, this]
        simp only [hy]
    refine wpOp_of_only ho hp.defers (fun d hd => ?_) hex hwa (hstep i o ho _ v w hj h1 hwi (fun j hw => by
      cases hlj : listed.getD j false with
      | false => rfl
      | true =>
        have := hdc j i hlj hw
        rw [h1] at this
        cases this)) fun u w' hu => ?_
    · rw [hp.size]
      exact dst_lt hD (show dstOf ops i = some d by unfold dstOf; rw [ho]; exact hd)
    · have hset : (fun j => (listed.setIfInBounds i true).getD j false) = setB (fun j => listed.getD j false) i := funext fun j => by
        unfold setB
        split
        · rename_i hji
          subst hji
          have : j < listed.size := by omega
          simp [this]
        · rename_i hji
          exact getD_set_ne false (Ne.symm hji)
      refine ih (listed.setIfInBounds i true) _ w' (setV v i u) (by simpa using hs) ?_ ?_ (by rw [hset]; exact hu) ?_
      · intro j k hjL hw
        by_cases hkj : k = i
        · subst hkj
          have : k < listed.size := by omega
          simp [this]
        · rw [getD_set_ne false (Ne.symm hkj)]
          by_cases hji : j = i
          · subst hji
            exact hwi k hw
          · rw [getD_set_ne false (Ne.symm hji)] at hjL
            exact hdc j k hjL hw
      · have := todo_set hil hs h1
        omega
      · rw [hset]
        have := hm.put hD i u
        unfold dstOf at this
        rw [ho] at this
        exact this
theorem region_mono {id : Nat} {Q : Exit → Act → World → Prop} {a0 : Act} {w : World} {l : List Oper} (J : (Nat → Bool) → (Nat → Value) → World → Prop)
    (hm : P.follows .mixedOrders = true) (hB : Region.lexB .any l.toArray = true) (hD : dstsB l.toArray a0.tmps.size = true)
    (h0 : J (fun _ => false) (fun _ => undef) w.drew)
    (hs : Steps P l.toArray a0 J (fun F => ∀ v w', J (fun j => decide (j < l.length)) v w' → Q .normal (F v) w') 0 l (fun _ => a0)) : (Code.region id l.toArray true).wp P Q a0 w := by
  simp only [Region.lexB, Bool.and_eq_true] at hB
  have hempty : ∀ j, (Array.replicate l.toArray.size false).getD j false = false := fun j => by
    simp [Array.getElem?_replicate]
    split <;> rfl
  have hl0 : ∀ j, j < l.toArray.size → (Array.replicate l.toArray.size false).getD j false = decide (j < 0) := fun j _ => by rw [hempty]; simp
  have hend := Steps.last l 0 (fun _ => a0) (fun j => by simp) (fun _ => rfl) hs
  rw [Nat.zero_add] at hend
  refine wp_region_any hm (wpAny_mono (J := J) hD hB.1 (fun i j oi oj hij => lex_apart l.toArray.size 0 _ (by simp) hl0 hB.2 (by omega) i j oi oj (Nat.zero_le _) hij)
    (fun i k => lex_waits l.toArray.size 0 _ (by simp) hl0 hB.2 (by omega) i k (Nat.zero_le _))
    (fun i o => Steps.get l 0 (fun _ => a0) (fun j => by simp) (fun _ => rfl) hs i o (Nat.zero_le _)) (fun v w' h => ?_) l.toArray.size _ a0 _ (fun _ => undef) (by simp) ?_ ?_ ?_ ?_)
  · simp only [List.size_toArray] at h ⊢
    exact hend v w' h
  · intro j k hj
    rw [hempty] at hj
    cases hj
  · unfold todo
    exact Nat.le_trans (List.length_filter_le _ _) (by simp)
  · rw [show (fun j => (Array.replicate l.toArray.size false).getD j false) = fun _ => false from funext hempty]
    exact h0
  · rw [show (fun j => (Array.replicate l.toArray.size false).getD j false) = fun _ => false from funext hempty]
    exact Mix.start a0 _
end
end Go.Proofs.Yteikhnmmkanndaa
namespace Go.Proofs.Yteikhnmmkanndaa
open Go.RowKit Go.Proofs.YteikhnmmkanndaaW.PrintWords
structure Keep (w w' : World) : Prop where
  size : w.heap.size ≤ w'.heap.size
  ints : ∀ p k n, w.cell? p = some (.int k n) → w'.cell? p = some (.int k n)
  rats : ∀ b cs, Blk w b 47 cs → 3 ≤ cs.size → Blk w' b 47 cs
theorem Keep.refl (w : World) : Keep w w := ⟨Nat.le_refl _, fun _ _ _ h => h, fun _ _ h _ => h⟩
theorem Keep.trans {a b c : World} (h : Keep a b) (k : Keep b c) : Keep a c := ⟨Nat.le_trans h.size k.size, fun p q n hp => k.ints p q n (h.ints p q n hp), fun p cs hp hs => k.rats p cs (h.rats p cs hp hs) hs⟩
theorem Keep.of_below {w w' : World} (h : Below w.heap.size w w') : Keep w w' := ⟨h.size, fun p _ _ hp => (h.cell (World.block_lt_of_cell? w p hp)).trans hp, fun _ _ hp _ => blk_below hp h⟩
def noInt : Value → Bool
  | .int _ _ => false
  | _ => true
theorem Keep.set {w : World} {g : Nat} {t : TypeId} {cs : Array Value} (h : Blk w g t cs) (o : Nat) (hn : (noInt (cs.getD o undef) && (t != 47 || Nat.ble cs.size 2)) = true) (u : Value) : Keep w (w.setCell ⟨g, o, none⟩ u) := by
  rw [Bool.and_eq_true] at hn
  refine ⟨by simp [World.setCell], fun p k n hp => ?_, fun b cs' hb hs => ?_⟩
  · by_cases he : p = ⟨g, o, none⟩
    · exfalso
      have hn := hn.1
      subst he
      rw [h.cell] at hp
      rw [Array.getD_eq_getD_getElem?, hp] at hn
      cases hn
    · rw [World.cell?_setCell_other w _ p u (fun e => he e.symm)]
      exact hp
  · refine hb.far ?_ u
    rintro rfl
    unfold Blk at h hb
    rw [h] at hb
    have e := Option.some.inj hb
    injection e with e1 e2 e3
    subst e1
    subst e2
    have := hn.2
    rw [Bool.or_eq_true] at this
    rcases this with h1 | h1
    · simp at h1
    · have := Nat.le_of_ble_eq_true h1
      omega
theorem N64.keep {w w' : World} {v : Value} {x : Nat} (h : N64 w v x) (k : Keep w w') : N64 w' v x := by
  obtain ⟨A, c, rfl, h1, h2, h3⟩ := h
  refine ⟨A, c, rfl, h1, h2, fun i hi => ?_⟩
  obtain ⟨b, o, hA, hlt, hc⟩ := h3 i hi
  exact ⟨b, o, hA, Nat.lt_of_lt_of_le hlt k.size, k.ints _ _ _ hc⟩
theorem V_keepI {w w' : World} {v : Value} {e : Nat} {kd : IntKind} {l : List Int} (h : Kd.V (Kd.int kd) e w 0 (fun _ => True) v l) (k : Keep w w') : Kd.V (Kd.int kd) e w' 0 (fun _ => True) v l := by
  obtain ⟨A, c, hv, hl, hf⟩ := h
  refine ⟨A, c, hv, hl, ?_⟩
  have hC : Kd.C (Kd.int kd) w A l.length l := Kd.F_now hf
  intro W' hW
  refine ⟨hC.1, hC.2.1, fun hn => ?_⟩
  obtain ⟨ad, hA, hc⟩ := hC.2.2 hn
  refine ⟨ad, hA, fun j p hj => ?_⟩
  obtain ⟨cs, hcl, hK, hcell⟩ := hc j p hj
  refine ⟨cs, hcl, hK, fun i u hu => ?_⟩
  have h1 := hcell i u hu
  have hcs : cs = [.int kd p] := hK
  have hu' : u = .int kd p := by
    rw [hcs] at hu
    match i, hu with
    | 0, hu => exact (Option.some.inj hu).symm
  rw [hu'] at h1 ⊢
  have h2 := k.ints _ _ _ h1
  have hlt := World.block_lt_of_cell? w' _ h2
  rw [World.cell?_of_block (w := w') (hW _ trivial hlt)]
  exact h2
theorem R256.keep {w w' : World} {v : Value} {x : Nat} (h : R256 w v x) (k : Keep w w') : R256 w' v x := V_keepI h k
theorem ByS.keep {w w' : World} {v : Value} {l : List Int} (h : ByS w v l) (k : Keep w w') : ByS w' v l := V_keepI h k
structure Kept1 where
  holds : Value → World → Prop
  keeps : ∀ {v : Value} {w w' : World}, holds v w → Keep w w' → holds v w'
def Kept1.eq (u : Value) : Kept1 := ⟨fun v _ => v = u, fun h _ => h⟩
def Kept1.any : Kept1 := ⟨fun _ _ => True, fun h _ => h⟩
def Kept1.n (x : Nat) : Kept1 := ⟨fun v w => N64 w v x, fun h k => h.keep k⟩
def Kept1.r (x : Nat) : Kept1 := ⟨fun v w => R256 w v x, fun h k => h.keep k⟩
def Kept1.by_ (l : List Int) : Kept1 := ⟨fun v w => ByS w v l, fun h k => h.keep k⟩
def Kept1.two (a b : Kept1) : Kept1 := ⟨fun v w => ∃ x y, v = .tuple #[x, y] ∧ a.holds x w ∧ b.holds y w, fun ⟨x, y, hv, h1, h2⟩ k => ⟨x, y, hv, a.keeps h1 k, b.keeps h2 k⟩⟩
def Kept1.three (a b c : Kept1) : Kept1 := ⟨fun v w => ∃ x y z, v = .tuple #[x, y, z] ∧ a.holds x w ∧ b.holds y w ∧ c.holds z w, fun ⟨x, y, z, hv, h1, h2, h3⟩ k => ⟨x, y, z, hv, a.keeps h1 k, b.keeps h2 k, c.keeps h3 k⟩⟩
structure Bx where
  at_ : Nat ⊕ Nat
  by_ : Nat
  ty : TypeId
  old : Array Value
  full : Array Value → World → Prop
  keeps : ∀ {cs : Array Value} {w w' : World}, full cs w → Keep w w' → full cs w'
def Bx.own (b : Bx) (L : Nat → Bool) (v : Nat → Value) (g : Nat) : Prop := match b.at_ with
  | .inl i => L i = true ∧ v i = .pointer (some ⟨g, 0, none⟩)
  | .inr r => g = r
def Bx.apart (b : Bx) (i : Nat) : Bool := (b.by_ != i) && (match b.at_ with | .inl j => j != i | .inr _ => true)
def oldsOf : List Bx → List Nat
  | [] => []
  | b :: bs => match b.at_ with
    | .inl _ => oldsOf bs
    | .inr r => r :: oldsOf bs
structure But (T : List Nat) (S0 w : World) : Prop where
  os : w.os = S0.os
  tape : w.tape = S0.tape
  output : w.output = S0.output
  size : S0.heap.size ≤ w.heap.size
  block : ∀ k, k < S0.heap.size → k ∉ T → w.heap[k]? = S0.heap[k]?
theorem But.below {S0 w : World} (h : But [] S0 w) : Below S0.heap.size S0 w := ⟨h.os, h.tape, h.output, h.size, fun k hk => h.block k hk (by simp)⟩
theorem But.start (T : List Nat) (w : World) : But T w w.drew := ⟨rfl, rfl, rfl, Nat.le_refl _, fun _ _ _ => rfl⟩
theorem But.then_ {T : List Nat} {S0 w w' : World} (h : But T S0 w) (k : Below w.heap.size w w') : But T S0 w' :=
  ⟨k.os.trans h.os, k.tape.trans h.tape, k.output.trans h.output, Nat.le_trans h.size k.size, fun j hj hT => (k.block j (Nat.lt_of_lt_of_le hj h.size)).trans (h.block j hj hT)⟩
theorem But.blk {T : List Nat} {S0 w : World} {g : Nat} {t : TypeId} {cs : Array Value} (h : But T S0 w) (hb : Blk S0 g t cs) (hT : g ∉ T) : Blk w g t cs := (h.block g hb.lt hT).trans hb
structure One (g : Nat) (w w' : World) : Prop where
  os : w'.os = w.os
  tape : w'.tape = w.tape
  output : w'.output = w.output
  size : w'.heap.size = w.heap.size
  block : ∀ k, k ≠ g → w'.heap[k]? = w.heap[k]?
theorem One.set (w : World) (g o : Nat) (u : Value) : One g w (w.setCell ⟨g, o, none⟩ u) := ⟨rfl, rfl, rfl, by simp [World.setCell], fun k hk => Below.heap_setCell w _ u k hk⟩
theorem One.trans {g : Nat} {a b c : World} (h : One g a b) (k : One g b c) : One g a c := ⟨k.os.trans h.os, k.tape.trans h.tape, k.output.trans h.output, k.size.trans h.size, fun j hj => (k.block j hj).trans (h.block j hj)⟩
theorem But.one {T : List Nat} {S0 w w' : World} {g : Nat} (h : But T S0 w) (k : One g w w') (hg : g ∈ T ∨ S0.heap.size ≤ g) : But T S0 w' :=
  ⟨k.os.trans h.os, k.tape.trans h.tape, k.output.trans h.output, by rw [k.size]; exact h.size, fun j hj hT => (k.block j (by
    rintro rfl
    rcases hg with hg | hg
    · exact hT hg
    · omega)).trans (h.block j hj hT)⟩
structure Held (S0 : World) (A : Nat → Kept1) (bs : List Bx) (L : Nat → Bool) (v : Nat → Value) (w : World) : Prop where
  but : But (oldsOf bs) S0 w
  keep : Keep S0 w
  facts : ∀ j, L j = true → (A j).holds (v j) w
  is : ∀ b ∈ bs, ∀ i, b.at_ = .inl i → L i = true → ∃ g, v i = .pointer (some ⟨g, 0, none⟩) ∧ S0.heap.size ≤ g
  ord : ∀ b ∈ bs, ∀ i, b.at_ = .inl i → L b.by_ = true → L i = true
  boxes : ∀ b ∈ bs, ∀ g, b.own L v g → if L b.by_ = true then ∃ cs, Blk w g b.ty cs ∧ b.full cs w else Blk w g b.ty b.old
  apart : bs.Pairwise (fun b b' => ∀ g, b.own L v g → b'.own L v g → False)
section
variable {S0 : World} {A : Nat → Kept1} {bs : List Bx} {L : Nat → Bool} {v : Nat → Value} {w w' : World} {i : Nat} {u : Value}
theorem setB_ne {j : Nat} (h : j ≠ i) : setB L i j = L j := if_neg h
theorem setB_self : setB L i i = true := if_pos rfl
theorem setV_ne {j : Nat} (h : j ≠ i) : setV v i u j = v j := if_neg h
theorem setV_self : setV v i u i = u := if_pos rfl
theorem Bx.apart_by {b : Bx} (h : b.apart i = true) : b.by_ ≠ i := by
  unfold Bx.apart at h
  rw [Bool.and_eq_true] at h
  exact bne_iff_ne.1 h.1
theorem Bx.apart_at {b : Bx} (h : b.apart i = true) {j : Nat} (hj : b.at_ = .inl j) : j ≠ i := by
  unfold Bx.apart at h
  rw [Bool.and_eq_true, hj] at h
  exact bne_iff_ne.1 h.2
theorem Bx.own_inl {b : Bx} {j g : Nat} (h : b.at_ = .inl j) : b.own L v g ↔ (L j = true ∧ v j = .pointer (some ⟨g, 0, none⟩)) := by unfold Bx.own; rw [h]
theorem Bx.own_inr {b : Bx} {r g : Nat} (h : b.at_ = .inr r) : b.own L v g ↔ g = r := by unfold Bx.own; rw [h]
theorem Bx.own_of {b : Bx} {g : Nat} (h : b.own (setB L i) (setV v i u) g) (hi : ∀ j, b.at_ = .inl j → j ≠ i) : b.own L v g := by
  cases hb : b.at_ with
  | inl j =>
    rw [Bx.own_inl hb] at h ⊢
    have := hi j hb
    rw [setB_ne this, setV_ne this] at h
    exact h
  | inr r => rw [Bx.own_inr hb] at h ⊢; exact h
theorem Held.start (A : Nat → Kept1) (bs : List Bx) (S0 : World) (hold : ∀ b ∈ bs, ∀ r, b.at_ = .inr r → Blk S0 r b.ty b.old)
    (hne : bs.Pairwise (fun b b' => ∀ r r', b.at_ = .inr r → b'.at_ = .inr r' → r ≠ r')) : Held S0 A bs (fun _ => false) (fun _ => undef) S0.drew := by
  refine ⟨But.start _ _, Keep.of_below (Below.refl _ _).drew, fun _ h => absurd h (by simp), fun _ _ _ _ h => absurd h (by simp), fun _ _ _ _ h => absurd h (by simp), fun b hb g hg => ?_, hne.imp fun {b b'} h g hg hg' => ?_⟩
  · rw [if_neg (by simp)]
    cases hat : b.at_ with
    | inl j => rw [Bx.own_inl hat] at hg; exact absurd hg.1 (by simp)
    | inr r => rw [Bx.own_inr hat] at hg; subst hg; exact hold b hb g hat
  · cases hat : b.at_ with
    | inl j => rw [Bx.own_inl hat] at hg; exact absurd hg.1 (by simp)
    | inr r =>
      cases hat' : b'.at_ with
      | inl j => rw [Bx.own_inl hat'] at hg'; exact absurd hg'.1 (by simp)
      | inr r' => rw [Bx.own_inr hat] at hg; rw [Bx.own_inr hat'] at hg'; exact h r r' hat hat' (hg.symm.trans hg')
theorem Held.call (h : Held S0 A bs L v w) (hL : L i = false) (hap : (bs.all fun b => b.apart i) = true) (hb : Below w.heap.size w w') (hA : (A i).holds u w') : Held S0 A bs (setB L i) (setV v i u) w' := by
  have hk := Keep.of_below hb
  have hap' : ∀ b ∈ bs, b.apart i = true := fun b hm => List.all_eq_true.1 hap b hm
  refine ⟨h.but.then_ hb, h.keep.trans hk, fun j hj => ?_, fun b hm j hat hj => ?_, fun b hm j hat hj => ?_, fun b hm g hg => ?_, ?_⟩
  · by_cases hji : j = i
    · subst hji
      rw [setV_self]
      exact hA
    · rw [setB_ne hji] at hj
      rw [setV_ne hji]
      exact (A j).keeps (h.facts j hj) hk
  · have hji := Bx.apart_at (hap' b hm) hat
    rw [setB_ne hji] at hj
    rw [setV_ne hji]
    exact h.is b hm j hat hj
  · rw [setB_ne (Bx.apart_by (hap' b hm))] at hj
    rw [setB_ne (Bx.apart_at (hap' b hm) hat)]
    exact h.ord b hm j hat hj
  · rw [setB_ne (Bx.apart_by (hap' b hm))]
    have h1 := h.boxes b hm g (Bx.own_of hg fun j hj => Bx.apart_at (hap' b hm) hj)
    split
    · rename_i hx
      rw [if_pos hx] at h1
      obtain ⟨cs, hblk, hf⟩ := h1
      exact ⟨cs, blk_below hblk hb, b.keeps hf hk⟩
    · rename_i hx
      rw [if_neg hx] at h1
      exact blk_below h1 hb
  · refine List.Pairwise.imp_of_mem ?_ h.apart
    intro b b' hm hm' hp g hg hg'
    exact hp g (Bx.own_of hg fun j hj => Bx.apart_at (hap' b hm) hj) (Bx.own_of hg' fun j hj => Bx.apart_at (hap' b' hm') hj)
def Bx.rest (bs : List Bx) (b0 : Bx) (i : Nat) : Prop := b0 ∈ bs ∧ bs.Pairwise (fun b b' => b = b0 ∨ b' = b0 → True) ∧ ∀ b ∈ bs, b = b0 ∨ b.apart i = true
theorem Bx.own_lt (h : Held S0 A bs L v w) {b : Bx} (hm : b ∈ bs) {g : Nat} (hg : b.own L v g) : g < w.heap.size := by
  have h1 := h.boxes b hm g hg
  split at h1
  · obtain ⟨cs, hb, _⟩ := h1; exact hb.lt
  · exact h1.lt
theorem Held.made (h : Held S0 A bs L v w) (hL : L i = false) (b0 : Bx) (hm0 : b0 ∈ bs) (hat : b0.at_ = .inl i) (hone : ∀ b ∈ bs, b.at_ = .inl i → b = b0) (hby : ∀ b ∈ bs, b.by_ ≠ i)
    (hA : (A i).holds (.pointer (some ⟨w.heap.size, 0, none⟩)) (w.alloc (.cells b0.old b0.ty))) (hpw : bs.Pairwise (fun b b' => b = b0 → b' = b0 → False)) :
    Held S0 A bs (setB L i) (setV v i (.pointer (some ⟨w.heap.size, 0, none⟩))) (w.alloc (.cells b0.old b0.ty)) := by
  have hb := cba (Below.refl w.heap.size w) (.cells b0.old b0.ty)
  have hk := Keep.of_below hb
  have hown : ∀ b ∈ bs, ∀ g, b ≠ b0 → b.own (setB L i) (setV v i (.pointer (some ⟨w.heap.size, 0, none⟩))) g → b.own L v g := fun b hm g hne hg => Bx.own_of hg fun j hj hji => hne (hone b hm (by rw [hj, hji]))
  have hown0 : ∀ g, b0.own (setB L i) (setV v i (.pointer (some ⟨w.heap.size, 0, none⟩))) g → g = w.heap.size := fun g hg => by
    rw [Bx.own_inl hat] at hg
    have := hg.2
    rw [setV_self] at this
    have e := Value.pointer.inj this
    have e2 := congrArg Addr.block (Option.some.inj e)
    exact e2.symm
  refine ⟨h.but.then_ hb, h.keep.trans hk, fun j hj => ?_, fun b hm j hj hLj => ?_, fun b hm j hj hLj => ?_, fun b hm g hg => ?_, ?_⟩
  · by_cases hji : j = i
    · subst hji
      rw [setV_self]
      exact hA
    · rw [setB_ne hji] at hj
      rw [setV_ne hji]
      exact (A j).keeps (h.facts j hj) hk
  · by_cases hji : j = i
    · subst hji
      rw [setV_self]
      exact ⟨_, rfl, h.but.size⟩
    · rw [setB_ne hji] at hLj
      rw [setV_ne hji]
      exact h.is b hm j hj hLj
  · by_cases hji : j = i
    · subst hji; exact setB_self
    · rw [setB_ne hji]
      rw [setB_ne (hby b hm)] at hLj
      exact h.ord b hm j hj hLj
  · rw [setB_ne (hby b hm)]
    by_cases hb0 : b = b0
    · subst hb0
      have hg' := hown0 g hg
      subst hg'
      have hnot : ¬ L b.by_ = true := fun hx => by
        have := h.ord b hm i hat hx
        rw [hL] at this
        cases this
      rw [if_neg hnot]
      exact Blk.new w _ _
    · have h1 := h.boxes b hm g (hown b hm g hb0 hg)
      split
      · rename_i hx
        rw [if_pos hx] at h1
        obtain ⟨cs, hblk, hf⟩ := h1
        exact ⟨cs, blk_below hblk hb, b.keeps hf hk⟩
      · rename_i hx
        rw [if_neg hx] at h1
        exact blk_below h1 hb
  · refine List.Pairwise.imp_of_mem ?_ (h.apart.and hpw)
    intro b b' hm hm' ⟨hp, hp0⟩ g hg hg'
    by_cases h1 : b = b0
    · by_cases h2 : b' = b0
      · exact hp0 h1 h2
      · subst h1
        have e := hown0 g hg
        have := Bx.own_lt h hm' (hown b' hm' g h2 hg')
        omega
    · by_cases h2 : b' = b0
      · subst h2
        have e := hown0 g hg'
        have := Bx.own_lt h hm (hown b hm g h1 hg)
        omega
      · exact hp g (hown b hm g h1 hg) (hown b' hm' g h2 hg')
theorem Held.filled (h : Held S0 A bs L v w) (b0 : Bx) (hm0 : b0 ∈ bs) (hby : b0.by_ = i) (hat : ∀ b ∈ bs, ∀ j, b.at_ = .inl j → j ≠ i) (hone : ∀ b ∈ bs, b ≠ b0 → b.by_ ≠ i) (g : Nat) (hg : b0.own L v g)
    (hst : (∀ j, b0.at_ = .inl j → L j = true)) (ho : One g w w') (hk : Keep w w') {cs : Array Value} (hblk : Blk w' g b0.ty cs) (hf : b0.full cs w') (hA : (A i).holds u w') (hpw : bs.Pairwise (fun b b' => b = b0 → b' = b0 → False)) :
    Held S0 A bs (setB L i) (setV v i u) w' := by
  have hgT : g ∈ oldsOf bs ∨ S0.heap.size ≤ g := by
    cases hb : b0.at_ with
    | inl j =>
      obtain ⟨g', hg', hge⟩ := h.is b0 hm0 j hb (hst j hb)
      rw [Bx.own_inl hb] at hg
      rw [hg.2] at hg'
      have e := congrArg Addr.block (Option.some.inj (Value.pointer.inj hg'))
      right
      rw [show g = g' from e]
      exact hge
    | inr r =>
      left
      rw [Bx.own_inr hb] at hg
      subst hg
      clear h hblk hf hA hpw hone hat hst
      induction bs with
      | nil => cases hm0
      | cons x xs ih =>
        unfold oldsOf
        rcases List.mem_cons.1 hm0 with rfl | hm
        · rw [hb]; exact List.mem_cons_self
        · cases hx : x.at_ with
          | inl _ => exact ih hm
          | inr _ => exact List.mem_cons_of_mem _ (ih hm)
  have hown : ∀ b ∈ bs, ∀ g, b.own (setB L i) (setV v i u) g → b.own L v g := fun b hm g hg => Bx.own_of hg fun j hj => hat b hm j hj
  refine ⟨h.but.one ho hgT, h.keep.trans hk, fun j hj => ?_, fun b hm j hj hLj => ?_, fun b hm j hj hLj => ?_, fun b hm g' hg' => ?_, ?_⟩
  · by_cases hji : j = i
    · subst hji
      rw [setV_self]
      exact hA
    · rw [setB_ne hji] at hj
      rw [setV_ne hji]
      exact (A j).keeps (h.facts j hj) hk
  · have hji := hat b hm j hj
    rw [setB_ne hji] at hLj
    rw [setV_ne hji]
    exact h.is b hm j hj hLj
  · rw [setB_ne (hat b hm j hj)]
    by_cases hb0 : b = b0
    · subst hb0
      exact hst j hj
    · rw [setB_ne (hone b hm hb0)] at hLj
      exact h.ord b hm j hj hLj
  · have hgo := hown b hm g' hg'
    by_cases hb0 : b = b0
    · subst hb0
      have e : g' = g := by
        cases hb : b.at_ with
        | inl j =>
          rw [Bx.own_inl hb] at hgo hg
          have h1 := hgo.2
          rw [hg.2] at h1
          exact (congrArg Addr.block (Option.some.inj (Value.pointer.inj h1))).symm
        | inr r => rw [Bx.own_inr hb] at hgo hg; exact hgo.trans hg.symm
      subst e
      rw [hby, setB_self, if_pos rfl]
      exact ⟨cs, hblk, hf⟩
    · rw [setB_ne (hone b hm hb0)]
      have hne : g' ≠ g := by
        rintro rfl
        have : ∀ (bs : List Bx), bs.Pairwise (fun b b' => ∀ g, b.own L v g → b'.own L v g → False) → b ∈ bs → b0 ∈ bs → False := by
          intro bs
          induction bs with
          | nil => intro _ hm _; cases hm
          | cons x xs ih =>
            intro hpw hm hm0
            obtain ⟨hx, hxs⟩ := List.pairwise_cons.1 hpw
            rcases List.mem_cons.1 hm with rfl | hm1
            · rcases List.mem_cons.1 hm0 with rfl | hm2
              · exact hb0 rfl
              · exact hx _ hm2 g' hgo hg
            · rcases List.mem_cons.1 hm0 with rfl | hm2
              · exact hx _ hm1 g' hg hgo
              · exact ih hxs hm1 hm2
        exact this bs h.apart hm hm0
      have h1 := h.boxes b hm g' hgo
      split
      · rename_i hx
        rw [if_pos hx] at h1
        obtain ⟨cs', hblk', hf'⟩ := h1
        exact ⟨cs', (ho.block g' hne).trans hblk', b.keeps hf' hk⟩
      · rename_i hx
        rw [if_neg hx] at h1
        exact (ho.block g' hne).trans h1
  · refine List.Pairwise.imp_of_mem ?_ h.apart
    intro b b' hm hm' hp g hg hg'
    exact hp g (hown b hm g hg) (hown b' hm' g hg')
end
def Dn (x d : Nat) : Prop := (x = d ∧ 0 < d) ∨ (x = 0 ∧ d = 1)
theorem Dn.pos {x d : Nat} (h : Dn x d) : 0 < d := by rcases h with ⟨_, h⟩ | ⟨_, h⟩ <;> omega
def F64 (w : World) (v : Value) (n d : Nat) : Prop := ∃ A p c B q e x, v = .agg #[.slice A p c, .slice B q e] ∧ N64 w (.agg #[.slice A p c]) n ∧ N64 w (.agg #[.slice B q e]) x ∧ Dn x d
theorem F64.keep {w w' : World} {v : Value} {n d : Nat} (h : F64 w v n d) (k : Keep w w') : F64 w' v n d := by
  obtain ⟨A, p, c, B, q, e, x, hv, h1, h2, h3⟩ := h
  exact ⟨A, p, c, B, q, e, x, hv, h1.keep k, h2.keep k, h3⟩
theorem F64.below {w w' : World} {v : Value} {n d : Nat} (h : F64 w v n d) (hb : Below w.heap.size w w') : F64 w' v n d := h.keep (Keep.of_below hb)
def RF (w : World) (v : Value) (n d : Nat) : Prop := ∃ A p c B q e, v = .agg #[.slice A p c, .slice B q e] ∧ R256 w (.slice A p c) n ∧ R256 w (.slice B q e) d
theorem RF.keep {w w' : World} {v : Value} {n d : Nat} (h : RF w v n d) (k : Keep w w') : RF w' v n d := by
  obtain ⟨A, p, c, B, q, e, hv, h1, h2⟩ := h
  exact ⟨A, p, c, B, q, e, hv, h1.keep k, h2.keep k⟩
theorem RF.below {w w' : World} {v : Value} {n d : Nat} (h : RF w v n d) (hb : Below w.heap.size w w') : RF w' v n d := h.keep (Keep.of_below hb)
def Kept1.f (n d : Nat) : Kept1 := ⟨fun v w => F64 w v n d, fun h k => h.keep k⟩
def Kept1.rf (n d : Nat) : Kept1 := ⟨fun v w => RF w v n d, fun h k => h.keep k⟩
def MkF (w : World) (n d : Nat) : Ending → World → Prop := fun e w' => ∃ v, e = .returned v ∧ F64 w' v n d ∧ Below w.heap.size w w'
def Bx.nat (at_ : Nat ⊕ Nat) (by_ : Nat) (old : Array Value) (x : Nat) : Bx := ⟨at_, by_, 26, old, fun cs w => ∃ A c, cs = #[.slice A (wl 64 x) c] ∧ N64 w (.agg cs) x, fun ⟨A, c, h1, h2⟩ k => ⟨A, c, h1, h2.keep k⟩⟩
def Bx.rat (at_ : Nat ⊕ Nat) (by_ : Nat) (old : Array Value) (n d : Nat) : Bx := ⟨at_, by_, 47, old, fun cs w => F64 w (.agg cs) n d, fun h k => h.keep k⟩
def Bx.ref (at_ : Nat ⊕ Nat) (by_ : Nat) (old : Array Value) (n d : Nat) : Bx := ⟨at_, by_, 52, old, fun cs w => RF w (.agg cs) n d, fun h k => h.keep k⟩
def BoxF (w : World) (g n d : Nat) : Prop := ∃ A p c B q e, Blk w g 47 #[.slice A p c, .slice B q e] ∧ F64 w (.agg #[.slice A p c, .slice B q e]) n d
theorem BoxF.below {w w' : World} {g n d : Nat} (h : BoxF w g n d) (hb : Below w.heap.size w w') : BoxF w' g n d := by
  obtain ⟨A, p, c, B, q, e, hk, hn⟩ := h
  exact ⟨A, p, c, B, q, e, blk_below hk hb, hn.below hb⟩
def BoxR (w : World) (g n d : Nat) : Prop := ∃ A p c B q e, Blk w g 52 #[.slice A p c, .slice B q e] ∧ RF w (.agg #[.slice A p c, .slice B q e]) n d
theorem BoxR.below {w w' : World} {g n d : Nat} (h : BoxR w g n d) (hb : Below w.heap.size w w') : BoxR w' g n d := by
  obtain ⟨A, p, c, B, q, e, hk, hn⟩ := h
  exact ⟨A, p, c, B, q, e, blk_below hk hb, hn.below hb⟩
def Bx.makes (b : Bx) (k : Nat) : Bool := match b.at_ with | .inl j => j == k | .inr _ => false
theorem Bx.makes_iff {b : Bx} {k : Nat} : b.makes k = true ↔ b.at_ = .inl k := by
  unfold Bx.makes
  cases b.at_ with
  | inl j => simp
  | inr r => simp
theorem pairwise_of_one {f : Bx → Bool} : ∀ (bs : List Bx), (bs.filter f).length ≤ 1 → bs.Pairwise (fun b b' => f b = true → f b' = true → False)
  | [], _ => List.Pairwise.nil
  | b :: bs, h => by
    refine List.Pairwise.cons (fun b' hb' hf hf' => ?_) (pairwise_of_one bs ?_)
    · rw [List.filter_cons, if_pos hf, List.length_cons] at h
      have : b' ∈ bs.filter f := List.mem_filter.2 ⟨hb', hf'⟩
      rw [List.length_eq_zero_iff.1 (show (bs.filter f).length = 0 by omega)] at this
      cases this
    · rw [List.filter_cons] at h
      split at h
      · rw [List.length_cons] at h; omega
      · exact h
theorem one_of_one {f : Bx → Bool} (bs : List Bx) (h : (bs.filter f).length ≤ 1) {b b' : Bx} (hb : b ∈ bs) (hb' : b' ∈ bs) (hf : f b = true) (hf' : f b' = true) : b = b' := by
  have h1 : b ∈ bs.filter f := List.mem_filter.2 ⟨hb, hf⟩
  have h2 : b' ∈ bs.filter f := List.mem_filter.2 ⟨hb', hf'⟩
  match hl : bs.filter f, h1, h2, h with
  | [], h1, _, _ => cases h1
  | [x], h1, h2, _ => rw [List.mem_singleton.1 h1, List.mem_singleton.1 h2]
  | x :: y :: r, _, _, h => simp at h
structure Amid (S0 : World) (A : Nat → Kept1) (bs : List Bx) (ops : Array Oper) (k : Nat) (L : Nat → Bool) (v : Nat → Value) (w : World) : Prop where
  held : Held S0 A bs L v w
  new : L k = false
  deps : ∀ j, waits ops k j = true → L j = true
  later : ∀ j, waits ops j k = true → L j = false
section
variable {P : Program} {ops : Array Oper} {E : ((Nat → Value) → Act) → Prop} {S0 : World} {A : Nat → Kept1} {bs : List Bx} {L : Nat → Bool} {v : Nat → Value} {w w' : World} {k : Nat} {u : Value}
theorem Steps.held {a0 : Act} {o : Oper} {r : List Oper} {F : (Nat → Value) → Act}
    (h : ∀ L v w, Hid (Amid S0 A bs ops k L v w) → wpList P ops (Only a0 o (fun u w' => Held S0 A bs (setB L k) (setV v k u) w')) [o] (F v) w)
    (h2 : Steps P ops a0 (Held S0 A bs) E (k + 1) r (fun v => (F v).put o.dst (v k))) : Steps P ops a0 (Held S0 A bs) E k (o :: r) F :=
  Steps.cons (fun L v w h1 h2 h3 h4 => h L v w (Lib.hid ⟨h1, h2, h3, h4⟩)) h2
theorem Amid.fact (h : Amid S0 A bs ops k L v w) (j : Nat) (hw : waits ops k j = true) : (A j).holds (v j) w := h.held.facts j (h.deps j hw)
theorem Amid.blk (h : Amid S0 A bs ops k L v w) {g : Nat} {t : TypeId} {cs : Array Value} (hb : Blk S0 g t cs) (hT : g ∉ oldsOf bs) : Blk w g t cs := h.held.but.blk hb hT
theorem Amid.yet (h : Amid S0 A bs ops k L v w) (p : Nat) (b0 : Bx) (hp : bs[p]? = some b0) (r : Nat) (hat : b0.at_ = .inr r) (hw : waits ops b0.by_ k = true) : Blk w r b0.ty b0.old := by
  have := h.held.boxes b0 (List.mem_of_getElem? hp) r ((Bx.own_inr hat).2 rfl)
  rw [h.later _ hw] at this
  exact this
theorem Amid.call (h : Amid S0 A bs ops k L v w) (hap : (bs.all fun b => b.apart k) = true) (hb : Below w.heap.size w w') (hA : (A k).holds u w') : Held S0 A bs (setB L k) (setV v k u) w' := h.held.call h.new hap hb hA
theorem Amid.same (h : Amid S0 A bs ops k L v w) (hap : (bs.all fun b => b.apart k) = true) (hA : (A k).holds u w) : Held S0 A bs (setB L k) (setV v k u) w := h.held.call h.new hap (Below.refl _ _) hA
theorem Amid.made (h : Amid S0 A bs ops k L v w) (p : Nat) (b0 : Bx) (hp : bs[p]? = some b0) (hat : b0.at_ = .inl k) (hB : ((bs.filter fun b => b.makes k).length == 1 && bs.all fun b => b.by_ != k) = true)
    (hA : (A k).holds (.pointer (some ⟨w.heap.size, 0, none⟩)) (w.alloc (.cells b0.old b0.ty))) :
    Held S0 A bs (setB L k) (setV v k (.pointer (some ⟨w.heap.size, 0, none⟩))) (w.alloc (.cells b0.old b0.ty)) := by
  rw [Bool.and_eq_true, beq_iff_eq] at hB
  have hle : (bs.filter fun b => b.makes k).length ≤ 1 := by omega
  have hm := List.mem_of_getElem? hp
  exact h.held.made h.new b0 hm hat (fun b hb hb2 => one_of_one bs hle hb hm (Bx.makes_iff.2 hb2) (Bx.makes_iff.2 hat))
    (fun b hb => bne_iff_ne.1 (List.all_eq_true.1 hB.2 b hb)) hA ((pairwise_of_one bs hle).imp fun {b b'} hx hb hb' => hx (Bx.makes_iff.2 (by rw [hb, hat])) (Bx.makes_iff.2 (by rw [hb', hat])))
theorem Amid.filled_ (h : Amid S0 A bs ops k L v w) (p : Nat) (b0 : Bx) (hp : bs[p]? = some b0) (hby : b0.by_ = k) (hB : ((bs.filter fun b => b.by_ == k).length == 1 && bs.all fun b => !b.makes k) = true)
    (g : Nat) (hg : b0.own L v g) (hst : ∀ j, b0.at_ = .inl j → L j = true) (ho : One g w w') (hk : Keep w w') {cs : Array Value} (hblk : Blk w' g b0.ty cs) (hf : b0.full cs w') (hA : (A k).holds u w') : Held S0 A bs (setB L k) (setV v k u) w' := by
  rw [Bool.and_eq_true, beq_iff_eq] at hB
  have hle : (bs.filter fun b => b.by_ == k).length ≤ 1 := by omega
  have hm := List.mem_of_getElem? hp
  exact h.held.filled b0 hm hby (fun b hb j hj hji => by
      have := List.all_eq_true.1 hB.2 b hb
      rw [Bx.makes_iff.2 (by rw [hj, hji])] at this
      cases this)
    (fun b hb hne hbk => hne (one_of_one bs hle hb hm (by rw [hbk]; exact beq_self_eq_true _) (by rw [hby]; exact beq_self_eq_true _))) g hg hst ho hk hblk hf hA
    ((pairwise_of_one bs hle).imp fun {b b'} hx hb hb' => hx (by rw [hb, hby]; exact beq_self_eq_true _) (by rw [hb', hby]; exact beq_self_eq_true _))
theorem Amid.box (h : Amid S0 A bs ops k L v w) (p : Nat) (b0 : Bx) (hp : bs[p]? = some b0) (hby : b0.by_ = k) (g : Nat) (hg : b0.own L v g) : Blk w g b0.ty b0.old := by
  have := h.held.boxes b0 (List.mem_of_getElem? hp) g hg
  rw [hby, h.new] at this
  exact this
theorem Amid.newbox (h : Amid S0 A bs ops k L v w) (p : Nat) (b0 : Bx) (hp : bs[p]? = some b0) (j : Nat) (hat : b0.at_ = .inl j) (hw : waits ops k j = true) :
    ∃ g, v j = .pointer (some ⟨g, 0, none⟩) ∧ S0.heap.size ≤ g ∧ b0.own L v g ∧ ∀ i, b0.at_ = .inl i → L i = true := by
  obtain ⟨g, hg, hge⟩ := h.held.is b0 (List.mem_of_getElem? hp) j hat (h.deps j hw)
  exact ⟨g, hg, hge, (Bx.own_inl hat).2 ⟨h.deps j hw, hg⟩, fun i hi => by rw [hat] at hi; cases hi; exact h.deps j hw⟩
theorem Amid.oldbox (_ : Amid S0 A bs ops k L v w) (p : Nat) (b0 : Bx) (_ : bs[p]? = some b0) (r : Nat) (hat : b0.at_ = .inr r) : b0.own L v r ∧ ∀ i, b0.at_ = .inl i → L i = true :=
  ⟨(Bx.own_inr hat).2 rfl, fun i hi => by rw [hat] at hi; cases hi⟩
theorem Held.end_new {n : Nat} (h : Held S0 A bs (fun j => decide (j < n)) v w) (p : Nat) (b0 : Bx) (hp : bs[p]? = some b0) (j : Nat) (hat : b0.at_ = .inl j) (hj : j < n) (hby : b0.by_ < n) :
    ∃ g cs, v j = .pointer (some ⟨g, 0, none⟩) ∧ S0.heap.size ≤ g ∧ Blk w g b0.ty cs ∧ b0.full cs w := by
  have hm := List.mem_of_getElem? hp
  obtain ⟨g, hg, hge⟩ := h.is b0 hm j hat (decide_eq_true hj)
  have := h.boxes b0 hm g ((Bx.own_inl hat).2 ⟨decide_eq_true hj, hg⟩)
  rw [if_pos (decide_eq_true hby)] at this
  obtain ⟨cs, h1, h2⟩ := this
  exact ⟨g, cs, hg, hge, h1, h2⟩
theorem Held.end_old {n : Nat} (h : Held S0 A bs (fun j => decide (j < n)) v w) (p : Nat) (b0 : Bx) (hp : bs[p]? = some b0) (r : Nat) (hat : b0.at_ = .inr r) (hby : b0.by_ < n) : ∃ cs, Blk w r b0.ty cs ∧ b0.full cs w := by
  have := h.boxes b0 (List.mem_of_getElem? hp) r ((Bx.own_inr hat).2 rfl)
  rw [if_pos (decide_eq_true hby)] at this
  exact this
theorem Held.end_fact {n : Nat} (h : Held S0 A bs (fun j => decide (j < n)) v w) (j : Nat) (hj : j < n) : (A j).holds (v j) w := h.facts j (decide_eq_true hj)
theorem Amid.fill2 (h : Amid S0 A bs ops k L v w) (p : Nat) (b0 : Bx) (hp : bs[p]? = some b0) (hby : b0.by_ = k) (hB : ((bs.filter fun b => b.by_ == k).length == 1 && bs.all fun b => !b.makes k) = true)
    (g : Nat) (hg : b0.own L v g) (hst : ∀ j, b0.at_ = .inl j → L j = true) (x y : Value) {o1 o2 : Value} (hold : b0.old = #[o1, o2]) (h1 : noInt o1 = true) (h2 : noInt o2 = true)
    (hf : ∀ W, Keep w W → b0.full #[x, y] W) (hA : ∀ W, (A k).holds u W) : Held S0 A bs (setB L k) (setV v k u) ((w.setCell ⟨g, 0, none⟩ x).setCell ⟨g, 1, none⟩ y) := by
  have hb := h.box p b0 hp hby g hg
  rw [hold] at hb
  have hb1 := hb.set_ 0 x
  have hb2 := hb1.set_ 1 y
  have k1 : Keep w (w.setCell ⟨g, 0, none⟩ x) := Keep.set hb 0 (by rw [Bool.and_eq_true]; exact ⟨h1, by rw [Bool.or_eq_true]; exact .inr rfl⟩) x
  have k2 : Keep (w.setCell ⟨g, 0, none⟩ x) ((w.setCell ⟨g, 0, none⟩ x).setCell ⟨g, 1, none⟩ y) := Keep.set hb1 1 (by rw [Bool.and_eq_true]; exact ⟨h2, by rw [Bool.or_eq_true]; exact .inr rfl⟩) y
  exact h.filled_ p b0 hp hby hB g hg hst ((One.set w g 0 x).trans (One.set _ g 1 y)) (k1.trans k2) hb2 (hf _ (k1.trans k2)) (hA _)
theorem Amid.fill1 (h : Amid S0 A bs ops k L v w) (p : Nat) (b0 : Bx) (hp : bs[p]? = some b0) (hby : b0.by_ = k) (hB : ((bs.filter fun b => b.by_ == k).length == 1 && bs.all fun b => !b.makes k) = true)
    (g : Nat) (hg : b0.own L v g) (hst : ∀ j, b0.at_ = .inl j → L j = true) (x : Value) {o1 : Value} (hold : b0.old = #[o1]) (h1 : noInt o1 = true)
    (hf : ∀ W, Keep w W → b0.full #[x] W) (hA : ∀ W, (A k).holds u W) : Held S0 A bs (setB L k) (setV v k u) (w.setCell ⟨g, 0, none⟩ x) := by
  have hb := h.box p b0 hp hby g hg
  rw [hold] at hb
  have hb1 := hb.set_ 0 x
  have k1 : Keep w (w.setCell ⟨g, 0, none⟩ x) := Keep.set hb 0 (by rw [Bool.and_eq_true]; exact ⟨h1, by rw [Bool.or_eq_true]; exact .inr rfl⟩) x
  exact h.filled_ p b0 hp hby hB g hg hst (One.set w g 0 x) k1 hb1 (hf _ k1) (hA _)
end
end Go.Proofs.Yteikhnmmkanndaa
namespace Go.Proofs.Yteikhnmmkanndaa
open Go.RowKit Go.Proofs.YteikhnmmkanndaaW.PrintWords
theorem be_w64 {l : List Int} (h : Bys l) : wl 64 (be l) ≤ l.length :=
  (wl_le (by decide) _ _).2 (Nat.lt_of_lt_of_le (be_lt h) (Nat.pow_le_pow_right (by decide) (by omega)))
theorem wl_mul_le {k x y a b : Nat} (hk : 0 < k) (hx : wl k x ≤ a) (hy : wl k y ≤ b) : wl k (x * y) ≤ a + b := by
  rw [wl_le hk] at hx hy ⊢
  rw [Nat.mul_add, Nat.pow_add]
  exact Nat.mul_lt_mul'' hx hy
end Go.Proofs.Yteikhnmmkanndaa
namespace Go.Proofs.Yteikhnmmkanndaa
open Go.RowKit
set_option maxRecDepth 100000 in
set_option maxHeartbeats 2000000 in
theorem one_any (w : World) : Calls Try.prog 120 #[] w (Mk64 w 1) := by
  have H : ∀ W, Calls Try.prog 50 #[.int .u64 1] W (fun e w' => ∃ v, e = .returned v ∧ N64 w' v 1 ∧ Below W.heap.size W w') := fun W => of_any 1 (by decide) W
  have HO := Lib.hid H
  clear H
  go_enter Try.func120, Try.ntmps120
  go_wp2_with fail
  refine (HO.out _).mono ?_
  rintro e w1 ⟨v1, rfl, hn1, hb1⟩
  have B1 := Lib.hid (cbt (cba (Below.refl _ w) _) hb1)
  have z := blk_below (Blk.new w 26 #[.slice none 0 0]) hb1
  have N1 := Lib.hid hn1
  obtain ⟨A, c, rfl, _, _, _⟩ := hn1
  have k : w1.cell? ⟨w.heap.size, 0, none⟩ = some (.slice none 0 0) := z.cell 0
  have f := z.frozen 0
  have HF := Lib.hid (show Mk64 w 1 (.returned (.agg #[.slice A (wl 64 1) c])) (w1.setCell ⟨w.heap.size, 0, none⟩ (.slice A (wl 64 1) c)) from
    ⟨_, rfl, N1.out.put z _, B1.out.setCell (p := ⟨w.heap.size, 0, none⟩) (Nat.le_refl _) _⟩)
  clear z hb1
  go_wp2
  exact bodyPost_ret (v := .agg #[.slice A (wl 64 1) c]) (by simp [results, Try.results120, go_sem, k]) rfl HF.out
set_option maxRecDepth 100000 in
set_option maxHeartbeats 2000000 in
theorem num_any (v : Value) (n d : Nat) (w : World) (h : F64 w v n d) : Calls Try.prog 108 #[v] w (Mk64 w n) := by
  obtain ⟨A, p, c, B, q, e, x, rfl, h1, h2, h3⟩ := h
  have hb0 := cba (cba (Below.refl _ w) (.cells #[.slice A p c, .slice B q e] 47)) (.cells #[.slice A p c] 26)
  have HF := Lib.hid (show Mk64 w n (.returned (.agg #[.slice A p c])) ((w.alloc (.cells #[.slice A p c, .slice B q e] 47)).alloc (.cells #[.slice A p c] 26)) from ⟨_, rfl, h1.below hb0, hb0⟩)
  clear h1 h2 h3 hb0
  go_enter Try.func108, Try.ntmps108
  go_wp2_with fail
  exact bodyPost_ret (v := .agg #[.slice A p c]) (by simp [results, Try.results108, go_sem]) rfl HF.out
set_option maxRecDepth 100000 in
set_option maxHeartbeats 2000000 in
theorem den_any (v : Value) (n d : Nat) (w : World) (h : F64 w v n d) : Calls Try.prog 109 #[v] w (Mk64 w d) := by
  obtain ⟨A, p, c, B, q, e, x, rfl, h1, h2, h3⟩ := h
  have H2 := Lib.hid h2
  have hb0 := cba (cba (Below.refl _ w) (.cells #[.slice A p c, .slice B q e] 47)) (.cells #[.slice none 0 0] 26)
  have e1 := Blk.new (w.alloc (.cells #[.slice A p c, .slice B q e] 47)) 26 #[.slice none 0 0]
  have e0 := (Blk.new w 47 #[.slice A p c, .slice B q e]).alloc (.cells #[.slice none 0 0] 26)
  simp only [World.size_alloc] at e1
  have E0 := Lib.hid e0
  have E1 := Lib.hid e1
  have HB0 := Lib.hid hb0
  have HO := Lib.hid one_any
  clear h1 h2 e0 e1 hb0
  rcases h3 with ⟨rfl, hpos⟩ | ⟨rfl, rfl⟩
  · have HZ := Lib.hid (fun W h => zero_no (.agg #[.slice B q e]) x W h hpos)
    clear hpos
    go_enter Try.func109, Try.ntmps109
    go_wp2_with fail
    refine (HZ.out _ (H2.out.below HB0.out)).mono ?_
    rintro e w1 ⟨rfl, hb1⟩
    have z0 := blk_below E0.out hb1
    have z1 := blk_below E1.out hb1
    have k0 : w1.cell? ⟨w.heap.size, 1, none⟩ = some (.slice B q e) := z0.cell 1
    have k1 : w1.cell? ⟨w.heap.size + 1, 0, none⟩ = some (.slice none 0 0) := z1.cell 0
    have f1 := z1.frozen 0
    have HF := Lib.hid (show Mk64 w x (.returned (.agg #[.slice B q e])) (w1.setCell ⟨w.heap.size + 1, 0, none⟩ (.slice B q e)) from
      ⟨_, rfl, (H2.out.below (cbt HB0.out hb1)).put z1 _, (cbt HB0.out hb1).setCell (p := ⟨w.heap.size + 1, 0, none⟩) (Nat.le_succ _) _⟩)
    clear z0 z1 hb1
    go_wp2
    exact bodyPost_ret (v := .agg #[.slice B q e]) (by simp [results, Try.results109, go_sem, k1]) rfl HF.out
  · have HZ := Lib.hid (fun W h => zero_yes (.agg #[.slice B q e]) W h)
    go_enter Try.func109, Try.ntmps109
    go_wp2_with fail
    refine (HZ.out _ (H2.out.below HB0.out)).mono ?_
    rintro e w1 ⟨rfl, hb1⟩
    have z1 := Lib.hid (blk_below E1.out hb1)
    have B1 := Lib.hid (cbt HB0.out hb1)
    clear hb1
    go_wp2_with fail
    refine (HO.out _).mono ?_
    rintro e w2 ⟨v2, rfl, hn2, hb2⟩
    have z2 := blk_below z1.out hb2
    have k1 : w2.cell? ⟨w.heap.size + 1, 0, none⟩ = some (.slice none 0 0) := z2.cell 0
    have f1 := z2.frozen 0
    have N2 := Lib.hid hn2
    obtain ⟨A2, c2, rfl, _, _, _⟩ := hn2
    have HF := Lib.hid (show Mk64 w 1 (.returned (.agg #[.slice A2 (wl 64 1) c2])) (w2.setCell ⟨w.heap.size + 1, 0, none⟩ (.slice A2 (wl 64 1) c2)) from
      ⟨_, rfl, N2.out.put z2 _, (cbt B1.out hb2).setCell (p := ⟨w.heap.size + 1, 0, none⟩) (Nat.le_succ _) _⟩)
    clear z2 hb2
    go_wp2
    exact bodyPost_ret (v := .agg #[.slice A2 (wl 64 1) c2]) (by simp [results, Try.results109, go_sem, k1]) rfl HF.out
set_option maxRecDepth 100000 in
set_option maxHeartbeats 2000000 in
theorem rzero_any (v : Value) (n d : Nat) (w : World) (h : F64 w v n d) : Calls Try.prog 63 #[v] w fun e w' => e = .returned (.bool (decide (n = 0))) ∧ Below w.heap.size w w' := by
  obtain ⟨A, p, c, B, q, e, x, rfl, h1, h2, h3⟩ := h
  have H1 := Lib.hid h1
  have HZ := Lib.hid (fun W h => zero_any (.agg #[.slice A p c]) n W h)
  have HB0 := Lib.hid (cba (Below.refl _ w) (.cells #[.slice A p c, .slice B q e] 47))
  clear h1 h2 h3
  go_enter Try.func63, Try.ntmps63
  go_wp2_with fail
  refine (HZ.out _ (H1.out.below HB0.out)).mono ?_
  rintro e w1 ⟨rfl, hb1⟩
  have B1 := Lib.hid (cbt HB0.out hb1)
  clear hb1
  go_wp2_with fail
  go_ret
  exact ⟨rfl, B1.out⟩
set_option maxRecDepth 100000 in
set_option maxHeartbeats 2000000 in
theorem rint_any (x : Nat) (hx : x < 2 ^ 64) (w : World) : Calls Try.prog 74 #[.int .u64 (x : Nat)] w (MkF w x 1) := by
  have HF := Lib.hid (fun W => of_any x hx W)
  have HO := Lib.hid one_any
  clear hx
  go_enter Try.func74, Try.ntmps74
  go_wp2_with fail
  refine (HF.out _).mono ?_
  rintro e w1 ⟨v1, rfl, hn1, hb1⟩
  have B1 := Lib.hid (cbt (cba (Below.refl _ w) _) hb1)
  have z1 := Lib.hid (blk_below (Blk.new w 47 #[.slice none 0 0, .slice none 0 0]) hb1)
  have N1 := Lib.hid hn1
  clear hb1 hn1
  go_wp2_with fail
  refine (HO.out _).mono ?_
  rintro e w2 ⟨v2, rfl, hn2, hb2⟩
  have B2 := Lib.hid (cbt B1.out hb2)
  have z2 := blk_below z1.out hb2
  have M1 := N1.out.below hb2
  have N2 := Lib.hid hn2
  obtain ⟨A, c, rfl, _, _, _⟩ := hn2
  have M1' := Lib.hid M1
  obtain ⟨B, e, rfl, _, _, _⟩ := M1
  have k0 : w2.cell? ⟨w.heap.size, 0, none⟩ = some (.slice none 0 0) := z2.cell 0
  have k1 : w2.cell? ⟨w.heap.size, 1, none⟩ = some (.slice none 0 0) := z2.cell 1
  have f := z2.frozen 0
  have f1 := z2.frozen 1
  have y1 := z2.set_ 0 (.slice B (wl 64 x) e)
  have HX := Lib.hid (show MkF w x 1 (.returned (.agg #[.slice B (wl 64 x) e, .slice A (wl 64 1) c])) ((w2.setCell ⟨w.heap.size, 0, none⟩ (.slice B (wl 64 x) e)).setCell ⟨w.heap.size, 1, none⟩ (.slice A (wl 64 1) c)) from
    ⟨_, rfl, ⟨B, _, e, A, _, c, 1, rfl, (M1'.out.keep (Keep.set z2 0 rfl _)).keep (Keep.set y1 1 rfl _), (N2.out.keep (Keep.set z2 0 rfl _)).keep (Keep.set y1 1 rfl _), .inl ⟨rfl, by decide⟩⟩, (B2.out.setCell (p := ⟨w.heap.size, 0, none⟩) (Nat.le_refl _) _).setCell (p := ⟨w.heap.size, 1, none⟩) (Nat.le_refl _) _⟩)
  clear hb2 z2 y1
  go_wp2
  exact bodyPost_ret (v := .agg #[.slice B (wl 64 x) e, .slice A (wl 64 1) c]) (by simp [results, Try.results74, go_sem, k0, k1]) rfl HX.out
end Go.Proofs.Yteikhnmmkanndaa
namespace Go.Proofs.Yteikhnmmkanndaa
open Go.RowKit Go.Proofs.YteikhnmmkanndaaW.PrintWords
theorem wl_div_le {k x a m : Nat} (hk : 0 < k) (hx : wl k x ≤ a) : wl k (x / m) ≤ a := Nat.le_trans (wl_mono hk (Nat.div_le_self _ _)) hx
end Go.Proofs.Yteikhnmmkanndaa
namespace Go.Proofs.Yteikhnmmkanndaa
open Go.RowKit Go.Proofs.YteikhnmmkanndaaW.PrintWords
set_option linter.unusedSimpArgs false
set_option linter.unusedVariables false
theorem But.to_below {T : List Nat} {S W : World} {B : Nat} {w : World} (h : But T S W) (hb : Below B w S) (hB : B ≤ S.heap.size) (hT : ∀ g ∈ T, B ≤ g) : Below B w W :=
  ⟨h.os.trans hb.os, h.tape.trans hb.tape, h.output.trans hb.output, Nat.le_trans hb.size h.size, fun k hk => (h.block k (by omega) (fun hm => by have := hT k hm; omega)).trans (hb.block k hk)⟩
def rn (n d : Nat) : Nat := n / Nat.gcd n d
def rd (n d : Nat) : Nat := d / Nat.gcd n d
theorem rd_pos {n d : Nat} (h : 0 < d) : 0 < rd n d := Nat.div_pos (Nat.gcd_le_right n h) (Nat.gcd_pos_of_pos_right n h)
theorem rn_le (n d : Nat) : rn n d ≤ n := Nat.div_le_self _ _
theorem rd_le (n d : Nat) : rd n d ≤ d := Nat.div_le_self _ _
theorem wl_rn {k n d b : Nat} (hk : 0 < k) (h : wl k n ≤ b) : wl k (rn n d) ≤ b := Nat.le_trans (wl_mono hk (rn_le n d)) h
theorem wl_rd {k n d b : Nat} (hk : 0 < k) (h : wl k d ≤ b) : wl k (rd n d) ≤ b := Nat.le_trans (wl_mono hk (rd_le n d)) h
theorem rn_zero (d : Nat) : rn 0 d = 0 := Nat.zero_div _
theorem rd_zero {d : Nat} (h : 0 < d) : rd 0 d = 1 := by unfold rd; rw [Nat.gcd_zero_left]; exact Nat.div_self h
theorem F64.of {w : World} {A B : Option Addr} {p c q e n d : Nat} (h1 : N64 w (.agg #[.slice A p c]) n) (h2 : N64 w (.agg #[.slice B q e]) d) (h : 0 < d) : F64 w (.agg #[.slice A p c, .slice B q e]) n d := ⟨A, p, c, B, q, e, d, rfl, h1, h2, .inl ⟨rfl, h⟩⟩
theorem zero_eq (v : Value) (n : Nat) (w : World) (h : N64 w v n) (h0 : n = 0) : Calls Try.prog 29 #[v] w fun e w' => e = .returned (.bool true) ∧ Below w.heap.size w w' := by
  have := zero_any v n w h
  rwa [decide_eq_true h0] at this
theorem F64.none {w : World} : F64 w (.agg #[.slice .none 0 0, .slice .none 0 0]) 0 1 := ⟨_, _, _, _, _, _, 0, rfl, N64.zero w, N64.zero w, .inr ⟨rfl, rfl⟩⟩
theorem rzero_no (v : Value) (n d : Nat) (w : World) (h : F64 w v n d) (h0 : 0 < n) : Calls Try.prog 63 #[v] w fun e w' => e = .returned (.bool false) ∧ Below w.heap.size w w' := by
  have := rzero_any v n d w h
  rwa [decide_eq_false (by omega)] at this
theorem rzero_yes (v : Value) (n d : Nat) (w : World) (h : F64 w v n d) (h0 : n = 0) : Calls Try.prog 63 #[v] w fun e w' => e = .returned (.bool true) ∧ Below w.heap.size w w' := by
  have := rzero_any v n d w h
  rwa [decide_eq_true h0] at this
set_option maxRecDepth 100000 in
set_option maxHeartbeats 4000000 in
theorem rmade_any (va vb : Value) (n d : Nat) (w : World) (ha : N64 w va n) (hb : N64 w vb d) (hn : wl 64 n ≤ 500000000) (hd : wl 64 d ≤ 500000000) (h0 : 0 < d) : Calls Try.prog 113 #[va, vb] w (MkF w (rn n d) (rd n d)) := by
  have HA := Lib.hid ha
  have HB := Lib.hid hb
  obtain ⟨A, ca, rfl, _, _, _⟩ := ha
  obtain ⟨B, cb, rfl, _, _, _⟩ := hb
  have HO := Lib.hid one_any
  rcases Nat.eq_zero_or_pos n with hn0 | hn0
  · have HZ := Lib.hid (fun v W h => zero_eq v n W h hn0)
    have HD1 := Lib.hid (rd_zero h0)
    have HN0 := Lib.hid hn0
    clear hn hd hn0
    have e0 := ((Blk.new (w) 26 #[.slice A (wl 64 n) ca]).alloc (.cells #[.slice B (wl 64 d) cb] 26)).alloc (.cells #[.slice none 0 0, .slice none 0 0] 47)
    have e1 := (Blk.new ((w).alloc (.cells #[.slice A (wl 64 n) ca] 26)) 26 #[.slice B (wl 64 d) cb]).alloc (.cells #[.slice none 0 0, .slice none 0 0] 47)
    have e2 := Blk.new (((w).alloc (.cells #[.slice A (wl 64 n) ca] 26)).alloc (.cells #[.slice B (wl 64 d) cb] 26)) 47 #[.slice none 0 0, .slice none 0 0]
    have hb := cba (cba (cba (Below.refl _ w) (.cells #[.slice A (wl 64 n) ca] 26)) (.cells #[.slice B (wl 64 d) cb] 26)) (.cells #[.slice none 0 0, .slice none 0 0] 47)
    simp only [World.size_alloc] at e1 e2
    have hsz : w.heap.size ≤ w.heap.size := Nat.le_refl _
    go_enter Try.func113, Try.ntmps113
    go_upto_region 1 with (fail)
    obtain ⟨S, hS⟩ : ∃ S, (((w).alloc (.cells #[.slice A (wl 64 n) ca] 26)).alloc (.cells #[.slice B (wl 64 d) cb] 26)).alloc (.cells #[.slice none 0 0, .slice none 0 0] 47) = S := ⟨_, rfl⟩
    rw [hS] at e0 e1 e2 hb ⊢
    replace HA := Lib.hid (HA.out.below hb)
    replace HB := Lib.hid (HB.out.below hb)
    have HB0 := Lib.hid hb
    have E0 := Lib.hid e0
    have E1 := Lib.hid e1
    have E2 := Lib.hid e2
    clear hS hb hsz e0 e1 e2
    have k_E0_0 := E0.out.cell 0
    have k_E1_0 := E1.out.cell 0
    have k_E2_0 := E2.out.cell 0
    have k_E2_1 := E2.out.cell 1
    go_wp2_with fail
    refine (HZ.out _ _ HA.out).mono ?_
    rintro e w1 ⟨rfl, hb⟩
    clear k_E0_0 k_E1_0 k_E2_0 k_E2_1
    replace HA := Lib.hid (HA.out.below hb)
    replace HB := Lib.hid (HB.out.below hb)
    replace E0 := Lib.hid (blk_below E0.out hb)
    replace E1 := Lib.hid (blk_below E1.out hb)
    replace E2 := Lib.hid (blk_below E2.out hb)
    replace HB0 := Lib.hid (cbt HB0.out hb)
    clear hb
    have k_E0_0 := E0.out.cell 0
    have k_E1_0 := E1.out.cell 0
    have k_E2_0 := E2.out.cell 0
    have k_E2_1 := E2.out.cell 1
    go_wp2_with fail
    refine (HO.out _).mono ?_
    rintro e w1 ⟨u, rfl, hu, hb⟩
    clear k_E0_0 k_E1_0 k_E2_0 k_E2_1
    replace HA := Lib.hid (HA.out.below hb)
    replace HB := Lib.hid (HB.out.below hb)
    replace E0 := Lib.hid (blk_below E0.out hb)
    replace E1 := Lib.hid (blk_below E1.out hb)
    replace E2 := Lib.hid (blk_below E2.out hb)
    replace HB0 := Lib.hid (cbt HB0.out hb)
    have N1 := Lib.hid hu
    clear hb hu
    have k_E0_0 := E0.out.cell 0
    have k_E1_0 := E1.out.cell 0
    have k_E2_0 := E2.out.cell 0
    have k_E2_1 := E2.out.cell 1
    have Z1 := N1.out
    obtain ⟨P, c, rfl, _, _, _⟩ := Z1
    have f0 := E2.out.frozen 0
    have f1 := E2.out.frozen 1
    have HX := Lib.hid (show MkF w (rn n d) (rd n d) (.returned (.agg #[.slice none 0 0, .slice P (wl 64 1) c])) ((w1.setCell ⟨w.heap.size + 1 + 1, 0, none⟩ (.slice none 0 0)).setCell ⟨w.heap.size + 1 + 1, 1, none⟩ (.slice P (wl 64 1) c)) from by
      rw [HN0.out, rn_zero, HD1.out]
      refine ⟨_, rfl, ((F64.of (N64.zero _) N1.out (by decide)).keep (Keep.set E2.out 0 rfl _)).keep (Keep.set (E2.out.set_ 0 (.slice none 0 0)) 1 rfl _), ?_⟩
      exact (HB0.out.setCell (p := ⟨w.heap.size + 1 + 1, 0, none⟩) (by simp only []; omega) _).setCell (p := ⟨w.heap.size + 1 + 1, 1, none⟩) (by simp only []; omega) _)
    go_wp2
    exact bodyPost_ret (v := .agg #[.slice none 0 0, .slice P (wl 64 1) c]) (by simp [results, Try.results113, go_sem, k_E2_0, k_E2_1]) rfl HX.out
  · have HZ := Lib.hid (fun v W h => zero_no v n W h hn0)
    have HG := Lib.hid (fun va vb W h1 h2 => ngcd_any va vb n d W h1 h2 (by omega) (by omega))
    have hg0 : 0 < Nat.gcd n d := Nat.gcd_pos_of_pos_right n h0
    have HRP := Lib.hid (rd_pos (n := n) h0)
    have HRN : Hid (n / Nat.gcd n d = rn n d) := Lib.hid rfl
    have HRD : Hid (d / Nat.gcd n d = rd n d) := Lib.hid rfl
    have HD1 := Lib.hid (fun va vb W h1 h2 => ndiv_any va vb n (Nat.gcd n d) W h1 h2 (by omega) hg0)
    have HD2 := Lib.hid (fun va vb W h1 h2 => ndiv_any va vb d (Nat.gcd n d) W h1 h2 (by omega) hg0)
    have HCM := Lib.hid (fun va vb W h1 h2 => ncmp_any va vb (Nat.gcd n d) 1 W h1 h2)
    obtain ⟨g, hg⟩ : ∃ g, Nat.gcd n d = g := ⟨_, rfl⟩
    rw [hg] at HG HD1 HD2 HCM HRN HRD hg0
    clear hn hd hg
    have e0 := ((Blk.new (w) 26 #[.slice A (wl 64 n) ca]).alloc (.cells #[.slice B (wl 64 d) cb] 26)).alloc (.cells #[.slice none 0 0, .slice none 0 0] 47)
    have e1 := (Blk.new ((w).alloc (.cells #[.slice A (wl 64 n) ca] 26)) 26 #[.slice B (wl 64 d) cb]).alloc (.cells #[.slice none 0 0, .slice none 0 0] 47)
    have e2 := Blk.new (((w).alloc (.cells #[.slice A (wl 64 n) ca] 26)).alloc (.cells #[.slice B (wl 64 d) cb] 26)) 47 #[.slice none 0 0, .slice none 0 0]
    have hb := cba (cba (cba (Below.refl _ w) (.cells #[.slice A (wl 64 n) ca] 26)) (.cells #[.slice B (wl 64 d) cb] 26)) (.cells #[.slice none 0 0, .slice none 0 0] 47)
    simp only [World.size_alloc] at e1 e2
    have hsz : w.heap.size ≤ w.heap.size := Nat.le_refl _
    go_enter Try.func113, Try.ntmps113
    go_upto_region 1 with (fail)
    obtain ⟨S, hS⟩ : ∃ S, (((w).alloc (.cells #[.slice A (wl 64 n) ca] 26)).alloc (.cells #[.slice B (wl 64 d) cb] 26)).alloc (.cells #[.slice none 0 0, .slice none 0 0] 47) = S := ⟨_, rfl⟩
    rw [hS] at e0 e1 e2 hb ⊢
    replace HA := Lib.hid (HA.out.below hb)
    replace HB := Lib.hid (HB.out.below hb)
    have HB0 := Lib.hid hb
    have E0 := Lib.hid e0
    have E1 := Lib.hid e1
    have E2 := Lib.hid e2
    clear hS hb hsz e0 e1 e2
    have k_E0_0 := E0.out.cell 0
    have k_E1_0 := E1.out.cell 0
    have k_E2_0 := E2.out.cell 0
    have k_E2_1 := E2.out.cell 1
    go_wp2_with fail
    refine (HZ.out _ _ HA.out).mono ?_
    rintro e w1 ⟨rfl, hb⟩
    clear k_E0_0 k_E1_0 k_E2_0 k_E2_1
    replace HA := Lib.hid (HA.out.below hb)
    replace HB := Lib.hid (HB.out.below hb)
    replace E0 := Lib.hid (blk_below E0.out hb)
    replace E1 := Lib.hid (blk_below E1.out hb)
    replace E2 := Lib.hid (blk_below E2.out hb)
    replace HB0 := Lib.hid (cbt HB0.out hb)
    clear hb
    have k_E0_0 := E0.out.cell 0
    have k_E1_0 := E1.out.cell 0
    have k_E2_0 := E2.out.cell 0
    have k_E2_1 := E2.out.cell 1
    go_wp2_with fail
    refine (HG.out _ _ _ HA.out HB.out).mono ?_
    rintro e w2 ⟨u, rfl, hu, hb⟩
    clear k_E0_0 k_E1_0 k_E2_0 k_E2_1
    replace HA := Lib.hid (HA.out.below hb)
    replace HB := Lib.hid (HB.out.below hb)
    replace E0 := Lib.hid (blk_below E0.out hb)
    replace E1 := Lib.hid (blk_below E1.out hb)
    replace E2 := Lib.hid (blk_below E2.out hb)
    replace HB0 := Lib.hid (cbt HB0.out hb)
    have NG := Lib.hid hu
    clear hb hu
    have k_E0_0 := E0.out.cell 0
    have k_E1_0 := E1.out.cell 0
    have k_E2_0 := E2.out.cell 0
    have k_E2_1 := E2.out.cell 1
    have hge5 : w.heap.size + 1 + 1 < w2.heap.size := E2.out.lt
    have Z0 := NG.out
    obtain ⟨PT0, cpT0, rfl, _, _, _⟩ := Z0
    have e3 := Blk.new w2 26 #[.slice PT0 (wl 64 (g)) cpT0]
    have hb := cba (Below.refl _ w2) (.cells #[.slice PT0 (wl 64 (g)) cpT0] 26)
    go_upto_region 4 with (fail)
    obtain ⟨T, hS⟩ : ∃ S, (w2.alloc (.cells #[.slice PT0 (wl 64 (g)) cpT0] 26)) = S := ⟨_, rfl⟩
    rw [hS] at e3 hb ⊢
    obtain ⟨g5, hg⟩ : ∃ g, w2.heap.size = g := ⟨_, rfl⟩
    rw [hg] at e3 hge5
    simp only [hg]
    replace HA := Lib.hid (HA.out.below hb)
    replace HB := Lib.hid (HB.out.below hb)
    replace NG := Lib.hid (NG.out.below hb)
    replace E0 := Lib.hid (blk_below E0.out hb)
    replace E1 := Lib.hid (blk_below E1.out hb)
    replace E2 := Lib.hid (blk_below E2.out hb)
    replace HB0 := Lib.hid (cbt HB0.out hb)
    have E3 := Lib.hid e3
    clear hS hg hb e3 k_E0_0 k_E1_0 k_E2_0 k_E2_1
    by_cases hg1 : g ≤ 1
    · have hge : g = 1 := by omega
      rw [show cmpN g 1 = 0 by rw [hge]; rfl] at HCM
      have HG1 := Lib.hid hge
      clear hg1 hge hg0
      let FS : List Kept1 := [.n (g), .n (1), .eq (.int .i64 (0)), .eq (.bool false)]
      refine region_mono (Held T (fun j => FS.getD j .any) []) (by kernel_rfl) (by kernel_rfl) (by kernel_rfl) (Held.start _ _ _ (by simp) (by simp)) ?_
      refine Steps.held ?_ ?_
      · intro L v w' hJ
        have kb := hJ.out.blk E3.out (by simp [oldsOf])
        have k0 := kb.cell 0
        clear kb
        go_wp2_with fail
        exact ⟨rfl, rfl, hJ.out.same (by rfl) (NG.out.keep hJ.out.held.keep)⟩
      simp only [Act.put, List.setIfInBounds_toArray, List.set_cons_zero, List.set_cons_succ, Nat.reduceAdd]
      refine Steps.held ?_ ?_
      · intro L v w' hJ
        go_wp2_with fail
        refine (HO.out _).mono ?_
        rintro e w1 ⟨u, rfl, hu, hb⟩
        go_wp2_with fail
        exact ⟨rfl, rfl, hJ.out.call (by rfl) hb (hu)⟩
      simp only [Act.put, List.setIfInBounds_toArray, List.set_cons_zero, List.set_cons_succ, Nat.reduceAdd]
      refine Steps.held ?_ ?_
      · intro L v w' hJ
        have X0 := Lib.hid (show N64 w' (v 0) (g) from hJ.out.fact 0 (by kernel_rfl))
        have X1 := Lib.hid (show N64 w' (v 1) (1) from hJ.out.fact 1 (by kernel_rfl))
        go_wp2_with fail
        refine (HCM.out _ _ _ X0.out X1.out).mono ?_
        rintro e w1 ⟨rfl, hb⟩
        go_wp2_with fail
        exact ⟨rfl, rfl, hJ.out.call (by rfl) hb (rfl)⟩
      simp only [Act.put, List.setIfInBounds_toArray, List.set_cons_zero, List.set_cons_succ, Nat.reduceAdd]
      refine Steps.held ?_ ?_
      · intro L v w' hJ
        have hv2 : v 2 = .int .i64 (0) := hJ.out.fact 2 (by kernel_rfl)
        simp only [hv2]
        clear hv2
        go_wp2_with fail
        exact ⟨rfl, rfl, hJ.out.same (by rfl) (rfl)⟩
      simp only [Act.put, List.setIfInBounds_toArray, List.set_cons_zero, List.set_cons_succ, Nat.reduceAdd]
      refine Steps.nil ?_
      intro v w' hJ
      have h3 : v 3 = .bool false := hJ.end_fact 3 (by decide)
      have hbr := hJ.but.below
      clear hJ
      simp only [h3]
      clear h3
      replace E0 := Lib.hid (blk_below E0.out hbr)
      replace E1 := Lib.hid (blk_below E1.out hbr)
      replace E2 := Lib.hid (blk_below E2.out hbr)
      replace E3 := Lib.hid (blk_below E3.out hbr)
      replace HA := Lib.hid (HA.out.below hbr)
      replace HB := Lib.hid (HB.out.below hbr)
      replace NG := Lib.hid (NG.out.below hbr)
      replace HB0 := Lib.hid (cbt HB0.out hbr)
      clear hbr
      have k_E0_0 := E0.out.cell 0
      have k_E1_0 := E1.out.cell 0
      have k_E2_0 := E2.out.cell 0
      have k_E2_1 := E2.out.cell 1
      have f0 := E2.out.frozen 0
      have f1 := E2.out.frozen 1
      have HX := Lib.hid (show MkF w (rn n d) (rd n d) (.returned (.agg #[.slice A (wl 64 n) ca, .slice B (wl 64 d) cb])) ((w'.setCell ⟨w.heap.size + 1 + 1, 0, none⟩ (.slice A (wl 64 n) ca)).setCell ⟨w.heap.size + 1 + 1, 1, none⟩ (.slice B (wl 64 d) cb)) from by
        have hp := HRP.out
        rw [← HRN.out, ← HRD.out, HG1.out, Nat.div_one, Nat.div_one]
        rw [← HRD.out, HG1.out, Nat.div_one] at hp
        refine ⟨_, rfl, ((F64.of HA.out HB.out hp).keep (Keep.set E2.out 0 rfl _)).keep (Keep.set (E2.out.set_ 0 _) 1 rfl _), ?_⟩
        exact (HB0.out.setCell (p := ⟨w.heap.size + 1 + 1, 0, none⟩) (by simp only []; omega) _).setCell (p := ⟨w.heap.size + 1 + 1, 1, none⟩) (by simp only []; omega) _)
      go_wp2
      exact bodyPost_ret (v := .agg #[.slice A (wl 64 n) ca, .slice B (wl 64 d) cb]) (by simp [results, Try.results113, go_sem, k_E2_0, k_E2_1]) rfl HX.out
    · rw [cmpN_gt (by omega)] at HCM
      let FS : List Kept1 := [.n (g), .n (1), .eq (.int .i64 (1)), .eq (.bool true)]
      refine region_mono (Held T (fun j => FS.getD j .any) []) (by kernel_rfl) (by kernel_rfl) (by kernel_rfl) (Held.start _ _ _ (by simp) (by simp)) ?_
      refine Steps.held ?_ ?_
      · intro L v w' hJ
        have kb := hJ.out.blk E3.out (by simp [oldsOf])
        have k0 := kb.cell 0
        clear kb
        go_wp2_with fail
        exact ⟨rfl, rfl, hJ.out.same (by rfl) (NG.out.keep hJ.out.held.keep)⟩
      simp only [Act.put, List.setIfInBounds_toArray, List.set_cons_zero, List.set_cons_succ, Nat.reduceAdd]
      refine Steps.held ?_ ?_
      · intro L v w' hJ
        go_wp2_with fail
        refine (HO.out _).mono ?_
        rintro e w1 ⟨u, rfl, hu, hb⟩
        go_wp2_with fail
        exact ⟨rfl, rfl, hJ.out.call (by rfl) hb (hu)⟩
      simp only [Act.put, List.setIfInBounds_toArray, List.set_cons_zero, List.set_cons_succ, Nat.reduceAdd]
      refine Steps.held ?_ ?_
      · intro L v w' hJ
        have X0 := Lib.hid (show N64 w' (v 0) (g) from hJ.out.fact 0 (by kernel_rfl))
        have X1 := Lib.hid (show N64 w' (v 1) (1) from hJ.out.fact 1 (by kernel_rfl))
        go_wp2_with fail
        refine (HCM.out _ _ _ X0.out X1.out).mono ?_
        rintro e w1 ⟨rfl, hb⟩
        go_wp2_with fail
        exact ⟨rfl, rfl, hJ.out.call (by rfl) hb (rfl)⟩
      simp only [Act.put, List.setIfInBounds_toArray, List.set_cons_zero, List.set_cons_succ, Nat.reduceAdd]
      refine Steps.held ?_ ?_
      · intro L v w' hJ
        have hv2 : v 2 = .int .i64 (1) := hJ.out.fact 2 (by kernel_rfl)
        simp only [hv2]
        clear hv2
        go_wp2_with fail
        exact ⟨rfl, rfl, hJ.out.same (by rfl) (rfl)⟩
      simp only [Act.put, List.setIfInBounds_toArray, List.set_cons_zero, List.set_cons_succ, Nat.reduceAdd]
      refine Steps.nil ?_
      intro v w' hJ
      have h3 : v 3 = .bool true := hJ.end_fact 3 (by decide)
      have hbr := hJ.but.below
      clear hJ
      simp only [h3]
      clear h3
      replace E0 := Lib.hid (blk_below E0.out hbr)
      replace E1 := Lib.hid (blk_below E1.out hbr)
      replace E2 := Lib.hid (blk_below E2.out hbr)
      replace E3 := Lib.hid (blk_below E3.out hbr)
      replace HA := Lib.hid (HA.out.below hbr)
      replace HB := Lib.hid (HB.out.below hbr)
      replace NG := Lib.hid (NG.out.below hbr)
      replace HB0 := Lib.hid (cbt HB0.out hbr)
      clear hbr
      have k_E0_0 := E0.out.cell 0
      have k_E1_0 := E1.out.cell 0
      have k_E2_0 := E2.out.cell 0
      have k_E2_1 := E2.out.cell 1
      have k_E3_0 := E3.out.cell 0
      have f0 := E0.out.frozen 0
      go_wp2_with fail
      refine (HD1.out _ _ _ HA.out NG.out).mono ?_
      rintro e w3 ⟨u, r, rfl, hq, hr, hb⟩
      clear k_E0_0 k_E1_0 k_E2_0 k_E2_1 k_E3_0
      replace HA := Lib.hid (HA.out.below hb)
      replace HB := Lib.hid (HB.out.below hb)
      replace NG := Lib.hid (NG.out.below hb)
      replace E0 := Lib.hid (blk_below E0.out hb)
      replace E1 := Lib.hid (blk_below E1.out hb)
      replace E2 := Lib.hid (blk_below E2.out hb)
      replace E3 := Lib.hid (blk_below E3.out hb)
      replace HB0 := Lib.hid (cbt HB0.out hb)
      have NN := Lib.hid hq
      clear hb hq hr
      have k_E0_0 := E0.out.cell 0
      have k_E1_0 := E1.out.cell 0
      have k_E2_0 := E2.out.cell 0
      have k_E2_1 := E2.out.cell 1
      have k_E3_0 := E3.out.cell 0
      have ZN := NN.out
      obtain ⟨P1, c1, rfl, _, _, _⟩ := ZN
      clear k_E0_0 k_E1_0 k_E2_0 k_E2_1 k_E3_0 f0
      have f0 := E0.out.frozen 0
      have k0 := E0.out.cell 0
      go_upto_region 6 with (fail)
      have hO : w.heap.size + 1 + 1 < w3.heap.size := E2.out.lt
      have hk := Keep.set E0.out 0 rfl (.slice P1 (wl 64 (n / g)) c1)
      replace HB := Lib.hid (HB.out.keep hk)
      replace NG := Lib.hid (NG.out.keep hk)
      replace NN := Lib.hid (NN.out.keep hk)
      replace E1 := Lib.hid (E1.out.far (p := ⟨w.heap.size, 0, none⟩) (by have := E1.out.lt; have := E0.out.lt; simp only []; omega) (.slice P1 (wl 64 (n / g)) c1))
      replace E2 := Lib.hid (E2.out.far (p := ⟨w.heap.size, 0, none⟩) (by have := E2.out.lt; have := E0.out.lt; simp only []; omega) (.slice P1 (wl 64 (n / g)) c1))
      replace E3 := Lib.hid (E3.out.far (p := ⟨w.heap.size, 0, none⟩) (by have := E3.out.lt; have := E0.out.lt; simp only []; omega) (.slice P1 (wl 64 (n / g)) c1))
      replace E0 := Lib.hid (E0.out.set_ 0 (.slice P1 (wl 64 (n / g)) c1))
      replace HB0 := Lib.hid (HB0.out.setCell (p := ⟨w.heap.size, 0, none⟩) (by simp only []; omega) (.slice P1 (wl 64 (n / g)) c1))
      clear hk
      obtain ⟨X, hX⟩ : ∃ X, w3.setCell ⟨w.heap.size, 0, none⟩ (.slice P1 (wl 64 (n / g)) c1) = X := ⟨_, rfl⟩
      rw [hX] at E0 E1 E2 E3 HB NG NN HB0 ⊢
      clear hX f0 k0 hO HA HD1
      have k_E0_0 := E0.out.cell 0
      have k_E1_0 := E1.out.cell 0
      have k_E2_0 := E2.out.cell 0
      have k_E2_1 := E2.out.cell 1
      have k_E3_0 := E3.out.cell 0
      go_wp2_with fail
      refine (HD2.out _ _ _ HB.out NG.out).mono ?_
      rintro e w4 ⟨u, r, rfl, hq, hr, hb⟩
      clear k_E0_0 k_E1_0 k_E2_0 k_E2_1 k_E3_0
      replace HB := Lib.hid (HB.out.below hb)
      replace NG := Lib.hid (NG.out.below hb)
      replace NN := Lib.hid (NN.out.below hb)
      replace E0 := Lib.hid (blk_below E0.out hb)
      replace E1 := Lib.hid (blk_below E1.out hb)
      replace E2 := Lib.hid (blk_below E2.out hb)
      replace E3 := Lib.hid (blk_below E3.out hb)
      replace HB0 := Lib.hid (cbt HB0.out hb)
      have ND := Lib.hid hq
      clear hb hq hr
      have k_E0_0 := E0.out.cell 0
      have k_E1_0 := E1.out.cell 0
      have k_E2_0 := E2.out.cell 0
      have k_E2_1 := E2.out.cell 1
      have k_E3_0 := E3.out.cell 0
      have ZD := ND.out
      obtain ⟨P2, c2, rfl, _, _, _⟩ := ZD
      clear k_E0_0 k_E1_0 k_E2_0 k_E2_1 k_E3_0
      have f0 := E1.out.frozen 0
      have k0 := E1.out.cell 0
      go_upto_region 7 with (fail)
      have hk := Keep.set E1.out 0 rfl (.slice P2 (wl 64 (d / g)) c2)
      replace NN := Lib.hid (NN.out.keep hk)
      replace ND := Lib.hid (ND.out.keep hk)
      replace E0 := Lib.hid (E0.out.far (p := ⟨w.heap.size + 1, 0, none⟩) (by have := E0.out.lt; have := E1.out.lt; simp only []; omega) (.slice P2 (wl 64 (d / g)) c2))
      replace E2 := Lib.hid (E2.out.far (p := ⟨w.heap.size + 1, 0, none⟩) (by have := E2.out.lt; have := E1.out.lt; simp only []; omega) (.slice P2 (wl 64 (d / g)) c2))
      replace E1 := Lib.hid (E1.out.set_ 0 (.slice P2 (wl 64 (d / g)) c2))
      replace HB0 := Lib.hid (HB0.out.setCell (p := ⟨w.heap.size + 1, 0, none⟩) (by simp only []; omega) (.slice P2 (wl 64 (d / g)) c2))
      clear hk
      obtain ⟨Y, hY⟩ : ∃ X, w4.setCell ⟨w.heap.size + 1, 0, none⟩ (.slice P2 (wl 64 (d / g)) c2) = X := ⟨_, rfl⟩
      rw [hY] at E0 E1 E2 NN ND HB0 ⊢
      clear hY f0 k0 HD2 HB NG E3
      have k_E0_0 := E0.out.cell 0
      have k_E1_0 := E1.out.cell 0
      have k_E2_0 := E2.out.cell 0
      have k_E2_1 := E2.out.cell 1
      have f0 := E2.out.frozen 0
      have f1 := E2.out.frozen 1
      have HX := Lib.hid (show MkF w (rn n d) (rd n d) (.returned (.agg #[.slice P1 (wl 64 (n / g)) c1, .slice P2 (wl 64 (d / g)) c2])) ((Y.setCell ⟨w.heap.size + 1 + 1, 0, none⟩ (.slice P1 (wl 64 (n / g)) c1)).setCell ⟨w.heap.size + 1 + 1, 1, none⟩ (.slice P2 (wl 64 (d / g)) c2)) from by
        have hp := HRP.out
        rw [← HRN.out, ← HRD.out]
        rw [← HRD.out] at hp
        refine ⟨_, rfl, ((F64.of NN.out ND.out hp).keep (Keep.set E2.out 0 rfl _)).keep (Keep.set (E2.out.set_ 0 _) 1 rfl _), ?_⟩
        exact (HB0.out.setCell (p := ⟨w.heap.size + 1 + 1, 0, none⟩) (by simp only []; omega) _).setCell (p := ⟨w.heap.size + 1 + 1, 1, none⟩) (by simp only []; omega) _)
      go_wp2
      exact bodyPost_ret (v := .agg #[.slice P1 (wl 64 (n / g)) c1, .slice P2 (wl 64 (d / g)) c2]) (by simp [results, Try.results113, go_sem, k_E2_0, k_E2_1]) rfl HX.out
set_option maxRecDepth 100000 in
set_option maxHeartbeats 4000000 in
theorem rmulF_any (va vb : Value) (n d m e : Nat) (w : World) (ha : F64 w va n d) (hb : F64 w vb m e) (hn : wl 64 n ≤ 100000000) (hd : wl 64 d ≤ 100000000) (hm : wl 64 m ≤ 100000000) (he : wl 64 e ≤ 100000000) : Calls Try.prog 43 #[va, vb] w (MkF w (rn (n * m) (d * e)) (rd (n * m) (d * e))) := by
  have Ha := Lib.hid ha
  obtain ⟨Pa, pa, ca, Qa, qa, ea, xa, rfl, _, _, _⟩ := ha
  have Hb := Lib.hid hb
  obtain ⟨Pb, pb, cb, Qb, qb, eb, xb, rfl, _, _, _⟩ := hb
  have HNU := Lib.hid num_any
  have HDE := Lib.hid den_any
  have hd0 : 0 < d := by obtain ⟨_, _, _, _, _, _, _, _, _, _, h⟩ := Ha.out; exact h.pos
  have he0 : 0 < e := by obtain ⟨_, _, _, _, _, _, _, _, _, _, h⟩ := Hb.out; exact h.pos
  have hm1 := wl_mul_le (k := 64) (x := n) (y := m) (by decide) hn hm
  have HM1 := Lib.hid (fun va vb W h1 h2 => nmul_any va vb (n) (m) W h1 h2 (by omega) (by omega))
  have hm2 := wl_mul_le (k := 64) (x := d) (y := e) (by decide) hd he
  have HM2 := Lib.hid (fun va vb W h1 h2 => nmul_any va vb (d) (e) W h1 h2 (by omega) (by omega))
  have HMA := Lib.hid (fun va vb W h1 h2 => rmade_any va vb (n * m) (d * e) W h1 h2 (by omega) (by omega) (Nat.mul_pos hd0 he0))
  clear hm1 hm2 hd0 he0
  clear hn hd hm he
  have e0 := ((Blk.new (w) 47 #[(.slice Pa pa ca), (.slice Qa qa ea)]).alloc (.cells #[(.slice Pb pb cb), (.slice Qb qb eb)] 47)).alloc (.cells #[(.slice none 0 0), (.slice none 0 0)] 47)
  have e1 := (Blk.new ((w).alloc (.cells #[(.slice Pa pa ca), (.slice Qa qa ea)] 47)) 47 #[(.slice Pb pb cb), (.slice Qb qb eb)]).alloc (.cells #[(.slice none 0 0), (.slice none 0 0)] 47)
  have e2 := Blk.new (((w).alloc (.cells #[(.slice Pa pa ca), (.slice Qa qa ea)] 47)).alloc (.cells #[(.slice Pb pb cb), (.slice Qb qb eb)] 47)) 47 #[(.slice none 0 0), (.slice none 0 0)]
  have hb := cba (cba (cba (Below.refl _ w) (.cells #[(.slice Pa pa ca), (.slice Qa qa ea)] 47)) (.cells #[(.slice Pb pb cb), (.slice Qb qb eb)] 47)) (.cells #[(.slice none 0 0), (.slice none 0 0)] 47)
  simp only [World.size_alloc] at e1 e2
  have hsz : w.heap.size ≤ w.heap.size := Nat.le_refl _
  go_enter Try.func43, Try.ntmps43
  go_upto_region 1 with (fail)
  obtain ⟨S, hS⟩ : ∃ S, (((w).alloc (.cells #[(.slice Pa pa ca), (.slice Qa qa ea)] 47)).alloc (.cells #[(.slice Pb pb cb), (.slice Qb qb eb)] 47)).alloc (.cells #[(.slice none 0 0), (.slice none 0 0)] 47) = S := ⟨_, rfl⟩
  rw [hS] at e0 e1 e2 hb ⊢
  replace Ha := Lib.hid (Ha.out.below hb)
  replace Hb := Lib.hid (Hb.out.below hb)
  have HB0 := Lib.hid hb
  have E0 := Lib.hid e0
  have E1 := Lib.hid e1
  have E2 := Lib.hid e2
  clear hS hb hsz e0 e1 e2
  go_wp2_with fail
  let FS : List Kept1 := [.f (n) (d), .n (n), .f (m) (e), .n (m), .n (n * m), .f (n) (d), .n (d), .f (m) (e), .n (e), .n (d * e), .f (rn (n * m) (d * e)) (rd (n * m) (d * e)), .any]
  let BS : List Bx := [Bx.rat (.inr (w.heap.size + 1 + 1)) 11 #[(.slice none 0 0), (.slice none 0 0)] (rn (n * m) (d * e)) (rd (n * m) (d * e))]
  refine region_mono (Held S (fun j => FS.getD j .any) BS) (by kernel_rfl) (by kernel_rfl) (by kernel_rfl) (Held.start _ _ _ (by simp [BS, Bx.nat, Bx.rat, Bx.ref] <;> exact E2.out) (by simp [BS, Bx.nat, Bx.rat, Bx.ref])) ?_
  refine Steps.held ?_ ?_
  · intro L v w' hJ
    have kb := hJ.out.blk E0.out (by simp [oldsOf, BS, Bx.nat, Bx.rat, Bx.ref] <;> omega)
    have k0 := kb.cell 0
    have k1 := kb.cell 1
    clear kb
    go_wp2_with fail
    exact ⟨rfl, rfl, hJ.out.same (by rfl) (Ha.out.keep hJ.out.held.keep)⟩
  simp only [Act.put, List.setIfInBounds_toArray, List.set_cons_zero, List.set_cons_succ, Nat.reduceAdd]
  refine Steps.held ?_ ?_
  · intro L v w' hJ
    have X0 := Lib.hid (show F64 w' (v 0) (n) (d) from hJ.out.fact 0 (by kernel_rfl))
    go_wp2_with fail
    refine (HNU.out _ _ _ _ X0.out).mono ?_
    rintro e w1 ⟨u, rfl, hu, hb⟩
    go_wp2_with fail
    exact ⟨rfl, rfl, hJ.out.call (by rfl) hb (hu)⟩
  simp only [Act.put, List.setIfInBounds_toArray, List.set_cons_zero, List.set_cons_succ, Nat.reduceAdd]
  refine Steps.held ?_ ?_
  · intro L v w' hJ
    have kb := hJ.out.blk E1.out (by simp [oldsOf, BS, Bx.nat, Bx.rat, Bx.ref] <;> omega)
    have k0 := kb.cell 0
    have k1 := kb.cell 1
    clear kb
    go_wp2_with fail
    exact ⟨rfl, rfl, hJ.out.same (by rfl) (Hb.out.keep hJ.out.held.keep)⟩
  simp only [Act.put, List.setIfInBounds_toArray, List.set_cons_zero, List.set_cons_succ, Nat.reduceAdd]
  refine Steps.held ?_ ?_
  · intro L v w' hJ
    have X0 := Lib.hid (show F64 w' (v 2) (m) (e) from hJ.out.fact 2 (by kernel_rfl))
    go_wp2_with fail
    refine (HNU.out _ _ _ _ X0.out).mono ?_
    rintro e w1 ⟨u, rfl, hu, hb⟩
    go_wp2_with fail
    exact ⟨rfl, rfl, hJ.out.call (by rfl) hb (hu)⟩
  simp only [Act.put, List.setIfInBounds_toArray, List.set_cons_zero, List.set_cons_succ, Nat.reduceAdd]
  refine Steps.held ?_ ?_
  · intro L v w' hJ
    have X0 := Lib.hid (show N64 w' (v 1) (n) from hJ.out.fact 1 (by kernel_rfl))
    have X1 := Lib.hid (show N64 w' (v 3) (m) from hJ.out.fact 3 (by kernel_rfl))
    go_wp2_with fail
    refine (HM1.out _ _ _ X0.out X1.out).mono ?_
    rintro e w1 ⟨u, rfl, hu, hb⟩
    go_wp2_with fail
    exact ⟨rfl, rfl, hJ.out.call (by rfl) hb (hu)⟩
  simp only [Act.put, List.setIfInBounds_toArray, List.set_cons_zero, List.set_cons_succ, Nat.reduceAdd]
  refine Steps.held ?_ ?_
  · intro L v w' hJ
    have kb := hJ.out.blk E0.out (by simp [oldsOf, BS, Bx.nat, Bx.rat, Bx.ref] <;> omega)
    have k0 := kb.cell 0
    have k1 := kb.cell 1
    clear kb
    go_wp2_with fail
    exact ⟨rfl, rfl, hJ.out.same (by rfl) (Ha.out.keep hJ.out.held.keep)⟩
  simp only [Act.put, List.setIfInBounds_toArray, List.set_cons_zero, List.set_cons_succ, Nat.reduceAdd]
  refine Steps.held ?_ ?_
  · intro L v w' hJ
    have X0 := Lib.hid (show F64 w' (v 5) (n) (d) from hJ.out.fact 5 (by kernel_rfl))
    go_wp2_with fail
    refine (HDE.out _ _ _ _ X0.out).mono ?_
    rintro e w1 ⟨u, rfl, hu, hb⟩
    go_wp2_with fail
    exact ⟨rfl, rfl, hJ.out.call (by rfl) hb (hu)⟩
  simp only [Act.put, List.setIfInBounds_toArray, List.set_cons_zero, List.set_cons_succ, Nat.reduceAdd]
  refine Steps.held ?_ ?_
  · intro L v w' hJ
    have kb := hJ.out.blk E1.out (by simp [oldsOf, BS, Bx.nat, Bx.rat, Bx.ref] <;> omega)
    have k0 := kb.cell 0
    have k1 := kb.cell 1
    clear kb
    go_wp2_with fail
    exact ⟨rfl, rfl, hJ.out.same (by rfl) (Hb.out.keep hJ.out.held.keep)⟩
  simp only [Act.put, List.setIfInBounds_toArray, List.set_cons_zero, List.set_cons_succ, Nat.reduceAdd]
  refine Steps.held ?_ ?_
  · intro L v w' hJ
    have X0 := Lib.hid (show F64 w' (v 7) (m) (e) from hJ.out.fact 7 (by kernel_rfl))
    go_wp2_with fail
    refine (HDE.out _ _ _ _ X0.out).mono ?_
    rintro e w1 ⟨u, rfl, hu, hb⟩
    go_wp2_with fail
    exact ⟨rfl, rfl, hJ.out.call (by rfl) hb (hu)⟩
  simp only [Act.put, List.setIfInBounds_toArray, List.set_cons_zero, List.set_cons_succ, Nat.reduceAdd]
  refine Steps.held ?_ ?_
  · intro L v w' hJ
    have X0 := Lib.hid (show N64 w' (v 6) (d) from hJ.out.fact 6 (by kernel_rfl))
    have X1 := Lib.hid (show N64 w' (v 8) (e) from hJ.out.fact 8 (by kernel_rfl))
    go_wp2_with fail
    refine (HM2.out _ _ _ X0.out X1.out).mono ?_
    rintro e w1 ⟨u, rfl, hu, hb⟩
    go_wp2_with fail
    exact ⟨rfl, rfl, hJ.out.call (by rfl) hb (hu)⟩
  simp only [Act.put, List.setIfInBounds_toArray, List.set_cons_zero, List.set_cons_succ, Nat.reduceAdd]
  refine Steps.held ?_ ?_
  · intro L v w' hJ
    have X0 := Lib.hid (show N64 w' (v 4) (n * m) from hJ.out.fact 4 (by kernel_rfl))
    have X1 := Lib.hid (show N64 w' (v 9) (d * e) from hJ.out.fact 9 (by kernel_rfl))
    go_wp2_with fail
    refine (HMA.out _ _ _ X0.out X1.out).mono ?_
    rintro e w1 ⟨u, rfl, hu, hb⟩
    go_wp2_with fail
    exact ⟨rfl, rfl, hJ.out.call (by rfl) hb (hu)⟩
  simp only [Act.put, List.setIfInBounds_toArray, List.set_cons_zero, List.set_cons_succ, Nat.reduceAdd]
  refine Steps.held ?_ ?_
  · intro L v w' hJ
    obtain ⟨hown, hst⟩ := hJ.out.oldbox 0 _ rfl (w.heap.size + 1 + 1) rfl
    have hN : F64 w' (v 10) (rn (n * m) (d * e)) (rd (n * m) (d * e)) := hJ.out.fact 10 (by kernel_rfl)
    obtain ⟨A1, p1, c1, B1, q1, e1, x1, hv, h1, h2, h3⟩ := hN
    have HN := Lib.hid (show F64 w' (.agg #[.slice A1 p1 c1, .slice B1 q1 e1]) (rn (n * m) (d * e)) (rd (n * m) (d * e)) from ⟨A1, p1, c1, B1, q1, e1, x1, rfl, h1, h2, h3⟩)
    have kb := hJ.out.box 0 _ rfl rfl (w.heap.size + 1 + 1) hown
    have k0 : w'.cell? ⟨(w.heap.size + 1 + 1), 0, none⟩ = some ((.slice none 0 0)) := kb.cell 0
    have k1 : w'.cell? ⟨(w.heap.size + 1 + 1), 1, none⟩ = some ((.slice none 0 0)) := kb.cell 1
    have f0 := kb.frozen 0
    have f1 := kb.frozen 1
    have HO := Lib.hid hown
    have HS := Lib.hid hst
    clear kb h1 h2 h3 hown hst
    simp only [hv]
    clear hv
    go_wp2_with fail
    exact ⟨rfl, rfl, hJ.out.fill2 0 _ rfl rfl (by rfl) (w.heap.size + 1 + 1) HO.out HS.out _ _ rfl rfl rfl (fun W k => HN.out.keep k) (fun _ => trivial)⟩
  simp only [Act.put, List.setIfInBounds_toArray, List.set_cons_zero, List.set_cons_succ, Nat.reduceAdd]
  refine Steps.nil ?_
  intro v w' hJ
  obtain ⟨cs, hblk, hf⟩ := hJ.end_old 0 _ rfl (w.heap.size + 1 + 1) rfl (Nat.le_of_ble_eq_true rfl)
  have hf' : F64 w' (.agg cs) (rn (n * m) (d * e)) (rd (n * m) (d * e)) := hf
  obtain ⟨A1, p1, c1, B1, q1, e1, x1, hcs, h1, h2, h3⟩ := hf'
  have hcs' := Value.agg.inj hcs
  subst hcs'
  have k0 := hblk.cell 0
  have k1 := hblk.cell 1
  have hbw : Below w.heap.size w w' := hJ.but.to_below HB0.out HB0.out.size (by intro g hg; simp [oldsOf, BS, Bx.nat, Bx.rat, Bx.ref] at hg; subst hg; omega)
  have HX := Lib.hid (show MkF w (rn (n * m) (d * e)) (rd (n * m) (d * e)) (.returned (.agg #[.slice A1 p1 c1, .slice B1 q1 e1])) w' from ⟨_, rfl, ⟨A1, p1, c1, B1, q1, e1, x1, rfl, h1, h2, h3⟩, hbw⟩)
  clear hJ h1 h2 hbw hblk hcs hf
  go_wp2_with fail
  exact bodyPost_ret (v := .agg #[.slice A1 p1 c1, .slice B1 q1 e1]) (by simp [results, Try.results43, go_sem, k0, k1]) rfl HX.out
set_option maxRecDepth 100000 in
set_option maxHeartbeats 4000000 in
theorem rdivF_any (va vb : Value) (n d m e : Nat) (w : World) (ha : F64 w va n d) (hb : F64 w vb m e) (hn : wl 64 n ≤ 100000000) (hd : wl 64 d ≤ 100000000) (hm : wl 64 m ≤ 100000000) (he : wl 64 e ≤ 100000000) (hm0 : 0 < m) : Calls Try.prog 71 #[va, vb] w fun x w' => ∃ v, x = .returned (.tuple #[v, .int .i64 0]) ∧ F64 w' v (rn (n * e) (d * m)) (rd (n * e) (d * m)) ∧ Below w.heap.size w w' := by
  have Ha := Lib.hid ha
  obtain ⟨Pa, pa, ca, Qa, qa, ea, xa, rfl, _, _, _⟩ := ha
  have Hb := Lib.hid hb
  obtain ⟨Pb, pb, cb, Qb, qb, eb, xb, rfl, _, _, _⟩ := hb
  have HNU := Lib.hid num_any
  have HDE := Lib.hid den_any
  have hd0 : 0 < d := by obtain ⟨_, _, _, _, _, _, _, _, _, _, h⟩ := Ha.out; exact h.pos
  have he0 : 0 < e := by obtain ⟨_, _, _, _, _, _, _, _, _, _, h⟩ := Hb.out; exact h.pos
  have hmp := Lib.hid hm0
  have hm1 := wl_mul_le (k := 64) (x := n) (y := e) (by decide) hn he
  have HM1 := Lib.hid (fun va vb W h1 h2 => nmul_any va vb (n) (e) W h1 h2 (by omega) (by omega))
  have hm2 := wl_mul_le (k := 64) (x := d) (y := m) (by decide) hd hm
  have HM2 := Lib.hid (fun va vb W h1 h2 => nmul_any va vb (d) (m) W h1 h2 (by omega) (by omega))
  have HMA := Lib.hid (fun va vb W h1 h2 => rmade_any va vb (n * e) (d * m) W h1 h2 (by omega) (by omega) (Nat.mul_pos hd0 hm0))
  have HZ := Lib.hid (fun v W h => rzero_no v m e W h hm0)
  clear hm1 hm2 hd0 he0 hmp hm0
  clear hn hd hm he
  have e0 := ((Blk.new (w) 47 #[(.slice Pa pa ca), (.slice Qa qa ea)]).alloc (.cells #[(.slice Pb pb cb), (.slice Qb qb eb)] 47)).alloc (.cells #[(.slice none 0 0), (.slice none 0 0)] 47)
  have e1 := (Blk.new ((w).alloc (.cells #[(.slice Pa pa ca), (.slice Qa qa ea)] 47)) 47 #[(.slice Pb pb cb), (.slice Qb qb eb)]).alloc (.cells #[(.slice none 0 0), (.slice none 0 0)] 47)
  have e2 := Blk.new (((w).alloc (.cells #[(.slice Pa pa ca), (.slice Qa qa ea)] 47)).alloc (.cells #[(.slice Pb pb cb), (.slice Qb qb eb)] 47)) 47 #[(.slice none 0 0), (.slice none 0 0)]
  have hb := cba (cba (cba (Below.refl _ w) (.cells #[(.slice Pa pa ca), (.slice Qa qa ea)] 47)) (.cells #[(.slice Pb pb cb), (.slice Qb qb eb)] 47)) (.cells #[(.slice none 0 0), (.slice none 0 0)] 47)
  simp only [World.size_alloc] at e1 e2
  have hsz : w.heap.size ≤ w.heap.size := Nat.le_refl _
  go_enter Try.func71, Try.ntmps71
  go_upto_region 1 with (fail)
  obtain ⟨S, hS⟩ : ∃ S, (((w).alloc (.cells #[(.slice Pa pa ca), (.slice Qa qa ea)] 47)).alloc (.cells #[(.slice Pb pb cb), (.slice Qb qb eb)] 47)).alloc (.cells #[(.slice none 0 0), (.slice none 0 0)] 47) = S := ⟨_, rfl⟩
  rw [hS] at e0 e1 e2 hb ⊢
  replace Ha := Lib.hid (Ha.out.below hb)
  replace Hb := Lib.hid (Hb.out.below hb)
  have HB0 := Lib.hid hb
  have E0 := Lib.hid e0
  have E1 := Lib.hid e1
  have E2 := Lib.hid e2
  clear hS hb hsz e0 e1 e2
  have k_E0_0 := E0.out.cell 0
  have k_E0_1 := E0.out.cell 1
  have k_E1_0 := E1.out.cell 0
  have k_E1_1 := E1.out.cell 1
  have k_E2_0 := E2.out.cell 0
  have k_E2_1 := E2.out.cell 1
  go_wp2_with fail
  refine (HZ.out _ _ Hb.out).mono ?_
  rintro e w1 ⟨rfl, hb⟩
  clear k_E0_0 k_E0_1 k_E1_0 k_E1_1 k_E2_0 k_E2_1
  replace Ha := Lib.hid (Ha.out.below hb)
  replace Hb := Lib.hid (Hb.out.below hb)
  replace E0 := Lib.hid (blk_below E0.out hb)
  replace E1 := Lib.hid (blk_below E1.out hb)
  replace E2 := Lib.hid (blk_below E2.out hb)
  replace HB0 := Lib.hid (cbt HB0.out hb)
  clear hb
  have k_E0_0 := E0.out.cell 0
  have k_E0_1 := E0.out.cell 1
  have k_E1_0 := E1.out.cell 0
  have k_E1_1 := E1.out.cell 1
  have k_E2_0 := E2.out.cell 0
  have k_E2_1 := E2.out.cell 1
  go_wp2_with fail
  clear k_E0_0 k_E0_1 k_E1_0 k_E1_1 k_E2_0 k_E2_1
  let FS : List Kept1 := [.f (n) (d), .n (n), .f (m) (e), .n (e), .n (n * e), .f (n) (d), .n (d), .f (m) (e), .n (m), .n (d * m), .f (rn (n * e) (d * m)) (rd (n * e) (d * m)), .any, .eq (.int .i64 0)]
  let BS : List Bx := [Bx.rat (.inr (w.heap.size + 1 + 1)) 11 #[(.slice none 0 0), (.slice none 0 0)] (rn (n * e) (d * m)) (rd (n * e) (d * m))]
  refine region_mono (Held w1 (fun j => FS.getD j .any) BS) (by kernel_rfl) (by kernel_rfl) (by kernel_rfl) (Held.start _ _ _ (by simp [BS, Bx.nat, Bx.rat, Bx.ref] <;> exact E2.out) (by simp [BS, Bx.nat, Bx.rat, Bx.ref])) ?_
  refine Steps.held ?_ ?_
  · intro L v w' hJ
    have kb := hJ.out.blk E0.out (by simp [oldsOf, BS, Bx.nat, Bx.rat, Bx.ref] <;> omega)
    have k0 := kb.cell 0
    have k1 := kb.cell 1
    clear kb
    go_wp2_with fail
    exact ⟨rfl, rfl, hJ.out.same (by rfl) (Ha.out.keep hJ.out.held.keep)⟩
  simp only [Act.put, List.setIfInBounds_toArray, List.set_cons_zero, List.set_cons_succ, Nat.reduceAdd]
  refine Steps.held ?_ ?_
  · intro L v w' hJ
    have X0 := Lib.hid (show F64 w' (v 0) (n) (d) from hJ.out.fact 0 (by kernel_rfl))
    go_wp2_with fail
    refine (HNU.out _ _ _ _ X0.out).mono ?_
    rintro e w1 ⟨u, rfl, hu, hb⟩
    go_wp2_with fail
    exact ⟨rfl, rfl, hJ.out.call (by rfl) hb (hu)⟩
  simp only [Act.put, List.setIfInBounds_toArray, List.set_cons_zero, List.set_cons_succ, Nat.reduceAdd]
  refine Steps.held ?_ ?_
  · intro L v w' hJ
    have kb := hJ.out.blk E1.out (by simp [oldsOf, BS, Bx.nat, Bx.rat, Bx.ref] <;> omega)
    have k0 := kb.cell 0
    have k1 := kb.cell 1
    clear kb
    go_wp2_with fail
    exact ⟨rfl, rfl, hJ.out.same (by rfl) (Hb.out.keep hJ.out.held.keep)⟩
  simp only [Act.put, List.setIfInBounds_toArray, List.set_cons_zero, List.set_cons_succ, Nat.reduceAdd]
  refine Steps.held ?_ ?_
  · intro L v w' hJ
    have X0 := Lib.hid (show F64 w' (v 2) (m) (e) from hJ.out.fact 2 (by kernel_rfl))
    go_wp2_with fail
    refine (HDE.out _ _ _ _ X0.out).mono ?_
    rintro e w1 ⟨u, rfl, hu, hb⟩
    go_wp2_with fail
    exact ⟨rfl, rfl, hJ.out.call (by rfl) hb (hu)⟩
  simp only [Act.put, List.setIfInBounds_toArray, List.set_cons_zero, List.set_cons_succ, Nat.reduceAdd]
  refine Steps.held ?_ ?_
  · intro L v w' hJ
    have X0 := Lib.hid (show N64 w' (v 1) (n) from hJ.out.fact 1 (by kernel_rfl))
    have X1 := Lib.hid (show N64 w' (v 3) (e) from hJ.out.fact 3 (by kernel_rfl))
    go_wp2_with fail
    refine (HM1.out _ _ _ X0.out X1.out).mono ?_
    rintro e w1 ⟨u, rfl, hu, hb⟩
    go_wp2_with fail
    exact ⟨rfl, rfl, hJ.out.call (by rfl) hb (hu)⟩
  simp only [Act.put, List.setIfInBounds_toArray, List.set_cons_zero, List.set_cons_succ, Nat.reduceAdd]
  refine Steps.held ?_ ?_
  · intro L v w' hJ
    have kb := hJ.out.blk E0.out (by simp [oldsOf, BS, Bx.nat, Bx.rat, Bx.ref] <;> omega)
    have k0 := kb.cell 0
    have k1 := kb.cell 1
    clear kb
    go_wp2_with fail
    exact ⟨rfl, rfl, hJ.out.same (by rfl) (Ha.out.keep hJ.out.held.keep)⟩
  simp only [Act.put, List.setIfInBounds_toArray, List.set_cons_zero, List.set_cons_succ, Nat.reduceAdd]
  refine Steps.held ?_ ?_
  · intro L v w' hJ
    have X0 := Lib.hid (show F64 w' (v 5) (n) (d) from hJ.out.fact 5 (by kernel_rfl))
    go_wp2_with fail
    refine (HDE.out _ _ _ _ X0.out).mono ?_
    rintro e w1 ⟨u, rfl, hu, hb⟩
    go_wp2_with fail
    exact ⟨rfl, rfl, hJ.out.call (by rfl) hb (hu)⟩
  simp only [Act.put, List.setIfInBounds_toArray, List.set_cons_zero, List.set_cons_succ, Nat.reduceAdd]
  refine Steps.held ?_ ?_
  · intro L v w' hJ
    have kb := hJ.out.blk E1.out (by simp [oldsOf, BS, Bx.nat, Bx.rat, Bx.ref] <;> omega)
    have k0 := kb.cell 0
    have k1 := kb.cell 1
    clear kb
    go_wp2_with fail
    exact ⟨rfl, rfl, hJ.out.same (by rfl) (Hb.out.keep hJ.out.held.keep)⟩
  simp only [Act.put, List.setIfInBounds_toArray, List.set_cons_zero, List.set_cons_succ, Nat.reduceAdd]
  refine Steps.held ?_ ?_
  · intro L v w' hJ
    have X0 := Lib.hid (show F64 w' (v 7) (m) (e) from hJ.out.fact 7 (by kernel_rfl))
    go_wp2_with fail
    refine (HNU.out _ _ _ _ X0.out).mono ?_
    rintro e w1 ⟨u, rfl, hu, hb⟩
    go_wp2_with fail
    exact ⟨rfl, rfl, hJ.out.call (by rfl) hb (hu)⟩
  simp only [Act.put, List.setIfInBounds_toArray, List.set_cons_zero, List.set_cons_succ, Nat.reduceAdd]
  refine Steps.held ?_ ?_
  · intro L v w' hJ
    have X0 := Lib.hid (show N64 w' (v 6) (d) from hJ.out.fact 6 (by kernel_rfl))
    have X1 := Lib.hid (show N64 w' (v 8) (m) from hJ.out.fact 8 (by kernel_rfl))
    go_wp2_with fail
    refine (HM2.out _ _ _ X0.out X1.out).mono ?_
    rintro e w1 ⟨u, rfl, hu, hb⟩
    go_wp2_with fail
    exact ⟨rfl, rfl, hJ.out.call (by rfl) hb (hu)⟩
  simp only [Act.put, List.setIfInBounds_toArray, List.set_cons_zero, List.set_cons_succ, Nat.reduceAdd]
  refine Steps.held ?_ ?_
  · intro L v w' hJ
    have X0 := Lib.hid (show N64 w' (v 4) (n * e) from hJ.out.fact 4 (by kernel_rfl))
    have X1 := Lib.hid (show N64 w' (v 9) (d * m) from hJ.out.fact 9 (by kernel_rfl))
    go_wp2_with fail
    refine (HMA.out _ _ _ X0.out X1.out).mono ?_
    rintro e w1 ⟨u, rfl, hu, hb⟩
    go_wp2_with fail
    exact ⟨rfl, rfl, hJ.out.call (by rfl) hb (hu)⟩
  simp only [Act.put, List.setIfInBounds_toArray, List.set_cons_zero, List.set_cons_succ, Nat.reduceAdd]
  refine Steps.held ?_ ?_
  · intro L v w' hJ
    obtain ⟨hown, hst⟩ := hJ.out.oldbox 0 _ rfl (w.heap.size + 1 + 1) rfl
    have hN : F64 w' (v 10) (rn (n * e) (d * m)) (rd (n * e) (d * m)) := hJ.out.fact 10 (by kernel_rfl)
    obtain ⟨A1, p1, c1, B1, q1, e1, x1, hv, h1, h2, h3⟩ := hN
    have HN := Lib.hid (show F64 w' (.agg #[.slice A1 p1 c1, .slice B1 q1 e1]) (rn (n * e) (d * m)) (rd (n * e) (d * m)) from ⟨A1, p1, c1, B1, q1, e1, x1, rfl, h1, h2, h3⟩)
    have kb := hJ.out.box 0 _ rfl rfl (w.heap.size + 1 + 1) hown
    have k0 : w'.cell? ⟨(w.heap.size + 1 + 1), 0, none⟩ = some ((.slice none 0 0)) := kb.cell 0
    have k1 : w'.cell? ⟨(w.heap.size + 1 + 1), 1, none⟩ = some ((.slice none 0 0)) := kb.cell 1
    have f0 := kb.frozen 0
    have f1 := kb.frozen 1
    have HO := Lib.hid hown
    have HS := Lib.hid hst
    clear kb h1 h2 h3 hown hst
    simp only [hv]
    clear hv
    go_wp2_with fail
    exact ⟨rfl, rfl, hJ.out.fill2 0 _ rfl rfl (by rfl) (w.heap.size + 1 + 1) HO.out HS.out _ _ rfl rfl rfl (fun W k => HN.out.keep k) (fun _ => trivial)⟩
  simp only [Act.put, List.setIfInBounds_toArray, List.set_cons_zero, List.set_cons_succ, Nat.reduceAdd]
  refine Steps.held ?_ ?_
  · intro L v w' hJ
    go_wp2_with fail
    exact ⟨rfl, rfl, hJ.out.same (by rfl) (rfl)⟩
  simp only [Act.put, List.setIfInBounds_toArray, List.set_cons_zero, List.set_cons_succ, Nat.reduceAdd]
  refine Steps.nil ?_
  intro v w' hJ
  obtain ⟨cs, hblk, hf⟩ := hJ.end_old 0 _ rfl (w.heap.size + 1 + 1) rfl (Nat.le_of_ble_eq_true rfl)
  have hf' : F64 w' (.agg cs) (rn (n * e) (d * m)) (rd (n * e) (d * m)) := hf
  obtain ⟨A1, p1, c1, B1, q1, e1, x1, hcs, h1, h2, h3⟩ := hf'
  have hcs' := Value.agg.inj hcs
  subst hcs'
  have k0 := hblk.cell 0
  have k1 := hblk.cell 1
  have h12 : v 12 = .int .i64 0 := hJ.end_fact 12 (by decide)
  simp only [h12]
  clear h12
  have hbw : Below w.heap.size w w' := hJ.but.to_below HB0.out HB0.out.size (by intro g hg; simp [oldsOf, BS, Bx.nat, Bx.rat, Bx.ref] at hg; subst hg; omega)
  have HX := Lib.hid (show ∃ v, Ending.returned (.tuple #[.agg #[.slice A1 p1 c1, .slice B1 q1 e1], .int .i64 0]) = .returned (.tuple #[v, .int .i64 0]) ∧ F64 w' v (rn (n * e) (d * m)) (rd (n * e) (d * m)) ∧ Below w.heap.size w w' from ⟨_, rfl, ⟨A1, p1, c1, B1, q1, e1, x1, rfl, h1, h2, h3⟩, hbw⟩)
  clear hJ h1 h2 hbw hblk hcs hf
  go_wp2_with fail
  exact bodyPost_ret (v := .tuple #[.agg #[.slice A1 p1 c1, .slice B1 q1 e1], .int .i64 0]) (by simp [results, Try.results71, go_sem, k0, k1]) rfl HX.out
set_option maxRecDepth 100000 in
set_option maxHeartbeats 4000000 in
theorem rofF_any (va vb : Value) (n d : Nat) (w : World) (ha : N64 w va n) (hb : N64 w vb d) (hn : wl 64 n ≤ 100000000) (hd : wl 64 d ≤ 100000000) (h0 : 0 < d) : Calls Try.prog 61 #[va, vb] w fun x w' => ∃ v, x = .returned (.tuple #[v, .int .i64 0]) ∧ F64 w' v (rn n d) (rd n d) ∧ Below w.heap.size w w' := by
  have HA := Lib.hid ha
  have HB := Lib.hid hb
  obtain ⟨A, ca, rfl, _, _, _⟩ := ha
  obtain ⟨B, cb, rfl, _, _, _⟩ := hb
  have HZ := Lib.hid (fun v W h => zero_no v d W h h0)
  have HMA := Lib.hid (fun va vb W h1 h2 => rmade_any va vb n d W h1 h2 (by omega) (by omega) h0)
  clear hn hd h0
  have e0 := ((Blk.new (w) 26 #[.slice A (wl 64 n) ca]).alloc (.cells #[.slice B (wl 64 d) cb] 26)).alloc (.cells #[.slice none 0 0, .slice none 0 0] 47)
  have e1 := (Blk.new ((w).alloc (.cells #[.slice A (wl 64 n) ca] 26)) 26 #[.slice B (wl 64 d) cb]).alloc (.cells #[.slice none 0 0, .slice none 0 0] 47)
  have e2 := Blk.new (((w).alloc (.cells #[.slice A (wl 64 n) ca] 26)).alloc (.cells #[.slice B (wl 64 d) cb] 26)) 47 #[.slice none 0 0, .slice none 0 0]
  have hb := cba (cba (cba (Below.refl _ w) (.cells #[.slice A (wl 64 n) ca] 26)) (.cells #[.slice B (wl 64 d) cb] 26)) (.cells #[.slice none 0 0, .slice none 0 0] 47)
  simp only [World.size_alloc] at e1 e2
  have hsz : w.heap.size ≤ w.heap.size := Nat.le_refl _
  go_enter Try.func61, Try.ntmps61
  go_upto_region 1 with (fail)
  obtain ⟨S, hS⟩ : ∃ S, (((w).alloc (.cells #[.slice A (wl 64 n) ca] 26)).alloc (.cells #[.slice B (wl 64 d) cb] 26)).alloc (.cells #[.slice none 0 0, .slice none 0 0] 47) = S := ⟨_, rfl⟩
  rw [hS] at e0 e1 e2 hb ⊢
  replace HA := Lib.hid (HA.out.below hb)
  replace HB := Lib.hid (HB.out.below hb)
  have HB0 := Lib.hid hb
  have E0 := Lib.hid e0
  have E1 := Lib.hid e1
  have E2 := Lib.hid e2
  clear hS hb hsz e0 e1 e2
  have k_E0_0 := E0.out.cell 0
  have k_E1_0 := E1.out.cell 0
  have k_E2_0 := E2.out.cell 0
  have k_E2_1 := E2.out.cell 1
  go_wp2_with fail
  refine (HZ.out _ _ HB.out).mono ?_
  rintro e w1 ⟨rfl, hb⟩
  clear k_E0_0 k_E1_0 k_E2_0 k_E2_1
  replace HA := Lib.hid (HA.out.below hb)
  replace HB := Lib.hid (HB.out.below hb)
  replace E0 := Lib.hid (blk_below E0.out hb)
  replace E1 := Lib.hid (blk_below E1.out hb)
  replace E2 := Lib.hid (blk_below E2.out hb)
  replace HB0 := Lib.hid (cbt HB0.out hb)
  clear hb
  have k_E0_0 := E0.out.cell 0
  have k_E1_0 := E1.out.cell 0
  have k_E2_0 := E2.out.cell 0
  have k_E2_1 := E2.out.cell 1
  go_wp2_with fail
  refine (HMA.out _ _ _ HA.out HB.out).mono ?_
  rintro e w2 ⟨u, rfl, hu, hb⟩
  clear k_E0_0 k_E1_0 k_E2_0 k_E2_1
  replace HA := Lib.hid (HA.out.below hb)
  replace HB := Lib.hid (HB.out.below hb)
  replace E0 := Lib.hid (blk_below E0.out hb)
  replace E1 := Lib.hid (blk_below E1.out hb)
  replace E2 := Lib.hid (blk_below E2.out hb)
  replace HB0 := Lib.hid (cbt HB0.out hb)
  have NR := Lib.hid hu
  clear hb hu
  have k_E0_0 := E0.out.cell 0
  have k_E1_0 := E1.out.cell 0
  have k_E2_0 := E2.out.cell 0
  have k_E2_1 := E2.out.cell 1
  have ZR := NR.out
  obtain ⟨A1, p1, c1, B1, q1, e1, x1, rfl, _, _, _⟩ := ZR
  have f0 := E2.out.frozen 0
  have f1 := E2.out.frozen 1
  have HX := Lib.hid (show ∃ v, Ending.returned (.tuple #[.agg #[.slice A1 p1 c1, .slice B1 q1 e1], .int .i64 0]) = .returned (.tuple #[v, .int .i64 0]) ∧ F64 ((w2.setCell ⟨w.heap.size + 1 + 1, 0, none⟩ (.slice A1 p1 c1)).setCell ⟨w.heap.size + 1 + 1, 1, none⟩ (.slice B1 q1 e1)) v (rn n d) (rd n d) ∧ Below w.heap.size w ((w2.setCell ⟨w.heap.size + 1 + 1, 0, none⟩ (.slice A1 p1 c1)).setCell ⟨w.heap.size + 1 + 1, 1, none⟩ (.slice B1 q1 e1)) from
    ⟨_, rfl, (NR.out.keep (Keep.set E2.out 0 rfl _)).keep (Keep.set (E2.out.set_ 0 _) 1 rfl _), (HB0.out.setCell (p := ⟨w.heap.size + 1 + 1, 0, none⟩) (by simp only []; omega) _).setCell (p := ⟨w.heap.size + 1 + 1, 1, none⟩) (by simp only []; omega) _⟩)
  go_wp2
  exact bodyPost_ret (v := .tuple #[.agg #[.slice A1 p1 c1, .slice B1 q1 e1], .int .i64 0]) (by simp [results, Try.results61, go_sem, k_E2_0, k_E2_1]) rfl HX.out
set_option maxRecDepth 100000 in
set_option maxHeartbeats 4000000 in
theorem rlessF_no (va vb : Value) (n d m e : Nat) (w : World) (ha : F64 w va n d) (hb : F64 w vb m e) (hn : wl 64 n ≤ 100000000) (hd : wl 64 d ≤ 100000000) (hm : wl 64 m ≤ 100000000) (he : wl 64 e ≤ 100000000) (hle : n * e < m * d) : Calls Try.prog 62 #[va, vb] w (MkF w 0 1) := by
  have Ha := Lib.hid ha
  obtain ⟨Pa, pa, ca, Qa, qa, ea, xa, rfl, _, _, _⟩ := ha
  have Hb := Lib.hid hb
  obtain ⟨Pb, pb, cb, Qb, qb, eb, xb, rfl, _, _, _⟩ := hb
  have HNU := Lib.hid num_any
  have HDE := Lib.hid den_any
  have hd0 : 0 < d := by obtain ⟨_, _, _, _, _, _, _, _, _, _, h⟩ := Ha.out; exact h.pos
  have he0 : 0 < e := by obtain ⟨_, _, _, _, _, _, _, _, _, _, h⟩ := Hb.out; exact h.pos
  have hm1 := wl_mul_le (k := 64) (x := n) (y := e) (by decide) hn he
  have HM1 := Lib.hid (fun va vb W h1 h2 => nmul_any va vb (n) (e) W h1 h2 (by omega) (by omega))
  have hm2 := wl_mul_le (k := 64) (x := m) (y := d) (by decide) hm hd
  have HM2 := Lib.hid (fun va vb W h1 h2 => nmul_any va vb (m) (d) W h1 h2 (by omega) (by omega))
  have HSB := Lib.hid (fun va vb W h1 h2 => nsub_no va vb (n * e) (m * d) W h1 h2 hle)
  have HIN : Hid (∀ W, Calls Try.prog 74 #[.int .u64 0] W (MkF W 0 1)) := Lib.hid (fun W => rint_any 0 (by decide) W)
  clear hm1 hm2 hle hd0 he0
  clear hn hd hm he
  have e0 := ((Blk.new (w) 47 #[(.slice Pa pa ca), (.slice Qa qa ea)]).alloc (.cells #[(.slice Pb pb cb), (.slice Qb qb eb)] 47)).alloc (.cells #[(.slice none 0 0), (.slice none 0 0)] 47)
  have e1 := (Blk.new ((w).alloc (.cells #[(.slice Pa pa ca), (.slice Qa qa ea)] 47)) 47 #[(.slice Pb pb cb), (.slice Qb qb eb)]).alloc (.cells #[(.slice none 0 0), (.slice none 0 0)] 47)
  have e2 := Blk.new (((w).alloc (.cells #[(.slice Pa pa ca), (.slice Qa qa ea)] 47)).alloc (.cells #[(.slice Pb pb cb), (.slice Qb qb eb)] 47)) 47 #[(.slice none 0 0), (.slice none 0 0)]
  have hb := cba (cba (cba (Below.refl _ w) (.cells #[(.slice Pa pa ca), (.slice Qa qa ea)] 47)) (.cells #[(.slice Pb pb cb), (.slice Qb qb eb)] 47)) (.cells #[(.slice none 0 0), (.slice none 0 0)] 47)
  simp only [World.size_alloc] at e1 e2
  have hsz : w.heap.size ≤ w.heap.size := Nat.le_refl _
  go_enter Try.func62, Try.ntmps62
  go_upto_region 1 with (fail)
  obtain ⟨S, hS⟩ : ∃ S, (((w).alloc (.cells #[(.slice Pa pa ca), (.slice Qa qa ea)] 47)).alloc (.cells #[(.slice Pb pb cb), (.slice Qb qb eb)] 47)).alloc (.cells #[(.slice none 0 0), (.slice none 0 0)] 47) = S := ⟨_, rfl⟩
  rw [hS] at e0 e1 e2 hb ⊢
  replace Ha := Lib.hid (Ha.out.below hb)
  replace Hb := Lib.hid (Hb.out.below hb)
  have HB0 := Lib.hid hb
  have E0 := Lib.hid e0
  have E1 := Lib.hid e1
  have E2 := Lib.hid e2
  clear hS hb hsz e0 e1 e2
  go_wp2_with fail
  let FS : List Kept1 := [.f (n) (d), .n (n), .f (m) (e), .n (e), .n (n * e), .f (m) (e), .n (m), .f (n) (d), .n (d), .n (m * d), .two (.n (0)) (.eq (.int .i64 8)), .two (.n (0)) (.eq (.int .i64 8)), .n (0), .eq (.int .i64 8), .any, .any, .eq (.int .i64 8)]
  let BS : List Bx := [Bx.nat (.inl 14) 15 #[.slice none 0 0] (0)]
  refine region_mono (Held S (fun j => FS.getD j .any) BS) (by kernel_rfl) (by kernel_rfl) (by kernel_rfl) (Held.start _ _ _ (by simp [BS, Bx.nat, Bx.rat, Bx.ref]) (by simp [BS, Bx.nat, Bx.rat, Bx.ref])) ?_
  refine Steps.held ?_ ?_
  · intro L v w' hJ
    have kb := hJ.out.blk E0.out (by simp [oldsOf, BS, Bx.nat, Bx.rat, Bx.ref])
    have k0 := kb.cell 0
    have k1 := kb.cell 1
    clear kb
    go_wp2_with fail
    exact ⟨rfl, rfl, hJ.out.same (by rfl) (Ha.out.keep hJ.out.held.keep)⟩
  simp only [Act.put, List.setIfInBounds_toArray, List.set_cons_zero, List.set_cons_succ, Nat.reduceAdd]
  refine Steps.held ?_ ?_
  · intro L v w' hJ
    have X0 := Lib.hid (show F64 w' (v 0) (n) (d) from hJ.out.fact 0 (by kernel_rfl))
    go_wp2_with fail
    refine (HNU.out _ _ _ _ X0.out).mono ?_
    rintro e w1 ⟨u, rfl, hu, hb⟩
    go_wp2_with fail
    exact ⟨rfl, rfl, hJ.out.call (by rfl) hb (hu)⟩
  simp only [Act.put, List.setIfInBounds_toArray, List.set_cons_zero, List.set_cons_succ, Nat.reduceAdd]
  refine Steps.held ?_ ?_
  · intro L v w' hJ
    have kb := hJ.out.blk E1.out (by simp [oldsOf, BS, Bx.nat, Bx.rat, Bx.ref])
    have k0 := kb.cell 0
    have k1 := kb.cell 1
    clear kb
    go_wp2_with fail
    exact ⟨rfl, rfl, hJ.out.same (by rfl) (Hb.out.keep hJ.out.held.keep)⟩
  simp only [Act.put, List.setIfInBounds_toArray, List.set_cons_zero, List.set_cons_succ, Nat.reduceAdd]
  refine Steps.held ?_ ?_
  · intro L v w' hJ
    have X0 := Lib.hid (show F64 w' (v 2) (m) (e) from hJ.out.fact 2 (by kernel_rfl))
    go_wp2_with fail
    refine (HDE.out _ _ _ _ X0.out).mono ?_
    rintro e w1 ⟨u, rfl, hu, hb⟩
    go_wp2_with fail
    exact ⟨rfl, rfl, hJ.out.call (by rfl) hb (hu)⟩
  simp only [Act.put, List.setIfInBounds_toArray, List.set_cons_zero, List.set_cons_succ, Nat.reduceAdd]
  refine Steps.held ?_ ?_
  · intro L v w' hJ
    have X0 := Lib.hid (show N64 w' (v 1) (n) from hJ.out.fact 1 (by kernel_rfl))
    have X1 := Lib.hid (show N64 w' (v 3) (e) from hJ.out.fact 3 (by kernel_rfl))
    go_wp2_with fail
    refine (HM1.out _ _ _ X0.out X1.out).mono ?_
    rintro e w1 ⟨u, rfl, hu, hb⟩
    go_wp2_with fail
    exact ⟨rfl, rfl, hJ.out.call (by rfl) hb (hu)⟩
  simp only [Act.put, List.setIfInBounds_toArray, List.set_cons_zero, List.set_cons_succ, Nat.reduceAdd]
  refine Steps.held ?_ ?_
  · intro L v w' hJ
    have kb := hJ.out.blk E1.out (by simp [oldsOf, BS, Bx.nat, Bx.rat, Bx.ref])
    have k0 := kb.cell 0
    have k1 := kb.cell 1
    clear kb
    go_wp2_with fail
    exact ⟨rfl, rfl, hJ.out.same (by rfl) (Hb.out.keep hJ.out.held.keep)⟩
  simp only [Act.put, List.setIfInBounds_toArray, List.set_cons_zero, List.set_cons_succ, Nat.reduceAdd]
  refine Steps.held ?_ ?_
  · intro L v w' hJ
    have X0 := Lib.hid (show F64 w' (v 5) (m) (e) from hJ.out.fact 5 (by kernel_rfl))
    go_wp2_with fail
    refine (HNU.out _ _ _ _ X0.out).mono ?_
    rintro e w1 ⟨u, rfl, hu, hb⟩
    go_wp2_with fail
    exact ⟨rfl, rfl, hJ.out.call (by rfl) hb (hu)⟩
  simp only [Act.put, List.setIfInBounds_toArray, List.set_cons_zero, List.set_cons_succ, Nat.reduceAdd]
  refine Steps.held ?_ ?_
  · intro L v w' hJ
    have kb := hJ.out.blk E0.out (by simp [oldsOf, BS, Bx.nat, Bx.rat, Bx.ref])
    have k0 := kb.cell 0
    have k1 := kb.cell 1
    clear kb
    go_wp2_with fail
    exact ⟨rfl, rfl, hJ.out.same (by rfl) (Ha.out.keep hJ.out.held.keep)⟩
  simp only [Act.put, List.setIfInBounds_toArray, List.set_cons_zero, List.set_cons_succ, Nat.reduceAdd]
  refine Steps.held ?_ ?_
  · intro L v w' hJ
    have X0 := Lib.hid (show F64 w' (v 7) (n) (d) from hJ.out.fact 7 (by kernel_rfl))
    go_wp2_with fail
    refine (HDE.out _ _ _ _ X0.out).mono ?_
    rintro e w1 ⟨u, rfl, hu, hb⟩
    go_wp2_with fail
    exact ⟨rfl, rfl, hJ.out.call (by rfl) hb (hu)⟩
  simp only [Act.put, List.setIfInBounds_toArray, List.set_cons_zero, List.set_cons_succ, Nat.reduceAdd]
  refine Steps.held ?_ ?_
  · intro L v w' hJ
    have X0 := Lib.hid (show N64 w' (v 6) (m) from hJ.out.fact 6 (by kernel_rfl))
    have X1 := Lib.hid (show N64 w' (v 8) (d) from hJ.out.fact 8 (by kernel_rfl))
    go_wp2_with fail
    refine (HM2.out _ _ _ X0.out X1.out).mono ?_
    rintro e w1 ⟨u, rfl, hu, hb⟩
    go_wp2_with fail
    exact ⟨rfl, rfl, hJ.out.call (by rfl) hb (hu)⟩
  simp only [Act.put, List.setIfInBounds_toArray, List.set_cons_zero, List.set_cons_succ, Nat.reduceAdd]
  refine Steps.held ?_ ?_
  · intro L v w' hJ
    have X0 := Lib.hid (show N64 w' (v 4) (n * e) from hJ.out.fact 4 (by kernel_rfl))
    have X1 := Lib.hid (show N64 w' (v 9) (m * d) from hJ.out.fact 9 (by kernel_rfl))
    go_wp2_with fail
    refine (HSB.out _ _ _ X0.out X1.out).mono ?_
    rintro e w1 ⟨u, rfl, hu, hb⟩
    go_wp2_with fail
    exact ⟨rfl, rfl, hJ.out.call (by rfl) hb (⟨_, _, rfl, hu, rfl⟩)⟩
  simp only [Act.put, List.setIfInBounds_toArray, List.set_cons_zero, List.set_cons_succ, Nat.reduceAdd]
  refine Steps.held ?_ ?_
  · intro L v w' hJ
    go_wp2_with fail
    exact ⟨rfl, rfl, hJ.out.same (by rfl) (hJ.out.fact 10 (by kernel_rfl))⟩
  simp only [Act.put, List.setIfInBounds_toArray, List.set_cons_zero, List.set_cons_succ, Nat.reduceAdd]
  refine Steps.held ?_ ?_
  · intro L v w' hJ
    obtain ⟨x0, x1, hv, h0, h1⟩ := hJ.out.fact 11 (by kernel_rfl)
    simp only [hv]
    clear hv
    go_wp2_with fail
    exact ⟨rfl, rfl, hJ.out.same (by rfl) (h0)⟩
  simp only [Act.put, List.setIfInBounds_toArray, List.set_cons_zero, List.set_cons_succ, Nat.reduceAdd]
  refine Steps.held ?_ ?_
  · intro L v w' hJ
    obtain ⟨x0, x1, hv, h0, h1⟩ := hJ.out.fact 11 (by kernel_rfl)
    simp only [hv]
    clear hv
    go_wp2_with fail
    exact ⟨rfl, rfl, hJ.out.same (by rfl) (h1)⟩
  simp only [Act.put, List.setIfInBounds_toArray, List.set_cons_zero, List.set_cons_succ, Nat.reduceAdd]
  refine Steps.held ?_ ?_
  · intro L v w' hJ
    go_wp2_with fail
    exact ⟨rfl, rfl, hJ.out.made 0 _ rfl rfl (by rfl) trivial⟩
  simp only [Act.put, List.setIfInBounds_toArray, List.set_cons_zero, List.set_cons_succ, Nat.reduceAdd]
  refine Steps.held ?_ ?_
  · intro L v w' hJ
    obtain ⟨g, hg, hge, hown, hst⟩ := hJ.out.newbox 0 _ rfl 14 rfl (by kernel_rfl)
    have hN : N64 w' (v 12) (0) := hJ.out.fact 12 (by kernel_rfl)
    obtain ⟨P, c, hv, h1, h2, h3⟩ := hN
    have HN := Lib.hid (show N64 w' (.agg #[.slice P (wl 64 (0)) c]) (0) from ⟨P, c, rfl, h1, h2, h3⟩)
    have kb := hJ.out.box 0 _ rfl rfl g hown
    have k0 : w'.cell? ⟨g, 0, none⟩ = some (.slice none 0 0) := kb.cell 0
    have f0 := kb.frozen 0
    have HO := Lib.hid hown
    have HS := Lib.hid hst
    clear kb h1 h2 h3 hown hst
    simp only [hg, hv]
    clear hg hv
    go_wp2_with fail
    exact ⟨rfl, rfl, hJ.out.fill1 0 _ rfl rfl (by rfl) g HO.out HS.out _ rfl rfl (fun W k => ⟨P, c, rfl, HN.out.keep k⟩) (fun _ => trivial)⟩
  simp only [Act.put, List.setIfInBounds_toArray, List.set_cons_zero, List.set_cons_succ, Nat.reduceAdd]
  refine Steps.held ?_ ?_
  · intro L v w' hJ
    have hv13 : v 13 = .int .i64 8 := hJ.out.fact 13 (by kernel_rfl)
    simp only [hv13]
    clear hv13
    go_wp2_with fail
    exact ⟨rfl, rfl, hJ.out.same (by rfl) (rfl)⟩
  simp only [Act.put, List.setIfInBounds_toArray, List.set_cons_zero, List.set_cons_succ, Nat.reduceAdd]
  refine Steps.nil ?_
  intro v w' hJ
  obtain ⟨g3, cs14, hv14, hge14, hb14, A14, c14, rfl, hn14⟩ := hJ.end_new 0 _ rfl 14 rfl (by decide) (Nat.le_of_ble_eq_true rfl)
  simp only [hv14]
  have E3 := Lib.hid (show Blk _ _ 26 _ from hb14)
  have NE3 := Lib.hid hn14
  clear hv14 hb14 hn14
  have h16 : v 16 = .int .i64 8 := hJ.end_fact 16 (by decide)
  simp only [h16]
  clear h16
  have hbr := hJ.but.below
  replace Ha := Lib.hid (Ha.out.below hbr)
  replace Hb := Lib.hid (Hb.out.below hbr)
  replace E0 := Lib.hid (blk_below E0.out hbr)
  replace E1 := Lib.hid (blk_below E1.out hbr)
  replace E2 := Lib.hid (blk_below E2.out hbr)
  replace HB0 := Lib.hid (cbt HB0.out hbr)
  clear hJ hbr
  have k_E2_0 := E2.out.cell 0
  have k_E2_1 := E2.out.cell 1
  go_wp2_with fail
  refine (HIN.out _).mono ?_
  rintro e w2 ⟨u, rfl, hu, hb⟩
  clear k_E2_0 k_E2_1
  replace E2 := Lib.hid (blk_below E2.out hb)
  replace HB0 := Lib.hid (cbt HB0.out hb)
  have NR := Lib.hid hu
  clear hb hu
  have k_E2_0 := E2.out.cell 0
  have k_E2_1 := E2.out.cell 1
  have ZR := NR.out
  obtain ⟨A1, p1, c1, B1, q1, e1, x1, rfl, _, _, _⟩ := ZR
  have f0 := E2.out.frozen 0
  have f1 := E2.out.frozen 1
  have HX := Lib.hid (show MkF w 0 1 (.returned (.agg #[.slice A1 p1 c1, .slice B1 q1 e1])) ((w2.setCell ⟨w.heap.size + 1 + 1, 0, none⟩ (.slice A1 p1 c1)).setCell ⟨w.heap.size + 1 + 1, 1, none⟩ (.slice B1 q1 e1)) from
    ⟨_, rfl, (NR.out.keep (Keep.set E2.out 0 rfl _)).keep (Keep.set (E2.out.set_ 0 _) 1 rfl _), (HB0.out.setCell (p := ⟨w.heap.size + 1 + 1, 0, none⟩) (by simp only []; omega) _).setCell (p := ⟨w.heap.size + 1 + 1, 1, none⟩) (by simp only []; omega) _⟩)
  go_wp2
  exact bodyPost_ret (v := .agg #[.slice A1 p1 c1, .slice B1 q1 e1]) (by simp [results, Try.results62, go_sem, k_E2_0, k_E2_1]) rfl HX.out
set_option maxRecDepth 100000 in
set_option maxHeartbeats 4000000 in
theorem rlessF_any (va vb : Value) (n d m e : Nat) (w : World) (ha : F64 w va n d) (hb : F64 w vb m e) (hn : wl 64 n ≤ 100000000) (hd : wl 64 d ≤ 100000000) (hm : wl 64 m ≤ 100000000) (he : wl 64 e ≤ 100000000) (hle : m * d ≤ n * e) : Calls Try.prog 62 #[va, vb] w (MkF w (rn (n * e - m * d) (d * e)) (rd (n * e - m * d) (d * e))) := by
  have Ha := Lib.hid ha
  obtain ⟨Pa, pa, ca, Qa, qa, ea, xa, rfl, _, _, _⟩ := ha
  have Hb := Lib.hid hb
  obtain ⟨Pb, pb, cb, Qb, qb, eb, xb, rfl, _, _, _⟩ := hb
  have HNU := Lib.hid num_any
  have HDE := Lib.hid den_any
  have hd0 : 0 < d := by obtain ⟨_, _, _, _, _, _, _, _, _, _, h⟩ := Ha.out; exact h.pos
  have he0 : 0 < e := by obtain ⟨_, _, _, _, _, _, _, _, _, _, h⟩ := Hb.out; exact h.pos
  have hm1 := wl_mul_le (k := 64) (x := n) (y := e) (by decide) hn he
  have HM1 := Lib.hid (fun va vb W h1 h2 => nmul_any va vb (n) (e) W h1 h2 (by omega) (by omega))
  have hm2 := wl_mul_le (k := 64) (x := m) (y := d) (by decide) hm hd
  have HM2 := Lib.hid (fun va vb W h1 h2 => nmul_any va vb (m) (d) W h1 h2 (by omega) (by omega))
  obtain ⟨z, hz⟩ : ∃ z, n * e = z + m * d := ⟨n * e - m * d, by omega⟩
  have hz2 : n * e - m * d = z := by omega
  rw [hz2]
  have HSB := Lib.hid (fun va vb W h1 h2 => nsub_any va vb z (m * d) W h1 h2 (by rw [← hz]; omega))
  rw [← hz] at HSB
  have hm3 := wl_mul_le (k := 64) (x := d) (y := e) (by decide) hd he
  have HM3 := Lib.hid (fun va vb W h1 h2 => nmul_any va vb d e W h1 h2 (by omega) (by omega))
  have hzw : wl 64 z ≤ 200000000 := Nat.le_trans (wl_mono (by decide) (show z ≤ n * e by omega)) (by omega)
  have HMA := Lib.hid (fun va vb W h1 h2 => rmade_any va vb (z) (d * e) W h1 h2 (by omega) (by omega) (Nat.mul_pos hd0 he0))
  clear hm1 hm2 hm3 hle hz hz2 hzw hd0 he0
  clear hn hd hm he
  have e0 := ((Blk.new (w) 47 #[(.slice Pa pa ca), (.slice Qa qa ea)]).alloc (.cells #[(.slice Pb pb cb), (.slice Qb qb eb)] 47)).alloc (.cells #[(.slice none 0 0), (.slice none 0 0)] 47)
  have e1 := (Blk.new ((w).alloc (.cells #[(.slice Pa pa ca), (.slice Qa qa ea)] 47)) 47 #[(.slice Pb pb cb), (.slice Qb qb eb)]).alloc (.cells #[(.slice none 0 0), (.slice none 0 0)] 47)
  have e2 := Blk.new (((w).alloc (.cells #[(.slice Pa pa ca), (.slice Qa qa ea)] 47)).alloc (.cells #[(.slice Pb pb cb), (.slice Qb qb eb)] 47)) 47 #[(.slice none 0 0), (.slice none 0 0)]
  have hb := cba (cba (cba (Below.refl _ w) (.cells #[(.slice Pa pa ca), (.slice Qa qa ea)] 47)) (.cells #[(.slice Pb pb cb), (.slice Qb qb eb)] 47)) (.cells #[(.slice none 0 0), (.slice none 0 0)] 47)
  simp only [World.size_alloc] at e1 e2
  have hsz : w.heap.size ≤ w.heap.size := Nat.le_refl _
  go_enter Try.func62, Try.ntmps62
  go_upto_region 1 with (fail)
  obtain ⟨S, hS⟩ : ∃ S, (((w).alloc (.cells #[(.slice Pa pa ca), (.slice Qa qa ea)] 47)).alloc (.cells #[(.slice Pb pb cb), (.slice Qb qb eb)] 47)).alloc (.cells #[(.slice none 0 0), (.slice none 0 0)] 47) = S := ⟨_, rfl⟩
  rw [hS] at e0 e1 e2 hb ⊢
  replace Ha := Lib.hid (Ha.out.below hb)
  replace Hb := Lib.hid (Hb.out.below hb)
  have HB0 := Lib.hid hb
  have E0 := Lib.hid e0
  have E1 := Lib.hid e1
  have E2 := Lib.hid e2
  clear hS hb hsz e0 e1 e2
  go_wp2_with fail
  let FS : List Kept1 := [.f (n) (d), .n (n), .f (m) (e), .n (e), .n (n * e), .f (m) (e), .n (m), .f (n) (d), .n (d), .n (m * d), .two (.n (z)) (.eq (.int .i64 0)), .two (.n (z)) (.eq (.int .i64 0)), .n (z), .eq (.int .i64 0), .any, .any, .eq (.int .i64 0)]
  let BS : List Bx := [Bx.nat (.inl 14) 15 #[.slice none 0 0] (z)]
  refine region_mono (Held S (fun j => FS.getD j .any) BS) (by kernel_rfl) (by kernel_rfl) (by kernel_rfl) (Held.start _ _ _ (by simp [BS, Bx.nat, Bx.rat, Bx.ref]) (by simp [BS, Bx.nat, Bx.rat, Bx.ref])) ?_
  refine Steps.held ?_ ?_
  · intro L v w' hJ
    have kb := hJ.out.blk E0.out (by simp [oldsOf, BS, Bx.nat, Bx.rat, Bx.ref])
    have k0 := kb.cell 0
    have k1 := kb.cell 1
    clear kb
    go_wp2_with fail
    exact ⟨rfl, rfl, hJ.out.same (by rfl) (Ha.out.keep hJ.out.held.keep)⟩
  simp only [Act.put, List.setIfInBounds_toArray, List.set_cons_zero, List.set_cons_succ, Nat.reduceAdd]
  refine Steps.held ?_ ?_
  · intro L v w' hJ
    have X0 := Lib.hid (show F64 w' (v 0) (n) (d) from hJ.out.fact 0 (by kernel_rfl))
    go_wp2_with fail
    refine (HNU.out _ _ _ _ X0.out).mono ?_
    rintro e w1 ⟨u, rfl, hu, hb⟩
    go_wp2_with fail
    exact ⟨rfl, rfl, hJ.out.call (by rfl) hb (hu)⟩
  simp only [Act.put, List.setIfInBounds_toArray, List.set_cons_zero, List.set_cons_succ, Nat.reduceAdd]
  refine Steps.held ?_ ?_
  · intro L v w' hJ
    have kb := hJ.out.blk E1.out (by simp [oldsOf, BS, Bx.nat, Bx.rat, Bx.ref])
    have k0 := kb.cell 0
    have k1 := kb.cell 1
    clear kb
    go_wp2_with fail
    exact ⟨rfl, rfl, hJ.out.same (by rfl) (Hb.out.keep hJ.out.held.keep)⟩
  simp only [Act.put, List.setIfInBounds_toArray, List.set_cons_zero, List.set_cons_succ, Nat.reduceAdd]
  refine Steps.held ?_ ?_
  · intro L v w' hJ
    have X0 := Lib.hid (show F64 w' (v 2) (m) (e) from hJ.out.fact 2 (by kernel_rfl))
    go_wp2_with fail
    refine (HDE.out _ _ _ _ X0.out).mono ?_
    rintro e w1 ⟨u, rfl, hu, hb⟩
    go_wp2_with fail
    exact ⟨rfl, rfl, hJ.out.call (by rfl) hb (hu)⟩
  simp only [Act.put, List.setIfInBounds_toArray, List.set_cons_zero, List.set_cons_succ, Nat.reduceAdd]
  refine Steps.held ?_ ?_
  · intro L v w' hJ
    have X0 := Lib.hid (show N64 w' (v 1) (n) from hJ.out.fact 1 (by kernel_rfl))
    have X1 := Lib.hid (show N64 w' (v 3) (e) from hJ.out.fact 3 (by kernel_rfl))
    go_wp2_with fail
    refine (HM1.out _ _ _ X0.out X1.out).mono ?_
    rintro e w1 ⟨u, rfl, hu, hb⟩
    go_wp2_with fail
    exact ⟨rfl, rfl, hJ.out.call (by rfl) hb (hu)⟩
  simp only [Act.put, List.setIfInBounds_toArray, List.set_cons_zero, List.set_cons_succ, Nat.reduceAdd]
  refine Steps.held ?_ ?_
  · intro L v w' hJ
    have kb := hJ.out.blk E1.out (by simp [oldsOf, BS, Bx.nat, Bx.rat, Bx.ref])
    have k0 := kb.cell 0
    have k1 := kb.cell 1
    clear kb
    go_wp2_with fail
    exact ⟨rfl, rfl, hJ.out.same (by rfl) (Hb.out.keep hJ.out.held.keep)⟩
  simp only [Act.put, List.setIfInBounds_toArray, List.set_cons_zero, List.set_cons_succ, Nat.reduceAdd]
  refine Steps.held ?_ ?_
  · intro L v w' hJ
    have X0 := Lib.hid (show F64 w' (v 5) (m) (e) from hJ.out.fact 5 (by kernel_rfl))
    go_wp2_with fail
    refine (HNU.out _ _ _ _ X0.out).mono ?_
    rintro e w1 ⟨u, rfl, hu, hb⟩
    go_wp2_with fail
    exact ⟨rfl, rfl, hJ.out.call (by rfl) hb (hu)⟩
  simp only [Act.put, List.setIfInBounds_toArray, List.set_cons_zero, List.set_cons_succ, Nat.reduceAdd]
  refine Steps.held ?_ ?_
  · intro L v w' hJ
    have kb := hJ.out.blk E0.out (by simp [oldsOf, BS, Bx.nat, Bx.rat, Bx.ref])
    have k0 := kb.cell 0
    have k1 := kb.cell 1
    clear kb
    go_wp2_with fail
    exact ⟨rfl, rfl, hJ.out.same (by rfl) (Ha.out.keep hJ.out.held.keep)⟩
  simp only [Act.put, List.setIfInBounds_toArray, List.set_cons_zero, List.set_cons_succ, Nat.reduceAdd]
  refine Steps.held ?_ ?_
  · intro L v w' hJ
    have X0 := Lib.hid (show F64 w' (v 7) (n) (d) from hJ.out.fact 7 (by kernel_rfl))
    go_wp2_with fail
    refine (HDE.out _ _ _ _ X0.out).mono ?_
    rintro e w1 ⟨u, rfl, hu, hb⟩
    go_wp2_with fail
    exact ⟨rfl, rfl, hJ.out.call (by rfl) hb (hu)⟩
  simp only [Act.put, List.setIfInBounds_toArray, List.set_cons_zero, List.set_cons_succ, Nat.reduceAdd]
  refine Steps.held ?_ ?_
  · intro L v w' hJ
    have X0 := Lib.hid (show N64 w' (v 6) (m) from hJ.out.fact 6 (by kernel_rfl))
    have X1 := Lib.hid (show N64 w' (v 8) (d) from hJ.out.fact 8 (by kernel_rfl))
    go_wp2_with fail
    refine (HM2.out _ _ _ X0.out X1.out).mono ?_
    rintro e w1 ⟨u, rfl, hu, hb⟩
    go_wp2_with fail
    exact ⟨rfl, rfl, hJ.out.call (by rfl) hb (hu)⟩
  simp only [Act.put, List.setIfInBounds_toArray, List.set_cons_zero, List.set_cons_succ, Nat.reduceAdd]
  refine Steps.held ?_ ?_
  · intro L v w' hJ
    have X0 := Lib.hid (show N64 w' (v 4) (n * e) from hJ.out.fact 4 (by kernel_rfl))
    have X1 := Lib.hid (show N64 w' (v 9) (m * d) from hJ.out.fact 9 (by kernel_rfl))
    go_wp2_with fail
    refine (HSB.out _ _ _ X0.out X1.out).mono ?_
    rintro e w1 ⟨u, rfl, hu, hb⟩
    go_wp2_with fail
    exact ⟨rfl, rfl, hJ.out.call (by rfl) hb (⟨_, _, rfl, hu, rfl⟩)⟩
  simp only [Act.put, List.setIfInBounds_toArray, List.set_cons_zero, List.set_cons_succ, Nat.reduceAdd]
  refine Steps.held ?_ ?_
  · intro L v w' hJ
    go_wp2_with fail
    exact ⟨rfl, rfl, hJ.out.same (by rfl) (hJ.out.fact 10 (by kernel_rfl))⟩
  simp only [Act.put, List.setIfInBounds_toArray, List.set_cons_zero, List.set_cons_succ, Nat.reduceAdd]
  refine Steps.held ?_ ?_
  · intro L v w' hJ
    obtain ⟨x0, x1, hv, h0, h1⟩ := hJ.out.fact 11 (by kernel_rfl)
    simp only [hv]
    clear hv
    go_wp2_with fail
    exact ⟨rfl, rfl, hJ.out.same (by rfl) (h0)⟩
  simp only [Act.put, List.setIfInBounds_toArray, List.set_cons_zero, List.set_cons_succ, Nat.reduceAdd]
  refine Steps.held ?_ ?_
  · intro L v w' hJ
    obtain ⟨x0, x1, hv, h0, h1⟩ := hJ.out.fact 11 (by kernel_rfl)
    simp only [hv]
    clear hv
    go_wp2_with fail
    exact ⟨rfl, rfl, hJ.out.same (by rfl) (h1)⟩
  simp only [Act.put, List.setIfInBounds_toArray, List.set_cons_zero, List.set_cons_succ, Nat.reduceAdd]
  refine Steps.held ?_ ?_
  · intro L v w' hJ
    go_wp2_with fail
    exact ⟨rfl, rfl, hJ.out.made 0 _ rfl rfl (by rfl) trivial⟩
  simp only [Act.put, List.setIfInBounds_toArray, List.set_cons_zero, List.set_cons_succ, Nat.reduceAdd]
  refine Steps.held ?_ ?_
  · intro L v w' hJ
    obtain ⟨g, hg, hge, hown, hst⟩ := hJ.out.newbox 0 _ rfl 14 rfl (by kernel_rfl)
    have hN : N64 w' (v 12) (z) := hJ.out.fact 12 (by kernel_rfl)
    obtain ⟨P, c, hv, h1, h2, h3⟩ := hN
    have HN := Lib.hid (show N64 w' (.agg #[.slice P (wl 64 (z)) c]) (z) from ⟨P, c, rfl, h1, h2, h3⟩)
    have kb := hJ.out.box 0 _ rfl rfl g hown
    have k0 : w'.cell? ⟨g, 0, none⟩ = some (.slice none 0 0) := kb.cell 0
    have f0 := kb.frozen 0
    have HO := Lib.hid hown
    have HS := Lib.hid hst
    clear kb h1 h2 h3 hown hst
    simp only [hg, hv]
    clear hg hv
    go_wp2_with fail
    exact ⟨rfl, rfl, hJ.out.fill1 0 _ rfl rfl (by rfl) g HO.out HS.out _ rfl rfl (fun W k => ⟨P, c, rfl, HN.out.keep k⟩) (fun _ => trivial)⟩
  simp only [Act.put, List.setIfInBounds_toArray, List.set_cons_zero, List.set_cons_succ, Nat.reduceAdd]
  refine Steps.held ?_ ?_
  · intro L v w' hJ
    have hv13 : v 13 = .int .i64 0 := hJ.out.fact 13 (by kernel_rfl)
    simp only [hv13]
    clear hv13
    go_wp2_with fail
    exact ⟨rfl, rfl, hJ.out.same (by rfl) (rfl)⟩
  simp only [Act.put, List.setIfInBounds_toArray, List.set_cons_zero, List.set_cons_succ, Nat.reduceAdd]
  refine Steps.nil ?_
  intro v w' hJ
  have hE2 := E2.out.lt
  obtain ⟨g3, cs14, hv14, hge14, hb14, A14, c14, rfl, hn14⟩ := hJ.end_new 0 _ rfl 14 rfl (by decide) (Nat.le_of_ble_eq_true rfl)
  simp only [hv14]
  have E3 := Lib.hid (show Blk _ _ 26 _ from hb14)
  have NE3 := Lib.hid hn14
  clear hv14 hb14 hn14
  have h16 : v 16 = .int .i64 0 := hJ.end_fact 16 (by decide)
  simp only [h16]
  clear h16
  have hbr := hJ.but.below
  replace Ha := Lib.hid (Ha.out.below hbr)
  replace Hb := Lib.hid (Hb.out.below hbr)
  replace E0 := Lib.hid (blk_below E0.out hbr)
  replace E1 := Lib.hid (blk_below E1.out hbr)
  replace E2 := Lib.hid (blk_below E2.out hbr)
  replace HB0 := Lib.hid (cbt HB0.out hbr)
  clear hJ hbr
  go_wp2_with fail
  let FS : List Kept1 := [.n (z), .f (n) (d), .n (d), .f (m) (e), .n (e), .n (d * e), .f (rn (z) (d * e)) (rd (z) (d * e)), .any]
  let BS : List Bx := [Bx.rat (.inr (w.heap.size + 1 + 1)) 7 #[(.slice none 0 0), (.slice none 0 0)] (rn (z) (d * e)) (rd (z) (d * e))]
  refine region_mono (Held w' (fun j => FS.getD j .any) BS) (by kernel_rfl) (by kernel_rfl) (by kernel_rfl) (Held.start _ _ _ (by simp [BS, Bx.nat, Bx.rat, Bx.ref] <;> exact E2.out) (by simp [BS, Bx.nat, Bx.rat, Bx.ref])) ?_
  refine Steps.held ?_ ?_
  · intro L v w' hJ
    have kb := hJ.out.blk E3.out (by simp [oldsOf, BS, Bx.nat, Bx.rat, Bx.ref]; omega)
    have k0 := kb.cell 0
    clear kb
    go_wp2_with fail
    exact ⟨rfl, rfl, hJ.out.same (by rfl) (NE3.out.keep hJ.out.held.keep)⟩
  simp only [Act.put, List.setIfInBounds_toArray, List.set_cons_zero, List.set_cons_succ, Nat.reduceAdd]
  refine Steps.held ?_ ?_
  · intro L v w' hJ
    have kb := hJ.out.blk E0.out (by simp [oldsOf, BS, Bx.nat, Bx.rat, Bx.ref] <;> omega)
    have k0 := kb.cell 0
    have k1 := kb.cell 1
    clear kb
    go_wp2_with fail
    exact ⟨rfl, rfl, hJ.out.same (by rfl) (Ha.out.keep hJ.out.held.keep)⟩
  simp only [Act.put, List.setIfInBounds_toArray, List.set_cons_zero, List.set_cons_succ, Nat.reduceAdd]
  refine Steps.held ?_ ?_
  · intro L v w' hJ
    have X0 := Lib.hid (show F64 w' (v 1) (n) (d) from hJ.out.fact 1 (by kernel_rfl))
    go_wp2_with fail
    refine (HDE.out _ _ _ _ X0.out).mono ?_
    rintro e w1 ⟨u, rfl, hu, hb⟩
    go_wp2_with fail
    exact ⟨rfl, rfl, hJ.out.call (by rfl) hb (hu)⟩
  simp only [Act.put, List.setIfInBounds_toArray, List.set_cons_zero, List.set_cons_succ, Nat.reduceAdd]
  refine Steps.held ?_ ?_
  · intro L v w' hJ
    have kb := hJ.out.blk E1.out (by simp [oldsOf, BS, Bx.nat, Bx.rat, Bx.ref] <;> omega)
    have k0 := kb.cell 0
    have k1 := kb.cell 1
    clear kb
    go_wp2_with fail
    exact ⟨rfl, rfl, hJ.out.same (by rfl) (Hb.out.keep hJ.out.held.keep)⟩
  simp only [Act.put, List.setIfInBounds_toArray, List.set_cons_zero, List.set_cons_succ, Nat.reduceAdd]
  refine Steps.held ?_ ?_
  · intro L v w' hJ
    have X0 := Lib.hid (show F64 w' (v 3) (m) (e) from hJ.out.fact 3 (by kernel_rfl))
    go_wp2_with fail
    refine (HDE.out _ _ _ _ X0.out).mono ?_
    rintro e w1 ⟨u, rfl, hu, hb⟩
    go_wp2_with fail
    exact ⟨rfl, rfl, hJ.out.call (by rfl) hb (hu)⟩
  simp only [Act.put, List.setIfInBounds_toArray, List.set_cons_zero, List.set_cons_succ, Nat.reduceAdd]
  refine Steps.held ?_ ?_
  · intro L v w' hJ
    have X0 := Lib.hid (show N64 w' (v 2) (d) from hJ.out.fact 2 (by kernel_rfl))
    have X1 := Lib.hid (show N64 w' (v 4) (e) from hJ.out.fact 4 (by kernel_rfl))
    go_wp2_with fail
    refine (HM3.out _ _ _ X0.out X1.out).mono ?_
    rintro e w1 ⟨u, rfl, hu, hb⟩
    go_wp2_with fail
    exact ⟨rfl, rfl, hJ.out.call (by rfl) hb (hu)⟩
  simp only [Act.put, List.setIfInBounds_toArray, List.set_cons_zero, List.set_cons_succ, Nat.reduceAdd]
  refine Steps.held ?_ ?_
  · intro L v w' hJ
    have X0 := Lib.hid (show N64 w' (v 0) (z) from hJ.out.fact 0 (by kernel_rfl))
    have X1 := Lib.hid (show N64 w' (v 5) (d * e) from hJ.out.fact 5 (by kernel_rfl))
    go_wp2_with fail
    refine (HMA.out _ _ _ X0.out X1.out).mono ?_
    rintro e w1 ⟨u, rfl, hu, hb⟩
    go_wp2_with fail
    exact ⟨rfl, rfl, hJ.out.call (by rfl) hb (hu)⟩
  simp only [Act.put, List.setIfInBounds_toArray, List.set_cons_zero, List.set_cons_succ, Nat.reduceAdd]
  refine Steps.held ?_ ?_
  · intro L v w' hJ
    obtain ⟨hown, hst⟩ := hJ.out.oldbox 0 _ rfl (w.heap.size + 1 + 1) rfl
    have hN : F64 w' (v 6) (rn (z) (d * e)) (rd (z) (d * e)) := hJ.out.fact 6 (by kernel_rfl)
    obtain ⟨A1, p1, c1, B1, q1, e1, x1, hv, h1, h2, h3⟩ := hN
    have HN := Lib.hid (show F64 w' (.agg #[.slice A1 p1 c1, .slice B1 q1 e1]) (rn (z) (d * e)) (rd (z) (d * e)) from ⟨A1, p1, c1, B1, q1, e1, x1, rfl, h1, h2, h3⟩)
    have kb := hJ.out.box 0 _ rfl rfl (w.heap.size + 1 + 1) hown
    have k0 : w'.cell? ⟨(w.heap.size + 1 + 1), 0, none⟩ = some ((.slice none 0 0)) := kb.cell 0
    have k1 : w'.cell? ⟨(w.heap.size + 1 + 1), 1, none⟩ = some ((.slice none 0 0)) := kb.cell 1
    have f0 := kb.frozen 0
    have f1 := kb.frozen 1
    have HO := Lib.hid hown
    have HS := Lib.hid hst
    clear kb h1 h2 h3 hown hst
    simp only [hv]
    clear hv
    go_wp2_with fail
    exact ⟨rfl, rfl, hJ.out.fill2 0 _ rfl rfl (by rfl) (w.heap.size + 1 + 1) HO.out HS.out _ _ rfl rfl rfl (fun W k => HN.out.keep k) (fun _ => trivial)⟩
  simp only [Act.put, List.setIfInBounds_toArray, List.set_cons_zero, List.set_cons_succ, Nat.reduceAdd]
  refine Steps.nil ?_
  intro v w' hJ
  obtain ⟨cs, hblk, hf⟩ := hJ.end_old 0 _ rfl (w.heap.size + 1 + 1) rfl (Nat.le_of_ble_eq_true rfl)
  have hf' : F64 w' (.agg cs) (rn (z) (d * e)) (rd (z) (d * e)) := hf
  obtain ⟨A1, p1, c1, B1, q1, e1, x1, hcs, h1, h2, h3⟩ := hf'
  have hcs' := Value.agg.inj hcs
  subst hcs'
  have k0 := hblk.cell 0
  have k1 := hblk.cell 1
  have hbw : Below w.heap.size w w' := hJ.but.to_below HB0.out HB0.out.size (by intro g hg; simp [oldsOf, BS, Bx.nat, Bx.rat, Bx.ref] at hg; subst hg; omega)
  have HX := Lib.hid (show MkF w (rn (z) (d * e)) (rd (z) (d * e)) (.returned (.agg #[.slice A1 p1 c1, .slice B1 q1 e1])) w' from ⟨_, rfl, ⟨A1, p1, c1, B1, q1, e1, x1, rfl, h1, h2, h3⟩, hbw⟩)
  clear hJ h1 h2 hbw hblk hcs hf
  go_wp2_with fail
  exact bodyPost_ret (v := .agg #[.slice A1 p1 c1, .slice B1 q1 e1]) (by simp [results, Try.results62, go_sem, k0, k1]) rfl HX.out
end Go.Proofs.Yteikhnmmkanndaa
namespace Go.Proofs.Yteikhnmmkanndaa
open Go.RowKit Go.Proofs.YteikhnmmkanndaaW.PrintWords
set_option linter.unusedSimpArgs false
set_option linter.unusedVariables false
theorem wl_add_le {k x y a : Nat} (hk : 0 < k) (hx : wl k x ≤ a) (hy : wl k y ≤ a) : wl k (x + y) ≤ a + 1 := by
  rw [wl_le hk] at hx hy ⊢
  rw [Nat.mul_add, Nat.mul_one, Nat.pow_add]
  have : 2 ^ 1 ≤ 2 ^ k := Nat.pow_le_pow_right (by decide) hk
  have h2 : 2 ^ (k * a) * 2 ≤ 2 ^ (k * a) * 2 ^ k := Nat.mul_le_mul_left _ this
  omega
theorem cmpN_ge {x y : Nat} (h : y ≤ x) : 0 ≤ cmpN x y := by
  rcases Nat.eq_or_lt_of_le h with rfl | h
  · rw [cmpN_self]; exact Int.le_refl _
  · rw [cmpN_gt h]; decide
end Go.Proofs.Yteikhnmmkanndaa
namespace Go.Proofs.Yteikhnmmkanndaa
open Go.RowKit Go.Proofs.YteikhnmmkanndaaW.PrintWords
set_option linter.unusedSimpArgs false
set_option linter.unusedVariables false
theorem RF.fst {w : World} {A B : Option Addr} {p c q e n d : Nat} (h : RF w (.agg #[.slice A p c, .slice B q e]) n d) : R256 w (.slice A p c) n := by
  obtain ⟨_, _, _, _, _, _, hv, h1, _⟩ := h
  cases hv
  exact h1
theorem RF.snd {w : World} {A B : Option Addr} {p c q e n d : Nat} (h : RF w (.agg #[.slice A p c, .slice B q e]) n d) : R256 w (.slice B q e) d := by
  obtain ⟨_, _, _, _, _, _, hv, _, h2⟩ := h
  cases hv
  exact h2
theorem RF.of {w : World} {v u : Value} {n d : Nat} (h1 : R256 w v n) (h2 : R256 w u d) : ∃ A p c B q e, v = .slice A p c ∧ u = .slice B q e ∧ RF w (.agg #[.slice A p c, .slice B q e]) n d := by
  have h1' := h1
  have h2' := h2
  obtain ⟨A, c, rfl, _, _⟩ := h1
  obtain ⟨B, e, rfl, _, _⟩ := h2
  exact ⟨_, _, _, _, _, _, rfl, rfl, _, _, _, _, _, _, rfl, h1', h2'⟩
theorem R256.one {w : World} {g : Nat} {t : TypeId} (h : Blk w g t #[.int .i64 1]) : R256 w (.slice (some ⟨g, 0, none⟩) 1 1) 1 := by
  unfold R256
  rw [cs1]
  refine ⟨some ⟨g, 0, none⟩, 1, rfl, Nat.le_refl _, ?_⟩
  intro W' hW
  refine Kd.C_of_reads (d := 0) ⟨rfl, by decide, fun h0 => ⟨⟨g, 0, none⟩, rfl, fun j hj => ?_⟩⟩
  have hj0 : j = 0 := by
    have : ([1] : List Int).length = 1 := rfl
    omega
  subst hj0
  have hb : Blk W' g t #[.int .i64 1] := (hW g trivial h.lt).trans h
  exact hb.cell 0
end Go.Proofs.Yteikhnmmkanndaa
namespace Go.Proofs.Yteikhnmmkanndaa
open Go.RowKit Go.Proofs.YteikhnmmkanndaaW.PrintWords
set_option linter.unusedSimpArgs false
set_option linter.unusedVariables false
def addR (a b : Nat × Nat) : Nat × Nat := (rn (a.1 * b.2 + b.1 * a.2) (a.2 * b.2), rd (a.1 * b.2 + b.1 * a.2) (a.2 * b.2))
def Rats (w : World) (A : Option Addr) (K : Nat) (f : Nat → Nat × Nat) : Prop :=
  ∀ i, i < K → ∃ b o P p c Q q e, A = some ⟨b, o, none⟩ ∧ b < w.heap.size ∧ w.cell? ⟨b, o + i * 2, none⟩ = some (.slice P p c) ∧ w.cell? ⟨b, o + i * 2 + 1, none⟩ = some (.slice Q q e) ∧ F64 w (.agg #[.slice P p c, .slice Q q e]) (f i).1 (f i).2
theorem Rats.below {w w' : World} {A : Option Addr} {K : Nat} {f : Nat → Nat × Nat} (h : Rats w A K f) (hb : Below w.heap.size w w') : Rats w' A K f := by
  intro i hi
  obtain ⟨b, o, P, p, c, Q, q, e, hA, hlt, h1, h2, h3⟩ := h i hi
  exact ⟨b, o, P, p, c, Q, q, e, hA, Nat.lt_of_lt_of_le hlt hb.size, (hb.cell (p := ⟨b, o + i * 2, none⟩) hlt).trans h1, (hb.cell (p := ⟨b, o + i * 2 + 1, none⟩) hlt).trans h2, h3.below hb⟩
def RowF (w : World) (v : Value) (K : Nat) (f : Nat → Nat × Nat) : Prop :=
  2 ≤ K ∧ ∃ g cs, v = .slice (some ⟨g, 0, none⟩) K K ∧ Blk w g 47 cs ∧ 2 * K ≤ cs.size ∧ ∀ i, i < K → ∃ P p c Q q e, cs[i * 2]? = some (.slice P p c) ∧ cs[i * 2 + 1]? = some (.slice Q q e) ∧ F64 w (.agg #[.slice P p c, .slice Q q e]) (f i).1 (f i).2
theorem RowF.keep {w w' : World} {v : Value} {K : Nat} {f : Nat → Nat × Nat} (h : RowF w v K f) (k : Keep w w') : RowF w' v K f := by
  obtain ⟨h2, g, cs, hv, hb, hs, hf⟩ := h
  refine ⟨h2, g, cs, hv, k.rats g cs hb (by omega), hs, fun i hi => ?_⟩
  obtain ⟨P, p, c, Q, q, e, h1, h2, h3⟩ := hf i hi
  exact ⟨P, p, c, Q, q, e, h1, h2, h3.keep k⟩
def Kept1.rats (K : Nat) (f : Nat → Nat × Nat) : Kept1 := ⟨fun v w => RowF w v K f, fun h k => h.keep k⟩
theorem RowF.rats {w : World} {v : Value} {K : Nat} {f : Nat → Nat × Nat} (h : RowF w v K f) : ∃ g, v = .slice (some ⟨g, 0, none⟩) K K ∧ Rats w (some ⟨g, 0, none⟩) K f := by
  obtain ⟨h2, g, cs, hv, hb, hs, hf⟩ := h
  refine ⟨g, hv, fun i hi => ?_⟩
  obtain ⟨P, p, c, Q, q, e, h1, h2, h3⟩ := hf i hi
  refine ⟨g, 0, P, p, c, Q, q, e, rfl, hb.lt, ?_, ?_, h3⟩
  · rw [hb.cell, Nat.zero_add]; exact h1
  · rw [hb.cell, Nat.zero_add]; exact h2
def ofL (l : List (Nat × Nat)) : Nat → Nat × Nat := fun i => l.getD i (0, 1)
theorem RowF.two {w : World} {g : Nat} {P Q P' Q' : Option Addr} {p c q e p' c' q' e' n d m f : Nat} (h : Blk w g 47 #[.slice P p c, .slice Q q e, .slice P' p' c', .slice Q' q' e'])
    (h1 : F64 w (.agg #[.slice P p c, .slice Q q e]) n d) (h2 : F64 w (.agg #[.slice P' p' c', .slice Q' q' e']) m f) : RowF w (.slice (some ⟨g, 0, none⟩) 2 2) 2 (ofL [(n, d), (m, f)]) := by
  refine ⟨Nat.le_refl _, g, _, rfl, h, Nat.le_of_ble_eq_true rfl, fun i hi => ?_⟩
  match i, hi with
  | 0, _ => exact ⟨_, _, _, _, _, _, rfl, rfl, h1⟩
  | 1, _ => exact ⟨_, _, _, _, _, _, rfl, rfl, h2⟩
theorem RowF.three {w : World} {g : Nat} {P Q P' Q' P2 Q2 : Option Addr} {p c q e p' c' q' e' p2 c2 q2 e2 n d m f r s : Nat} (h : Blk w g 47 #[.slice P p c, .slice Q q e, .slice P' p' c', .slice Q' q' e', .slice P2 p2 c2, .slice Q2 q2 e2])
    (h1 : F64 w (.agg #[.slice P p c, .slice Q q e]) n d) (h2 : F64 w (.agg #[.slice P' p' c', .slice Q' q' e']) m f) (h3 : F64 w (.agg #[.slice P2 p2 c2, .slice Q2 q2 e2]) r s) : RowF w (.slice (some ⟨g, 0, none⟩) 3 3) 3 (ofL [(n, d), (m, f), (r, s)]) := by
  refine ⟨by decide, g, _, rfl, h, Nat.le_of_ble_eq_true rfl, fun i hi => ?_⟩
  match i, hi with
  | 0, _ => exact ⟨_, _, _, _, _, _, rfl, rfl, h1⟩
  | 1, _ => exact ⟨_, _, _, _, _, _, rfl, rfl, h2⟩
  | 2, _ => exact ⟨_, _, _, _, _, _, rfl, rfl, h3⟩
end Go.Proofs.Yteikhnmmkanndaa
namespace Go.Proofs.Yteikhnmmkanndaa
open Go.RowKit Go.Proofs.YteikhnmmkanndaaW.PrintWords
set_option linter.unusedSimpArgs false
set_option linter.unusedVariables false
def Frc (w : World) (v : Value) (l m : List Int) : Prop := ∃ A n c B k d, v = .agg #[.slice A n c, .slice B k d] ∧ ByS w (.slice A n c) l ∧ ByS w (.slice B k d) m ∧ l.length = n ∧ m.length = k
theorem Frc.keep {w w' : World} {v : Value} {l m : List Int} (h : Frc w v l m) (k : Keep w w') : Frc w' v l m := by
  obtain ⟨A, n, c, B, p, d, hv, h1, h2, h3⟩ := h
  exact ⟨A, n, c, B, p, d, hv, h1.keep k, h2.keep k, h3⟩
theorem Frc.below {w w' : World} {v : Value} {l m : List Int} (h : Frc w v l m) (hb : Below w.heap.size w w') : Frc w' v l m := h.keep (Keep.of_below hb)
def Kept1.frc (l m : List Int) : Kept1 := ⟨fun v w => Frc w v l m, fun h k => h.keep k⟩
end Go.Proofs.Yteikhnmmkanndaa
namespace Go.Proofs.Yteikhnmmkanndaa
open Go.RowKit Go.Proofs.YteikhnmmkanndaaW.PrintWords
set_option linter.unusedSimpArgs false
set_option linter.unusedVariables false
theorem of_lit (x : Nat) (hx : x < 2 ^ 64) (k : Int) (hk : k = (x : Int)) (W : World) : Calls Try.prog 50 #[.int .u64 k] W (fun e w' => ∃ v, e = .returned v ∧ N64 w' v x ∧ Below W.heap.size W w') := by
  subst hk
  exact of_any x hx W
theorem rof_lit (va vb : Value) (n d a b : Nat) (W : World) (ha : N64 W va n) (hb : N64 W vb d) (hn : wl 64 n ≤ 100000000) (hd : wl 64 d ≤ 100000000) (h0 : 0 < d) (e1 : rn n d = a) (e2 : rd n d = b) : Calls Try.prog 61 #[va, vb] W fun x w' => ∃ v, x = .returned (.tuple #[v, .int .i64 0]) ∧ F64 w' v a b ∧ Below W.heap.size W w' := by
  subst e1 e2
  exact rofF_any va vb n d W ha hb hn hd h0
theorem w64_lit {x : Nat} (h : x < 2 ^ 64) : wl 64 x ≤ 1 := (wl_le (by decide) x 1).2 h
end Go.Proofs.Yteikhnmmkanndaa
namespace Go.Proofs.Yteikhnmmkanndaa
open Go.RowKit Go.Proofs.YteikhnmmkanndaaW.PrintWords
theorem rn_mul (n d : Nat) : rn n d * d = n * rd n d := by
  obtain ⟨x, hx⟩ := Nat.gcd_dvd_left n d
  obtain ⟨y, hy⟩ := Nat.gcd_dvd_right n d
  unfold rn rd
  rcases Nat.eq_zero_or_pos (Nat.gcd n d) with h0 | h0
  · rw [h0, Nat.div_zero, Nat.div_zero, Nat.zero_mul, Nat.mul_zero]
  · have h1 : n / Nat.gcd n d = x := Nat.div_eq_of_eq_mul_right h0 hx
    have h2 : d / Nat.gcd n d = y := Nat.div_eq_of_eq_mul_right h0 hy
    rw [h1, h2]
    calc x * d = x * (Nat.gcd n d * y) := by rw [← hy]
      _ = Nat.gcd n d * x * y := by rw [Nat.mul_left_comm, Nat.mul_assoc]
      _ = n * y := by rw [← hx]
def Red (a : Nat × Nat) : Prop := Nat.gcd a.1 a.2 = 1 ∧ 0 < a.2
theorem Red.rn {a : Nat × Nat} (h : Red a) : rn a.1 a.2 = a.1 := by unfold Yteikhnmmkanndaa.rn; rw [h.1, Nat.div_one]
theorem Red.rd {a : Nat × Nat} (h : Red a) : rd a.1 a.2 = a.2 := by unfold Yteikhnmmkanndaa.rd; rw [h.1, Nat.div_one]
theorem red_of {n d : Nat} (h : 0 < d) : Red (Yteikhnmmkanndaa.rn n d, Yteikhnmmkanndaa.rd n d) := ⟨Nat.coprime_div_gcd_div_gcd (Nat.gcd_pos_of_pos_right n h), rd_pos h⟩
theorem red_zero : Red (0, 1) := ⟨rfl, Nat.one_pos⟩
def lessR (a b : Nat × Nat) : Nat × Nat := if a.1 * b.2 < b.1 * a.2 then (0, 1) else (rn (a.1 * b.2 - b.1 * a.2) (a.2 * b.2), rd (a.1 * b.2 - b.1 * a.2) (a.2 * b.2))
def mulR (a b : Nat × Nat) : Nat × Nat := (rn (a.1 * b.1) (a.2 * b.2), rd (a.1 * b.1) (a.2 * b.2))
def divR (a b : Nat × Nat) : Nat × Nat := (rn (a.1 * b.2) (a.2 * b.1), rd (a.1 * b.2) (a.2 * b.1))
theorem lessR_red {a b : Nat × Nat} (ha : Red a) (hb : Red b) : Red (lessR a b) := by
  unfold lessR
  split
  · exact red_zero
  · exact red_of (Nat.mul_pos ha.2 hb.2)
theorem mulR_red {a b : Nat × Nat} (ha : Red a) (hb : Red b) : Red (mulR a b) := red_of (Nat.mul_pos ha.2 hb.2)
def Sz (B : Nat) (a : Nat × Nat) : Prop := wl 8 a.1 ≤ B ∧ wl 8 a.2 ≤ B
theorem wl64_le (x : Nat) : wl 64 x ≤ wl 8 x := by
  rw [wl_le (by decide)]
  exact Nat.lt_of_lt_of_le (wl_lt (k := 8) (by decide) x) (Nat.pow_le_pow_right (by decide) (by omega))
theorem Sz.mono {B C : Nat} {a : Nat × Nat} (h : Sz B a) (hc : B ≤ C) : Sz C a := ⟨Nat.le_trans h.1 hc, Nat.le_trans h.2 hc⟩
theorem Sz.add {B C : Nat} {a b : Nat × Nat} (ha : Sz B a) (hb : Sz C b) : Sz (B + C + 1) (addR a b) := by
  have h1 := wl_mul_le (k := 8) (by decide) ha.1 hb.2
  have h2 := wl_mul_le (k := 8) (by decide) hb.1 ha.2
  have h3 := wl_mul_le (k := 8) (by decide) ha.2 hb.2
  have h4 := wl_add_le (k := 8) (x := a.1 * b.2) (y := b.1 * a.2) (a := B + C) (by decide) h1 (by omega)
  exact ⟨wl_rn (by decide) h4, wl_rd (by decide) (by omega)⟩
theorem Sz.less {B C : Nat} {a b : Nat × Nat} (ha : Sz B a) (hb : Sz C b) : Sz (B + C + 1) (lessR a b) := by
  have h1 := wl_mul_le (k := 8) (by decide) ha.1 hb.2
  have h3 := wl_mul_le (k := 8) (by decide) ha.2 hb.2
  have h4 := wl_mono (k := 8) (by decide) (Nat.sub_le (a.1 * b.2) (b.1 * a.2))
  unfold lessR
  split
  · refine ⟨?_, ?_⟩
    · show wl 8 0 ≤ _
      rw [wl_zero (by decide)]; omega
    · show wl 8 1 ≤ _
      rw [show wl 8 1 = 1 by decide +kernel]; omega
  · exact ⟨wl_rn (by decide) (by omega), wl_rd (by decide) (by omega)⟩
theorem Sz.mul {B C : Nat} {a b : Nat × Nat} (ha : Sz B a) (hb : Sz C b) : Sz (B + C) (mulR a b) :=
  ⟨wl_rn (by decide) (wl_mul_le (k := 8) (by decide) ha.1 hb.1), wl_rd (by decide) (wl_mul_le (k := 8) (by decide) ha.2 hb.2)⟩
theorem Sz.div {B C : Nat} {a b : Nat × Nat} (ha : Sz B a) (hb : Sz C b) : Sz (B + C) (divR a b) :=
  ⟨wl_rn (by decide) (wl_mul_le (k := 8) (by decide) ha.1 hb.2), wl_rd (by decide) (wl_mul_le (k := 8) (by decide) ha.2 hb.1)⟩
theorem Sz.w1 {B : Nat} {a : Nat × Nat} (h : Sz B a) : wl 64 a.1 ≤ B := Nat.le_trans (wl64_le _) h.1
theorem Sz.w2 {B : Nat} {a : Nat × Nat} (h : Sz B a) : wl 64 a.2 ≤ B := Nat.le_trans (wl64_le _) h.2
theorem Sz.zero : Sz 1 (0, 1) := ⟨by decide +kernel, by decide +kernel⟩
section
variable {a b c : Nat × Nat} {va vb v : Value} {W : World} {B : Nat}
theorem c_less (hB : B ≤ 100000) (sa : Sz B a) (sb : Sz B b) (h1 : F64 W va a.1 a.2) (h2 : F64 W vb b.1 b.2) : Calls Try.prog 62 #[va, vb] W (MkF W (lessR a b).1 (lessR a b).2) := by
  have q1 := sa.w1; have q2 := sa.w2; have q3 := sb.w1; have q4 := sb.w2
  unfold lessR
  split
  · rename_i h
    exact rlessF_no va vb a.1 a.2 b.1 b.2 W h1 h2 (by omega) (by omega) (by omega) (by omega) h
  · rename_i h
    exact rlessF_any va vb a.1 a.2 b.1 b.2 W h1 h2 (by omega) (by omega) (by omega) (by omega) (by omega)
theorem c_mul (hB : B ≤ 100000) (sa : Sz B a) (sb : Sz B b) (h1 : F64 W va a.1 a.2) (h2 : F64 W vb b.1 b.2) : Calls Try.prog 43 #[va, vb] W (MkF W (mulR a b).1 (mulR a b).2) := by
  have q1 := sa.w1; have q2 := sa.w2; have q3 := sb.w1; have q4 := sb.w2
  exact rmulF_any va vb a.1 a.2 b.1 b.2 W h1 h2 (by omega) (by omega) (by omega) (by omega)
end
end Go.Proofs.Yteikhnmmkanndaa
namespace Go.Proofs.Yteikhnmmkanndaa
def LogW (n d : Nat) (k : Int) : Prop := d * 2 ^ k.toNat ≤ n * 2 ^ (-k).toNat ∧ n * 2 ^ (-k).toNat < 2 * (d * 2 ^ k.toNat)
theorem pow_cross {k k' : Int} (h : k < k') : 2 ^ k.toNat * 2 * 2 ^ (-k').toNat ≤ 2 ^ k'.toNat * 2 ^ (-k).toNat := by
  rw [← Nat.pow_succ, ← Nat.pow_add, ← Nat.pow_add]
  exact Nat.pow_le_pow_right (by decide) (by omega)
theorem LogW.le {n d : Nat} {k k' : Int} (h : LogW n d k) (h' : LogW n d k') : k' ≤ k := by
  rcases (show k < k' ∨ k' ≤ k by omega) with hlt | hge
  · exfalso
    have hc := pow_cross hlt
    have h1 := Nat.mul_lt_mul_of_pos_right h.2 (Nat.two_pow_pos (-k').toNat)
    have h2 := Nat.mul_le_mul_right (2 ^ (-k).toNat) h'.1
    have h3 := Nat.mul_le_mul_left d hc
    have e1 : 2 * (d * 2 ^ k.toNat) * 2 ^ (-k').toNat = d * (2 ^ k.toNat * 2 * 2 ^ (-k').toNat) := by
      rw [Nat.mul_left_comm 2 d, Nat.mul_comm 2 (2 ^ k.toNat), Nat.mul_assoc, Nat.mul_assoc]
    have e2 : d * (2 ^ k'.toNat * 2 ^ (-k).toNat) = d * 2 ^ k'.toNat * 2 ^ (-k).toNat := by rw [Nat.mul_assoc]
    have e3 : n * 2 ^ (-k).toNat * 2 ^ (-k').toNat = n * 2 ^ (-k').toNat * 2 ^ (-k).toNat := Nat.mul_right_comm _ _ _
    rw [e1] at h1
    rw [e2] at h3
    omega
  · exact hge
theorem LogW.unique {n d : Nat} {k k' : Int} (h : LogW n d k) (h' : LogW n d k') : k = k' := Int.le_antisymm (h'.le h) (h.le h')
theorem bl_shift {x : Nat} (hx : 0 < x) (j : Nat) : bl (x * 2 ^ j) = bl x + j := by
  have key : ∀ n, n < bl (x * 2 ^ j) ↔ n < bl x + j := by
    intro n
    rw [lt_bl]
    rcases Nat.lt_or_ge n j with h | h
    · constructor
      · intro _; omega
      · intro _
        exact Nat.le_trans (Nat.pow_le_pow_right (by decide) (Nat.le_of_lt h)) (Nat.le_mul_of_pos_left (2 ^ j) hx)
    · obtain ⟨i, rfl⟩ : ∃ i, n = i + j := ⟨n - j, by omega⟩
      rw [Nat.pow_add, Nat.mul_le_mul_right_iff (Nat.two_pow_pos j), ← lt_bl]
      omega
  have h1 := key (bl x + j)
  have h2 := key (bl (x * 2 ^ j))
  omega
theorem bl_pos {x : Nat} (h : 0 < x) : 0 < bl x := by rw [lt_bl]; exact h
theorem bl_lo {x : Nat} (h : 0 < x) : 2 ^ (bl x - 1) ≤ x := (lt_bl x _).1 (by have := bl_pos h; omega)
theorem bl_hi (x : Nat) : x < 2 ^ bl x := (bl_le x _).1 (Nat.le_refl _)
theorem near_of_bl {x y : Nat} (hy : 0 < y) (h : bl x = bl y) : x < 2 * y := by
  have h1 := bl_hi x
  have h2 := bl_lo hy
  have h3 := bl_pos hy
  rw [h] at h1
  have : 2 ^ bl y = 2 * 2 ^ (bl y - 1) := by
    rw [show bl y = (bl y - 1) + 1 by omega, Nat.pow_succ, Nat.mul_comm]
    rfl
  omega
theorem step_up (n d : Nat) (k : Int) (P Q : Nat) : (P * (d * 2 ^ (k + 1).toNat) = n * 2 ^ (-(k + 1)).toNat * (2 * Q)) ↔ (P * (d * 2 ^ k.toNat) = n * 2 ^ (-k).toNat * Q) := by
  rcases (show k < 0 ∨ 0 ≤ k by omega) with h | h
  · have e1 : (k + 1).toNat = 0 := by omega
    have e2 : k.toNat = 0 := by omega
    have e3 : (-k).toNat = (-(k + 1)).toNat + 1 := by omega
    rw [e1, e2, e3, Nat.pow_succ]
    have : n * (2 ^ (-(k + 1)).toNat * 2) * Q = n * 2 ^ (-(k + 1)).toNat * (2 * Q) := by rw [← Nat.mul_assoc n, Nat.mul_assoc _ 2 Q]
    rw [this]
  · have e1 : (-(k + 1)).toNat = 0 := by omega
    have e2 : (-k).toNat = 0 := by omega
    have e3 : (k + 1).toNat = k.toNat + 1 := by omega
    rw [e1, e2, e3, Nat.pow_succ]
    have e4 : P * (d * (2 ^ k.toNat * 2)) = 2 * (P * (d * 2 ^ k.toNat)) := by
      rw [← Nat.mul_assoc d, ← Nat.mul_assoc P, Nat.mul_comm _ 2]
    have e5 : n * 2 ^ 0 * (2 * Q) = 2 * (n * 2 ^ 0 * Q) := Nat.mul_left_comm _ _ _
    rw [e4, e5]
    omega
def wholeN (n d : Nat) : Int := if n * 2 ^ (-((bl n : Int) - (bl d : Int))).toNat < d * 2 ^ ((bl n : Int) - (bl d : Int)).toNat then (bl n : Int) - (bl d : Int) - 1 else (bl n : Int) - (bl d : Int)
theorem wholeN_W {n d : Nat} (hn : 0 < n) (hd : 0 < d) : LogW n d (wholeN n d) := by
  obtain ⟨k, hk⟩ : ∃ k : Int, (bl n : Int) - (bl d : Int) = k := ⟨_, rfl⟩
  have hpn : 0 < n * 2 ^ (-k).toNat := Nat.mul_pos hn (Nat.two_pow_pos _)
  have hpd : 0 < d * 2 ^ k.toNat := Nat.mul_pos hd (Nat.two_pow_pos _)
  have hb : bl (n * 2 ^ (-k).toNat) = bl (d * 2 ^ k.toNat) := by
    rw [bl_shift hn, bl_shift hd]
    omega
  have h1 := near_of_bl hpd hb
  have h2 := near_of_bl hpn hb.symm
  unfold wholeN
  rw [hk]
  split
  · rename_i hlt
    unfold LogW
    rcases (show 0 < k ∨ k ≤ 0 by omega) with h | h
    · have e1 : (-(k - 1)).toNat = 0 := by omega
      have e2 : (-k).toNat = 0 := by omega
      have e3 : k.toNat = (k - 1).toNat + 1 := by omega
      rw [e2, e3, Nat.pow_succ, ← Nat.mul_assoc] at h1 h2 hlt
      rw [e1]
      omega
    · have e1 : (k - 1).toNat = 0 := by omega
      have e2 : k.toNat = 0 := by omega
      have e3 : (-(k - 1)).toNat = (-k).toNat + 1 := by omega
      rw [e2] at h1 h2 hlt
      rw [e1, e3, Nat.pow_succ, ← Nat.mul_assoc]
      omega
  · rename_i hge
    exact ⟨by omega, h1⟩
theorem wholeN_le {n d m : Nat} (hn : 0 < n) (hd : 0 < d) (h1 : n < 2 ^ m) (h2 : d < 2 ^ m) : -(m : Int) ≤ wholeN n d ∧ wholeN n d ≤ (m : Int) := by
  have a := (bl_le n m).2 h1
  have b := (bl_le d m).2 h2
  have c := bl_pos hn
  have e := bl_pos hd
  unfold wholeN
  split <;> omega
def LogE (n d : Nat) (k : Int) (P Q : Nat) : Prop := P * (d * 2 ^ k.toNat) = n * 2 ^ (-k).toNat * Q
theorem LogE.start (n d : Nat) (k : Int) : LogE n d k (n * 2 ^ (-k).toNat) (d * 2 ^ k.toNat) := rfl
theorem two_toNat (k : Int) : (2 * k).toNat = k.toNat + k.toNat := by omega
theorem LogE.sq {n d : Nat} {k : Int} {P Q : Nat} (h : LogE n d k P Q) : LogE (n * n) (d * d) (2 * k) (P * P) (Q * Q) := by
  unfold LogE at *
  rw [two_toNat, show -(2 * k) = 2 * -k by omega, two_toNat, Nat.pow_add, Nat.pow_add]
  calc P * P * (d * d * (2 ^ k.toNat * 2 ^ k.toNat)) = (P * (d * 2 ^ k.toNat)) * (P * (d * 2 ^ k.toNat)) := by
        rw [Nat.mul_mul_mul_comm d d, Nat.mul_mul_mul_comm P P]
    _ = (n * 2 ^ (-k).toNat * Q) * (n * 2 ^ (-k).toNat * Q) := by rw [h]
    _ = n * n * (2 ^ (-k).toNat * 2 ^ (-k).toNat) * (Q * Q) := by
        rw [Nat.mul_mul_mul_comm n n, Nat.mul_mul_mul_comm (n * 2 ^ (-k).toNat) (n * 2 ^ (-k).toNat)]
theorem LogE.bit {n d : Nat} {k : Int} {P Q : Nat} (h : LogE n d k P Q) : LogE n d (k + 1) P (2 * Q) := (step_up n d k P Q).2 h
theorem LogE.w {n d : Nat} {k : Int} {P Q : Nat} (h : LogE n d k P Q) (hQ : 0 < Q) (h1 : Q ≤ P) (h2 : P < 2 * Q) (hd : 0 < d) : LogW n d k := by
  unfold LogE at h
  have hp : 0 < d * 2 ^ k.toNat := Nat.mul_pos hd (Nat.two_pow_pos _)
  constructor
  · refine Nat.le_of_mul_le_mul_right ?_ hQ
    rw [← h, Nat.mul_comm P]
    exact Nat.mul_le_mul_left _ h1
  · refine Nat.lt_of_mul_lt_mul_right (a := Q) ?_
    rw [← h]
    calc P * (d * 2 ^ k.toNat) < 2 * Q * (d * 2 ^ k.toNat) := Nat.mul_lt_mul_of_pos_right h2 hp
      _ = 2 * (d * 2 ^ k.toNat) * Q := by rw [Nat.mul_right_comm]
theorem odd_part : ∀ n : Nat, 0 < n → ∃ p x, n = 2 ^ p * x ∧ x % 2 = 1 := by
  intro n
  induction n using Nat.strongRecOn with
  | ind n ih =>
    intro h0
    rcases Nat.mod_two_eq_zero_or_one n with h | h
    · obtain ⟨p, x, hx, ho⟩ := ih (n / 2) (by omega) (by omega)
      refine ⟨p + 1, x, ?_, ho⟩
      rw [Nat.pow_succ, Nat.mul_right_comm, ← hx]
      omega
    · exact ⟨0, n, by rw [Nat.pow_zero, Nat.one_mul], h⟩
theorem odd_part_eq : ∀ (p q x y : Nat), x % 2 = 1 → y % 2 = 1 → 2 ^ p * x = 2 ^ q * y → p = q ∧ x = y := by
  intro p
  induction p with
  | zero =>
    intro q x y hx hy h
    cases q with
    | zero => simpa using h
    | succ q =>
      rw [Nat.pow_zero, Nat.one_mul, Nat.pow_succ, Nat.mul_right_comm] at h
      omega
  | succ p ih =>
    intro q x y hx hy h
    cases q with
    | zero =>
      rw [Nat.pow_zero, Nat.one_mul, Nat.pow_succ, Nat.mul_right_comm] at h
      omega
    | succ q =>
      rw [Nat.pow_succ, Nat.pow_succ, Nat.mul_right_comm, Nat.mul_right_comm (2 ^ q)] at h
      obtain ⟨h1, h2⟩ := ih q x y hx hy (by omega)
      exact ⟨by omega, h2⟩
def NoPow (n d : Nat) : Prop := ∀ k : Int, n * 2 ^ (-k).toNat ≠ d * 2 ^ k.toNat
theorem sq_inj {x y : Nat} (h : x * x = y * y) : x = y := by
  rcases Nat.lt_trichotomy x y with h1 | h1 | h1
  · have := Nat.mul_lt_mul'' h1 h1
    omega
  · exact h1
  · have := Nat.mul_lt_mul'' h1 h1
    omega
theorem NoPow.sq {n d : Nat} (hn : 0 < n) (hd : 0 < d) (h : NoPow n d) : NoPow (n * n) (d * d) := by
  intro k he
  obtain ⟨p, x, hx, ox⟩ := odd_part n hn
  obtain ⟨q, y, hy, oy⟩ := odd_part d hd
  have oxx : (x * x) % 2 = 1 := by rw [Nat.mul_mod, ox]
  have oyy : (y * y) % 2 = 1 := by rw [Nat.mul_mod, oy]
  have e1 : n * n * 2 ^ (-k).toNat = 2 ^ (p + p + (-k).toNat) * (x * x) := by
    rw [hx, Nat.pow_add, Nat.pow_add, Nat.mul_mul_mul_comm, Nat.mul_right_comm]
  have e2 : d * d * 2 ^ k.toNat = 2 ^ (q + q + k.toNat) * (y * y) := by
    rw [hy, Nat.pow_add, Nat.pow_add, Nat.mul_mul_mul_comm, Nat.mul_right_comm]
  rw [e1, e2] at he
  obtain ⟨h1, h2⟩ := odd_part_eq _ _ _ _ oxx oyy he
  have hxy := sq_inj h2
  refine h ((p : Int) - (q : Int)) ?_
  rw [hx, hy, hxy, Nat.mul_right_comm, ← Nat.pow_add, Nat.mul_right_comm, ← Nat.pow_add]
  congr 2
  omega
theorem NoPow.ne {n d : Nat} (h : NoPow n d) {k : Int} {P Q : Nat} (he : LogE n d k P Q) (hQ : 0 < Q) : P ≠ 2 * Q := by
  intro hp
  refine h (k + 1) ?_
  have h1 := (step_up n d k P Q).2 he
  rw [hp] at h1
  have : 0 < 2 * Q := by omega
  exact (Nat.eq_of_mul_eq_mul_right this (by rw [← h1, Nat.mul_comm])).symm
structure LogI (n d D m i : Nat) (low high : Nat) (out : Int) (P Q : Nat) : Prop where
  e : LogE (n ^ 2 ^ i) (d ^ 2 ^ i) out P Q
  pos : 0 < Q
  le : Q ≤ P
  lt : P < 2 * Q
  lo : low * Q ≤ P * 2 ^ D
  hi : P * 2 ^ D ≤ high * Q
  top : high ≤ 2 ^ (D + 1)
  err : high + 1 ≤ low + 2 * 4 ^ i
  small : 2 * Q ≤ 2 ^ ((m + 1) * 2 ^ i)
theorem pow_sq (n i : Nat) : n ^ 2 ^ i * n ^ 2 ^ i = n ^ 2 ^ (i + 1) := by rw [← Nat.pow_add, Nat.pow_succ, Nat.mul_two]
def ceilD (a j : Nat) : Nat := if a / 2 ^ j * 2 ^ j < a then a / 2 ^ j + 1 else a / 2 ^ j
theorem ceilD_ge (a j : Nat) : a ≤ ceilD a j * 2 ^ j := by
  have h := Nat.div_add_mod a (2 ^ j)
  have h2 := Nat.mod_lt a (Nat.two_pow_pos j)
  unfold ceilD
  rw [Nat.mul_comm] at h
  split
  · rw [Nat.add_mul, Nat.one_mul]; omega
  · omega
theorem ceilD_lt (a j : Nat) : ceilD a j * 2 ^ j < a + 2 ^ j := by
  have h := Nat.div_mul_le_self a (2 ^ j)
  have h2 := Nat.two_pow_pos j
  unfold ceilD
  split
  · rw [Nat.add_mul, Nat.one_mul]; omega
  · omega
theorem ceilD_le {a b j : Nat} (h : a ≤ b * 2 ^ j) : ceilD a j ≤ b := by
  have h1 := ceilD_lt a j
  rcases Nat.lt_or_ge b (ceilD a j) with hlt | hge
  · exfalso
    have := Nat.mul_le_mul_right (2 ^ j) (Nat.succ_le_of_lt hlt)
    rw [Nat.succ_mul] at this
    omega
  · exact hge
section
variable {n d D m i low high P Q : Nat} {out : Int}
theorem LogI.p2 (h : LogI n d D m i low high out P Q) : Q * Q ≤ P * P := Nat.mul_le_mul h.le h.le
theorem LogI.sqlo (h : LogI n d D m i low high out P Q) : low * low / 2 ^ D * (Q * Q) ≤ P * P * 2 ^ D := by
  refine Nat.le_of_mul_le_mul_right ?_ (Nat.two_pow_pos D)
  calc low * low / 2 ^ D * (Q * Q) * 2 ^ D = low * low / 2 ^ D * 2 ^ D * (Q * Q) := by rw [Nat.mul_right_comm]
    _ ≤ low * low * (Q * Q) := Nat.mul_le_mul_right _ (Nat.div_mul_le_self _ _)
    _ = low * Q * (low * Q) := by rw [Nat.mul_mul_mul_comm]
    _ ≤ P * 2 ^ D * (P * 2 ^ D) := Nat.mul_le_mul h.lo h.lo
    _ = P * P * 2 ^ D * 2 ^ D := by rw [Nat.mul_mul_mul_comm, ← Nat.mul_assoc (P * P)]
theorem LogI.sqhi (h : LogI n d D m i low high out P Q) : P * P * 2 ^ D ≤ ceilD (high * high) D * (Q * Q) := by
  refine Nat.le_of_mul_le_mul_right ?_ (Nat.two_pow_pos D)
  calc P * P * 2 ^ D * 2 ^ D = P * 2 ^ D * (P * 2 ^ D) := by rw [Nat.mul_mul_mul_comm, ← Nat.mul_assoc (P * P)]
    _ ≤ high * Q * (high * Q) := Nat.mul_le_mul h.hi h.hi
    _ = high * high * (Q * Q) := by rw [Nat.mul_mul_mul_comm]
    _ ≤ ceilD (high * high) D * 2 ^ D * (Q * Q) := Nat.mul_le_mul_right _ (ceilD_ge _ _)
    _ = ceilD (high * high) D * (Q * Q) * 2 ^ D := by rw [Nat.mul_right_comm]
theorem LogI.lohi (h : LogI n d D m i low high out P Q) : low ≤ high := Nat.le_of_mul_le_mul_right (Nat.le_trans h.lo h.hi) h.pos
theorem LogI.gap (h : LogI n d D m i low high out P Q) : ceilD (high * high) D + 3 ≤ low * low / 2 ^ D + 2 * 4 ^ (i + 1) := by
  have hlh := h.lohi
  obtain ⟨e, he⟩ : ∃ e, high = low + e := ⟨high - low, by omega⟩
  have he2 := h.err
  have ht := h.top
  have h1 := ceilD_lt (high * high) D
  have h2 := Nat.div_add_mod (low * low) (2 ^ D)
  have h3 := Nat.mod_lt (low * low) (Nat.two_pow_pos D)
  rw [Nat.mul_comm] at h2
  have hs : high * high ≤ low * low + e * 2 ^ (D + 2) := by
    have : high * high = low * low + e * (low + high) := by
      rw [he]
      simp only [Nat.add_mul, Nat.mul_add, Nat.mul_comm low e]
      omega
    rw [this]
    refine Nat.add_le_add_left (Nat.mul_le_mul_left e ?_) _
    rw [Nat.pow_succ] at ht ⊢
    rw [Nat.pow_succ] at ⊢
    omega
  have he3 : e * 2 ^ (D + 2) = 4 * e * 2 ^ D := by
    rw [Nat.pow_add, ← Nat.mul_assoc, Nat.mul_right_comm, Nat.mul_comm e]
  rw [he3] at hs
  have hx : ceilD (high * high) D * 2 ^ D < (low * low / 2 ^ D + 4 * e + 2) * 2 ^ D := by
    rw [Nat.add_mul, Nat.add_mul]
    omega
  have hy := Nat.lt_of_mul_lt_mul_right hx
  rw [Nat.pow_succ]
  omega
theorem LogI.top2 (h : LogI n d D m i low high out P Q) : ceilD (high * high) D ≤ 2 ^ (D + 2) := by
  refine ceilD_le ?_
  calc high * high ≤ 2 ^ (D + 1) * 2 ^ (D + 1) := Nat.mul_le_mul h.top h.top
    _ = 2 ^ (D + 2) * 2 ^ D := by rw [← Nat.pow_add, ← Nat.pow_add]; congr 1; omega
theorem LogI.small2 (h : LogI n d D m i low high out P Q) : 2 * (2 * (Q * Q)) ≤ 2 ^ ((m + 1) * 2 ^ (i + 1)) := by
  have := Nat.mul_le_mul h.small h.small
  rw [Nat.mul_mul_mul_comm, ← Nat.pow_add, ← Nat.mul_two] at this
  have e : (m + 1) * 2 ^ (i + 1) = (m + 1) * 2 ^ i * 2 := by rw [Nat.pow_succ, Nat.mul_assoc]
  rw [e]
  omega
theorem LogI.start {n d D m : Nat} {k : Int} (hd : 0 < d) (hw : LogW n d k) (h1 : n < 2 ^ m) (h2 : d < 2 ^ m) {low high : Nat} (hl : low = n * 2 ^ (-k).toNat * 2 ^ D / (d * 2 ^ k.toNat))
    (hh : high = low + (if n * 2 ^ (-k).toNat * 2 ^ D % (d * 2 ^ k.toNat) = 0 then 0 else 1)) : LogI n d D m 0 low high k (n * 2 ^ (-k).toNat) (d * 2 ^ k.toNat) := by
  have hq : 0 < d * 2 ^ k.toNat := Nat.mul_pos hd (Nat.two_pow_pos _)
  have hdm := Nat.div_add_mod (n * 2 ^ (-k).toNat * 2 ^ D) (d * 2 ^ k.toNat)
  have hml := Nat.mod_lt (n * 2 ^ (-k).toNat * 2 ^ D) hq
  have hqs : 2 * (d * 2 ^ k.toNat) ≤ 2 ^ (m + 1) := by
    have : d * 2 ^ k.toNat < 2 ^ m := by
      rcases (show k < 0 ∨ 0 ≤ k by omega) with hk | hk
      · rw [show k.toNat = 0 by omega, Nat.pow_zero, Nat.mul_one]; exact h2
      · have := hw.1
        rw [show (-k).toNat = 0 by omega, Nat.pow_zero, Nat.mul_one] at this
        omega
    rw [Nat.pow_succ]
    omega
  have htop : n * 2 ^ (-k).toNat * 2 ^ D / (d * 2 ^ k.toNat) < 2 ^ (D + 1) := by
    rw [Nat.div_lt_iff_lt_mul hq]
    calc n * 2 ^ (-k).toNat * 2 ^ D < 2 * (d * 2 ^ k.toNat) * 2 ^ D := Nat.mul_lt_mul_of_pos_right hw.2 (Nat.two_pow_pos D)
      _ = 2 ^ (D + 1) * (d * 2 ^ k.toNat) := by rw [Nat.pow_succ, Nat.mul_comm 2, Nat.mul_assoc, Nat.mul_comm 2, Nat.mul_comm]
  subst hl
  refine ⟨by rw [Nat.pow_zero, Nat.pow_one, Nat.pow_one]; exact LogE.start n d k, hq, hw.1, hw.2, Nat.div_mul_le_self _ _, ?_, ?_, ?_, by rw [Nat.pow_zero, Nat.mul_one]; exact hqs⟩
  · rw [hh, Nat.add_mul, Nat.mul_comm _ (d * 2 ^ k.toNat)]
    split
    · omega
    · rw [Nat.one_mul]; omega
  · rw [hh]
    split <;> omega
  · rw [hh, Nat.pow_zero]
    split <;> omega
theorem LogI.one {n d D m i low high P Q : Nat} {out : Int} (h : LogI n d D m i low high out P Q) (hge : 2 ^ (D + 1) ≤ low * low / 2 ^ D) :
    LogI n d D m (i + 1) (low * low / 2 ^ D / 2 ^ 1) (ceilD (ceilD (high * high) D) 1) (2 * out + 1) (P * P) (2 * (Q * Q)) := by
  have hlo := h.sqlo
  have hhi := h.sqhi
  have hQQ : 0 < Q * Q := Nat.mul_pos h.pos h.pos
  have hp2 : P * P < 2 * (2 * (Q * Q)) := by
    have := Nat.mul_lt_mul'' h.lt h.lt
    rw [Nat.mul_mul_mul_comm] at this
    omega
  have hge2 : 2 * (Q * Q) ≤ P * P := by
    refine Nat.le_of_mul_le_mul_right ?_ (Nat.two_pow_pos D)
    calc 2 * (Q * Q) * 2 ^ D = 2 ^ (D + 1) * (Q * Q) := by rw [Nat.pow_succ, Nat.mul_comm (2 ^ D) 2, Nat.mul_right_comm]
      _ ≤ low * low / 2 ^ D * (Q * Q) := Nat.mul_le_mul_right _ hge
      _ ≤ P * P * 2 ^ D := hlo
  have hg := h.gap
  have hc1 := ceilD_lt (ceilD (high * high) D) 1
  have hc2 := ceilD_ge (ceilD (high * high) D) 1
  have ht2 := h.top2
  rw [Nat.pow_one] at hc1 hc2 ⊢
  refine ⟨?_, by omega, hge2, hp2, ?_, ?_, ?_, ?_, h.small2⟩
  · have := (h.e.sq).bit
    rwa [pow_sq, pow_sq] at this
  · calc low * low / 2 ^ D / 2 * (2 * (Q * Q)) = low * low / 2 ^ D / 2 * 2 * (Q * Q) := by rw [← Nat.mul_assoc]
      _ ≤ low * low / 2 ^ D * (Q * Q) := Nat.mul_le_mul_right _ (Nat.div_mul_le_self _ _)
      _ ≤ P * P * 2 ^ D := hlo
  · calc P * P * 2 ^ D ≤ ceilD (high * high) D * (Q * Q) := hhi
      _ ≤ ceilD (ceilD (high * high) D) 1 * 2 * (Q * Q) := Nat.mul_le_mul_right _ hc2
      _ = ceilD (ceilD (high * high) D) 1 * (2 * (Q * Q)) := by rw [Nat.mul_assoc]
  · refine ceilD_le ?_
    rw [Nat.pow_one, ← Nat.pow_succ]
    exact ht2
  · omega
theorem LogI.none {n d D m i low high P Q : Nat} {out : Int} (h : LogI n d D m i low high out P Q) (hn : NoPow (n ^ 2 ^ (i + 1)) (d ^ 2 ^ (i + 1))) (hle : ceilD (high * high) D ≤ 2 ^ (D + 1)) :
    LogI n d D m (i + 1) (low * low / 2 ^ D) (ceilD (high * high) D) (2 * out) (P * P) (Q * Q) := by
  have hlo := h.sqlo
  have hhi := h.sqhi
  have hQQ : 0 < Q * Q := Nat.mul_pos h.pos h.pos
  have he := h.e.sq
  rw [pow_sq, pow_sq] at he
  have hne := hn.ne he hQQ
  have hlt : P * P ≤ 2 * (Q * Q) := by
    refine Nat.le_of_mul_le_mul_right ?_ (Nat.two_pow_pos D)
    calc P * P * 2 ^ D ≤ ceilD (high * high) D * (Q * Q) := hhi
      _ ≤ 2 ^ (D + 1) * (Q * Q) := Nat.mul_le_mul_right _ hle
      _ = 2 * (Q * Q) * 2 ^ D := by rw [Nat.pow_succ, Nat.mul_comm (2 ^ D) 2, Nat.mul_right_comm]
  have hg := h.gap
  have hs := h.small2
  exact ⟨he, hQQ, h.p2, by omega, hlo, hhi, hle, by omega, by omega⟩
theorem LogI.few {n d D m i low high P Q : Nat} {out : Int} (h : LogI n d D m i low high out P Q) (hn : NoPow (n ^ 2 ^ (i + 1)) (d ^ 2 ^ (i + 1))) (h1 : low * low / 2 ^ D < 2 ^ (D + 1)) (h2 : 2 ^ (D + 1) < ceilD (high * high) D) :
    D ≤ 2 * i + 4 + (m + 1) * 2 ^ (i + 1) := by
  have hlo := h.sqlo
  have hhi := h.sqhi
  have hQQ : 0 < Q * Q := Nat.mul_pos h.pos h.pos
  have he := h.e.sq
  rw [pow_sq, pow_sq] at he
  have hne := hn.ne he hQQ
  have hg := h.gap
  have hs := h.small2
  -- 2 ^ D is at most the gap times Q * Q
  have hk : 2 ^ D ≤ 2 * 4 ^ (i + 1) * (Q * Q) := by
    have e1 : 2 ^ (D + 1) * (Q * Q) = 2 * (Q * Q) * 2 ^ D := by rw [Nat.pow_succ, Nat.mul_comm (2 ^ D) 2, Nat.mul_right_comm]
    have a1 : low * low / 2 ^ D * (Q * Q) ≤ 2 ^ (D + 1) * (Q * Q) := Nat.mul_le_mul_right _ (Nat.le_of_lt h1)
    have a2 : 2 ^ (D + 1) * (Q * Q) ≤ ceilD (high * high) D * (Q * Q) := Nat.mul_le_mul_right _ (Nat.le_of_lt h2)
    have a3 : ceilD (high * high) D * (Q * Q) ≤ (low * low / 2 ^ D + 2 * 4 ^ (i + 1)) * (Q * Q) := Nat.mul_le_mul_right _ (by omega)
    rw [Nat.add_mul] at a3
    rcases Nat.lt_or_gt_of_ne hne with hl | hl
    · have := Nat.mul_le_mul_right (2 ^ D) (Nat.succ_le_of_lt hl)
      rw [Nat.succ_mul] at this
      omega
    · have := Nat.mul_le_mul_right (2 ^ D) (Nat.succ_le_of_lt hl)
      rw [Nat.succ_mul] at this
      omega
  have h4 : 2 * 4 ^ (i + 1) = 2 ^ (2 * i + 3) := by
    rw [show (4 : Nat) = 2 ^ 2 from rfl, ← Nat.pow_mul, Nat.mul_comm 2, ← Nat.pow_succ]
    rfl
  rw [h4] at hk
  have h5 : 2 ^ (2 * i + 3) * (Q * Q) ≤ 2 ^ (2 * i + 3) * 2 ^ ((m + 1) * 2 ^ (i + 1)) := Nat.mul_le_mul_left _ (by omega)
  rw [← Nat.pow_add] at h5
  have := (Nat.pow_le_pow_iff_right (a := 2) (by decide)).1 (Nat.le_trans hk h5)
  omega
end
end Go.Proofs.Yteikhnmmkanndaa
namespace Go.Proofs.Yteikhnmmkanndaa
open Go.RowKit Go.Proofs.YteikhnmmkanndaaW.PrintWords
set_option linter.unusedSimpArgs false
set_option linter.unusedVariables false
theorem wl_bits {x m : Nat} (h : x < 2 ^ m) : wl 64 x ≤ m := Nat.le_trans (wl_le_bl (by decide) x) ((bl_le x m).2 h)
theorem wl_shl {x m j : Nat} (h : x < 2 ^ m) : wl 64 (x * 2 ^ j) ≤ m + j := wl_bits (by rw [Nat.pow_add]; exact Nat.mul_lt_mul_of_pos_right h (Nat.two_pow_pos j))
set_option maxRecDepth 100000 in
set_option maxHeartbeats 4000000 in
theorem lwhole_any (va : Value) (n d m : Nat) (w : World) (ha : F64 w va n d) (hn0 : 0 < n) (hd0 : 0 < d) (hn : n < 2 ^ m) (hd : d < 2 ^ m) (hm : m ≤ 20000) : Calls Try.prog 39 #[va] w fun x w' => x = .returned (.tuple #[.int .i64 (wholeN n d), .int .i64 0]) ∧ Below w.heap.size w w' := by
  have Ha := Lib.hid ha
  obtain ⟨Pa, pa, ca, Qa, qa, ea, xa, rfl, _, _, _⟩ := ha
  have HZ := Lib.hid (fun v W h => rzero_no v n d W h hn0)
  have HNU := Lib.hid num_any
  have HDE := Lib.hid den_any
  have hbn := (bl_le n m).2 hn
  have hbd := (bl_le d m).2 hd
  have hwn := wl_bits hn
  have hwd := wl_bits hd
  have HBN := Lib.hid (fun v W h => bits_any v n W h (by omega))
  have HBD := Lib.hid (fun v W h => bits_any v d W h (by omega))
  obtain ⟨kk, hkk⟩ : ∃ k : Int, (bl n : Int) - (bl d : Int) = k := ⟨_, rfl⟩
  have HWN : Hid (wholeN n d = if n * 2 ^ (-kk).toNat < d * 2 ^ kk.toNat then kk - 1 else kk) := Lib.hid (by unfold wholeN; rw [hkk])
  have hs1 := wl_shl (j := (-kk).toNat) hn
  have hs2 := wl_shl (j := kk.toNat) hd
  have HU1 := Lib.hid (fun v W h => nup_any v n W h (by omega) (-kk) (by omega))
  have HU2 := Lib.hid (fun v W h => nup_any v d W h (by omega) kk (by omega))
  have HCM := Lib.hid (fun va vb W h1 h2 => ncmp_any va vb (n * 2 ^ (-kk).toNat) (d * 2 ^ kk.toNat) W h1 h2)
  obtain ⟨p, hp⟩ : ∃ p, bl n = p := ⟨_, rfl⟩
  obtain ⟨q, hq⟩ : ∃ p, bl d = p := ⟨_, rfl⟩
  rw [hp] at HBN hbn hkk
  rw [hq] at HBD hbd hkk
  have hk1 : -1000000 ≤ kk := by omega
  have hk2 : kk ≤ 1000000 := by omega
  obtain ⟨N', hN'⟩ : ∃ p, n * 2 ^ (-kk).toNat = p := ⟨_, rfl⟩
  obtain ⟨D', hD'⟩ : ∃ p, d * 2 ^ kk.toNat = p := ⟨_, rfl⟩
  rw [hN'] at HU1 HCM HWN
  rw [hD'] at HU2 HCM HWN
  clear hn0 hd0 hn hd hm hwn hwd hs1 hs2 hp hq hN' hD'
  by_cases hlt : N' < D'
  · have HW2 := Lib.hid (show wholeN n d = kk - 1 by rw [HWN.out, if_pos hlt])
    rw [cmpN_lt hlt] at HCM
    clear hlt HWN
    have e0 := Blk.new (w) 47 #[(.slice Pa pa ca), (.slice Qa qa ea)]
    have hb := cba (Below.refl _ w) (.cells #[(.slice Pa pa ca), (.slice Qa qa ea)] 47)
    have hsz : w.heap.size ≤ w.heap.size := Nat.le_refl _
    go_enter Try.func39, Try.ntmps39
    go_upto_region 1 with (fail)
    obtain ⟨S, hS⟩ : ∃ S, (w).alloc (.cells #[(.slice Pa pa ca), (.slice Qa qa ea)] 47) = S := ⟨_, rfl⟩
    rw [hS] at e0 hb ⊢
    replace Ha := Lib.hid (Ha.out.below hb)
    have HB0 := Lib.hid hb
    have E0 := Lib.hid e0
    clear hS hb hsz e0
    have k_E0_0 := E0.out.cell 0
    have k_E0_1 := E0.out.cell 1
    go_wp2_with fail
    with_reducible refine (HZ.out _ _ Ha.out).mono ?_
    rintro e w1 ⟨rfl, hb⟩
    clear k_E0_0 k_E0_1
    replace Ha := Lib.hid (Ha.out.below hb)
    replace E0 := Lib.hid (blk_below E0.out hb)
    replace HB0 := Lib.hid (cbt HB0.out hb)
    clear hb
    have k_E0_0 := E0.out.cell 0
    have k_E0_1 := E0.out.cell 1
    go_wp2_with fail
    clear k_E0_0 k_E0_1
    let FS : List Kept1 := [.f (n) (d), .n (n), .eq (.int .i64 (p : Int)), .f (n) (d), .n (d), .eq (.int .i64 (q : Int)), .eq (.int .i64 kk), .eq (.int .i64 kk)]
    refine region_mono (Held w1 (fun j => FS.getD j .any) []) (by kernel_rfl) (by kernel_rfl) (by kernel_rfl) (Held.start _ _ _ (by simp) (by simp)) ?_
    refine Steps.held ?_ ?_
    · intro L v w' hJ
      have kb := hJ.out.blk E0.out (by simp [oldsOf])
      have k0 := kb.cell 0
      have k1 := kb.cell 1
      clear kb
      go_wp2_with fail
      exact ⟨rfl, rfl, hJ.out.same (by rfl) (Ha.out.keep hJ.out.held.keep)⟩
    simp only [Act.put, List.setIfInBounds_toArray, List.set_cons_zero, List.set_cons_succ, Nat.reduceAdd]
    refine Steps.held ?_ ?_
    · intro L v w' hJ
      have X0 := Lib.hid (show F64 w' (v 0) (n) (d) from hJ.out.fact 0 (by kernel_rfl))
      go_wp2_with fail
      with_reducible refine (HNU.out _ _ _ _ X0.out).mono ?_
      rintro e w1 ⟨u, rfl, hu, hb⟩
      go_wp2_with fail
      exact ⟨rfl, rfl, hJ.out.call (by rfl) hb (hu)⟩
    simp only [Act.put, List.setIfInBounds_toArray, List.set_cons_zero, List.set_cons_succ, Nat.reduceAdd]
    refine Steps.held ?_ ?_
    · intro L v w' hJ
      have X0 := Lib.hid (show N64 w' (v 1) (n) from hJ.out.fact 1 (by kernel_rfl))
      go_wp2_with fail
      with_reducible refine (HBN.out _ _ X0.out).mono ?_
      rintro e w1 ⟨rfl, hb⟩
      go_wp2_with fail
      exact ⟨rfl, rfl, hJ.out.call (by rfl) hb (rfl)⟩
    simp only [Act.put, List.setIfInBounds_toArray, List.set_cons_zero, List.set_cons_succ, Nat.reduceAdd]
    refine Steps.held ?_ ?_
    · intro L v w' hJ
      have kb := hJ.out.blk E0.out (by simp [oldsOf])
      have k0 := kb.cell 0
      have k1 := kb.cell 1
      clear kb
      go_wp2_with fail
      exact ⟨rfl, rfl, hJ.out.same (by rfl) (Ha.out.keep hJ.out.held.keep)⟩
    simp only [Act.put, List.setIfInBounds_toArray, List.set_cons_zero, List.set_cons_succ, Nat.reduceAdd]
    refine Steps.held ?_ ?_
    · intro L v w' hJ
      have X0 := Lib.hid (show F64 w' (v 3) (n) (d) from hJ.out.fact 3 (by kernel_rfl))
      go_wp2_with fail
      with_reducible refine (HDE.out _ _ _ _ X0.out).mono ?_
      rintro e w1 ⟨u, rfl, hu, hb⟩
      go_wp2_with fail
      exact ⟨rfl, rfl, hJ.out.call (by rfl) hb (hu)⟩
    simp only [Act.put, List.setIfInBounds_toArray, List.set_cons_zero, List.set_cons_succ, Nat.reduceAdd]
    refine Steps.held ?_ ?_
    · intro L v w' hJ
      have X0 := Lib.hid (show N64 w' (v 4) (d) from hJ.out.fact 4 (by kernel_rfl))
      go_wp2_with fail
      with_reducible refine (HBD.out _ _ X0.out).mono ?_
      rintro e w1 ⟨rfl, hb⟩
      go_wp2_with fail
      exact ⟨rfl, rfl, hJ.out.call (by rfl) hb (rfl)⟩
    simp only [Act.put, List.setIfInBounds_toArray, List.set_cons_zero, List.set_cons_succ, Nat.reduceAdd]
    refine Steps.held ?_ ?_
    · intro L v w' hJ
      have hv2 : v 2 = .int .i64 (p : Int) := hJ.out.fact 2 (by kernel_rfl)
      simp only [hv2]
      clear hv2
      have hv5 : v 5 = .int .i64 (q : Int) := hJ.out.fact 5 (by kernel_rfl)
      simp only [hv5]
      clear hv5
      go_wp2_with fail
      exact ⟨rfl, rfl, hJ.out.same (by rfl) (rfl)⟩
    simp only [Act.put, List.setIfInBounds_toArray, List.set_cons_zero, List.set_cons_succ, Nat.reduceAdd]
    refine Steps.held ?_ ?_
    · intro L v w' hJ
      have hv6 : v 6 = .int .i64 kk := hJ.out.fact 6 (by kernel_rfl)
      simp only [hv6]
      clear hv6
      go_wp2_with fail
      exact ⟨rfl, rfl, hJ.out.same (by rfl) (rfl)⟩
    simp only [Act.put, List.setIfInBounds_toArray, List.set_cons_zero, List.set_cons_succ, Nat.reduceAdd]
    refine Steps.nil ?_
    intro v w' hJ
    have h7 : v 7 = .int .i64 kk := hJ.end_fact 7 (by decide)
    simp only [h7]
    clear h7
    have hbr := hJ.but.below
    replace Ha := Lib.hid (Ha.out.below hbr)
    replace E0 := Lib.hid (blk_below E0.out hbr)
    replace HB0 := Lib.hid (cbt HB0.out hbr)
    clear hJ hbr
    clear hkk hbn hbd
    go_wp2_with fail
    let FS : List Kept1 := [.f (n) (d), .n (n), .eq (.int .i64 kk), .eq (.int .i64 (-kk)), .n (N'), .f (n) (d), .n (d), .eq (.int .i64 kk), .n (D'), .eq (.int .i64 (-1)), .eq (.bool true)]
    refine region_mono (Held w' (fun j => FS.getD j .any) []) (by kernel_rfl) (by kernel_rfl) (by kernel_rfl) (Held.start _ _ _ (by simp) (by simp)) ?_
    refine Steps.held ?_ ?_
    · intro L v w' hJ
      have kb := hJ.out.blk E0.out (by simp [oldsOf])
      have k0 := kb.cell 0
      have k1 := kb.cell 1
      clear kb
      go_wp2_with fail
      exact ⟨rfl, rfl, hJ.out.same (by rfl) (Ha.out.keep hJ.out.held.keep)⟩
    simp only [Act.put, List.setIfInBounds_toArray, List.set_cons_zero, List.set_cons_succ, Nat.reduceAdd]
    refine Steps.held ?_ ?_
    · intro L v w' hJ
      have X0 := Lib.hid (show F64 w' (v 0) (n) (d) from hJ.out.fact 0 (by kernel_rfl))
      go_wp2_with fail
      with_reducible refine (HNU.out _ _ _ _ X0.out).mono ?_
      rintro e w1 ⟨u, rfl, hu, hb⟩
      go_wp2_with fail
      exact ⟨rfl, rfl, hJ.out.call (by rfl) hb (hu)⟩
    simp only [Act.put, List.setIfInBounds_toArray, List.set_cons_zero, List.set_cons_succ, Nat.reduceAdd]
    refine Steps.held ?_ ?_
    · intro L v w' hJ
      go_wp2_with fail
      exact ⟨rfl, rfl, hJ.out.same (by rfl) (rfl)⟩
    simp only [Act.put, List.setIfInBounds_toArray, List.set_cons_zero, List.set_cons_succ, Nat.reduceAdd]
    refine Steps.held ?_ ?_
    · intro L v w' hJ
      have hv2 : v 2 = .int .i64 kk := hJ.out.fact 2 (by kernel_rfl)
      simp only [hv2]
      clear hv2
      go_wp2_with fail
      exact ⟨rfl, rfl, hJ.out.same (by rfl) (rfl)⟩
    simp only [Act.put, List.setIfInBounds_toArray, List.set_cons_zero, List.set_cons_succ, Nat.reduceAdd]
    refine Steps.held ?_ ?_
    · intro L v w' hJ
      have hv3 : v 3 = .int .i64 (-kk) := hJ.out.fact 3 (by kernel_rfl)
      simp only [hv3]
      clear hv3
      have X0 := Lib.hid (show N64 w' (v 1) (n) from hJ.out.fact 1 (by kernel_rfl))
      go_wp2_with fail
      with_reducible refine (HU1.out _ _ X0.out).mono ?_
      rintro e w1 ⟨u, rfl, hu, hb⟩
      go_wp2_with fail
      exact ⟨rfl, rfl, hJ.out.call (by rfl) hb (hu)⟩
    simp only [Act.put, List.setIfInBounds_toArray, List.set_cons_zero, List.set_cons_succ, Nat.reduceAdd]
    refine Steps.held ?_ ?_
    · intro L v w' hJ
      have kb := hJ.out.blk E0.out (by simp [oldsOf])
      have k0 := kb.cell 0
      have k1 := kb.cell 1
      clear kb
      go_wp2_with fail
      exact ⟨rfl, rfl, hJ.out.same (by rfl) (Ha.out.keep hJ.out.held.keep)⟩
    simp only [Act.put, List.setIfInBounds_toArray, List.set_cons_zero, List.set_cons_succ, Nat.reduceAdd]
    refine Steps.held ?_ ?_
    · intro L v w' hJ
      have X0 := Lib.hid (show F64 w' (v 5) (n) (d) from hJ.out.fact 5 (by kernel_rfl))
      go_wp2_with fail
      with_reducible refine (HDE.out _ _ _ _ X0.out).mono ?_
      rintro e w1 ⟨u, rfl, hu, hb⟩
      go_wp2_with fail
      exact ⟨rfl, rfl, hJ.out.call (by rfl) hb (hu)⟩
    simp only [Act.put, List.setIfInBounds_toArray, List.set_cons_zero, List.set_cons_succ, Nat.reduceAdd]
    refine Steps.held ?_ ?_
    · intro L v w' hJ
      go_wp2_with fail
      exact ⟨rfl, rfl, hJ.out.same (by rfl) (rfl)⟩
    simp only [Act.put, List.setIfInBounds_toArray, List.set_cons_zero, List.set_cons_succ, Nat.reduceAdd]
    refine Steps.held ?_ ?_
    · intro L v w' hJ
      have hv7 : v 7 = .int .i64 kk := hJ.out.fact 7 (by kernel_rfl)
      simp only [hv7]
      clear hv7
      have X0 := Lib.hid (show N64 w' (v 6) (d) from hJ.out.fact 6 (by kernel_rfl))
      go_wp2_with fail
      with_reducible refine (HU2.out _ _ X0.out).mono ?_
      rintro e w1 ⟨u, rfl, hu, hb⟩
      go_wp2_with fail
      exact ⟨rfl, rfl, hJ.out.call (by rfl) hb (hu)⟩
    simp only [Act.put, List.setIfInBounds_toArray, List.set_cons_zero, List.set_cons_succ, Nat.reduceAdd]
    refine Steps.held ?_ ?_
    · intro L v w' hJ
      have X0 := Lib.hid (show N64 w' (v 4) (N') from hJ.out.fact 4 (by kernel_rfl))
      have X1 := Lib.hid (show N64 w' (v 8) (D') from hJ.out.fact 8 (by kernel_rfl))
      go_wp2_with fail
      with_reducible refine (HCM.out _ _ _ X0.out X1.out).mono ?_
      rintro e w1 ⟨rfl, hb⟩
      go_wp2_with fail
      exact ⟨rfl, rfl, hJ.out.call (by rfl) hb (rfl)⟩
    simp only [Act.put, List.setIfInBounds_toArray, List.set_cons_zero, List.set_cons_succ, Nat.reduceAdd]
    refine Steps.held ?_ ?_
    · intro L v w' hJ
      have hv9 : v 9 = .int .i64 (-1) := hJ.out.fact 9 (by kernel_rfl)
      simp only [hv9]
      clear hv9
      go_wp2_with fail
      exact ⟨rfl, rfl, hJ.out.same (by rfl) (rfl)⟩
    simp only [Act.put, List.setIfInBounds_toArray, List.set_cons_zero, List.set_cons_succ, Nat.reduceAdd]
    refine Steps.nil ?_
    intro v w' hJ
    have h10 : v 10 = .bool true := hJ.end_fact 10 (by decide)
    simp only [h10]
    clear h10
    have hbr := hJ.but.below
    replace Ha := Lib.hid (Ha.out.below hbr)
    replace E0 := Lib.hid (blk_below E0.out hbr)
    replace HB0 := Lib.hid (cbt HB0.out hbr)
    clear hJ hbr
    go_wp2_with fail
    exact bodyPost_ret (v := .tuple #[.int .i64 (kk - 1), .int .i64 0]) (by simp [results, Try.results39, go_sem]) rfl ⟨by rw [HW2.out], HB0.out⟩
  · have HW2 := Lib.hid (show wholeN n d = kk by rw [HWN.out, if_neg hlt])
    have hcc : decide (cmpN N' D' < 0) = false := decide_eq_false (by have := cmpN_ge (x := N') (y := D') (by omega); omega)
    obtain ⟨cc, hce⟩ : ∃ c, cmpN N' D' = c := ⟨_, rfl⟩
    rw [hce] at HCM hcc
    clear hce
    clear hlt HWN
    have e0 := Blk.new (w) 47 #[(.slice Pa pa ca), (.slice Qa qa ea)]
    have hb := cba (Below.refl _ w) (.cells #[(.slice Pa pa ca), (.slice Qa qa ea)] 47)
    have hsz : w.heap.size ≤ w.heap.size := Nat.le_refl _
    go_enter Try.func39, Try.ntmps39
    go_upto_region 1 with (fail)
    obtain ⟨S, hS⟩ : ∃ S, (w).alloc (.cells #[(.slice Pa pa ca), (.slice Qa qa ea)] 47) = S := ⟨_, rfl⟩
    rw [hS] at e0 hb ⊢
    replace Ha := Lib.hid (Ha.out.below hb)
    have HB0 := Lib.hid hb
    have E0 := Lib.hid e0
    clear hS hb hsz e0
    have k_E0_0 := E0.out.cell 0
    have k_E0_1 := E0.out.cell 1
    go_wp2_with fail
    with_reducible refine (HZ.out _ _ Ha.out).mono ?_
    rintro e w1 ⟨rfl, hb⟩
    clear k_E0_0 k_E0_1
    replace Ha := Lib.hid (Ha.out.below hb)
    replace E0 := Lib.hid (blk_below E0.out hb)
    replace HB0 := Lib.hid (cbt HB0.out hb)
    clear hb
    have k_E0_0 := E0.out.cell 0
    have k_E0_1 := E0.out.cell 1
    go_wp2_with fail
    clear k_E0_0 k_E0_1
    let FS : List Kept1 := [.f (n) (d), .n (n), .eq (.int .i64 (p : Int)), .f (n) (d), .n (d), .eq (.int .i64 (q : Int)), .eq (.int .i64 kk), .eq (.int .i64 kk)]
    refine region_mono (Held w1 (fun j => FS.getD j .any) []) (by kernel_rfl) (by kernel_rfl) (by kernel_rfl) (Held.start _ _ _ (by simp) (by simp)) ?_
    refine Steps.held ?_ ?_
    · intro L v w' hJ
      have kb := hJ.out.blk E0.out (by simp [oldsOf])
      have k0 := kb.cell 0
      have k1 := kb.cell 1
      clear kb
      go_wp2_with fail
      exact ⟨rfl, rfl, hJ.out.same (by rfl) (Ha.out.keep hJ.out.held.keep)⟩
    simp only [Act.put, List.setIfInBounds_toArray, List.set_cons_zero, List.set_cons_succ, Nat.reduceAdd]
    refine Steps.held ?_ ?_
    · intro L v w' hJ
      have X0 := Lib.hid (show F64 w' (v 0) (n) (d) from hJ.out.fact 0 (by kernel_rfl))
      go_wp2_with fail
      with_reducible refine (HNU.out _ _ _ _ X0.out).mono ?_
      rintro e w1 ⟨u, rfl, hu, hb⟩
      go_wp2_with fail
      exact ⟨rfl, rfl, hJ.out.call (by rfl) hb (hu)⟩
    simp only [Act.put, List.setIfInBounds_toArray, List.set_cons_zero, List.set_cons_succ, Nat.reduceAdd]
    refine Steps.held ?_ ?_
    · intro L v w' hJ
      have X0 := Lib.hid (show N64 w' (v 1) (n) from hJ.out.fact 1 (by kernel_rfl))
      go_wp2_with fail
      with_reducible refine (HBN.out _ _ X0.out).mono ?_
      rintro e w1 ⟨rfl, hb⟩
      go_wp2_with fail
      exact ⟨rfl, rfl, hJ.out.call (by rfl) hb (rfl)⟩
    simp only [Act.put, List.setIfInBounds_toArray, List.set_cons_zero, List.set_cons_succ, Nat.reduceAdd]
    refine Steps.held ?_ ?_
    · intro L v w' hJ
      have kb := hJ.out.blk E0.out (by simp [oldsOf])
      have k0 := kb.cell 0
      have k1 := kb.cell 1
      clear kb
      go_wp2_with fail
      exact ⟨rfl, rfl, hJ.out.same (by rfl) (Ha.out.keep hJ.out.held.keep)⟩
    simp only [Act.put, List.setIfInBounds_toArray, List.set_cons_zero, List.set_cons_succ, Nat.reduceAdd]
    refine Steps.held ?_ ?_
    · intro L v w' hJ
      have X0 := Lib.hid (show F64 w' (v 3) (n) (d) from hJ.out.fact 3 (by kernel_rfl))
      go_wp2_with fail
      with_reducible refine (HDE.out _ _ _ _ X0.out).mono ?_
      rintro e w1 ⟨u, rfl, hu, hb⟩
      go_wp2_with fail
      exact ⟨rfl, rfl, hJ.out.call (by rfl) hb (hu)⟩
    simp only [Act.put, List.setIfInBounds_toArray, List.set_cons_zero, List.set_cons_succ, Nat.reduceAdd]
    refine Steps.held ?_ ?_
    · intro L v w' hJ
      have X0 := Lib.hid (show N64 w' (v 4) (d) from hJ.out.fact 4 (by kernel_rfl))
      go_wp2_with fail
      with_reducible refine (HBD.out _ _ X0.out).mono ?_
      rintro e w1 ⟨rfl, hb⟩
      go_wp2_with fail
      exact ⟨rfl, rfl, hJ.out.call (by rfl) hb (rfl)⟩
    simp only [Act.put, List.setIfInBounds_toArray, List.set_cons_zero, List.set_cons_succ, Nat.reduceAdd]
    refine Steps.held ?_ ?_
    · intro L v w' hJ
      have hv2 : v 2 = .int .i64 (p : Int) := hJ.out.fact 2 (by kernel_rfl)
      simp only [hv2]
      clear hv2
      have hv5 : v 5 = .int .i64 (q : Int) := hJ.out.fact 5 (by kernel_rfl)
      simp only [hv5]
      clear hv5
      go_wp2_with fail
      exact ⟨rfl, rfl, hJ.out.same (by rfl) (rfl)⟩
    simp only [Act.put, List.setIfInBounds_toArray, List.set_cons_zero, List.set_cons_succ, Nat.reduceAdd]
    refine Steps.held ?_ ?_
    · intro L v w' hJ
      have hv6 : v 6 = .int .i64 kk := hJ.out.fact 6 (by kernel_rfl)
      simp only [hv6]
      clear hv6
      go_wp2_with fail
      exact ⟨rfl, rfl, hJ.out.same (by rfl) (rfl)⟩
    simp only [Act.put, List.setIfInBounds_toArray, List.set_cons_zero, List.set_cons_succ, Nat.reduceAdd]
    refine Steps.nil ?_
    intro v w' hJ
    have h7 : v 7 = .int .i64 kk := hJ.end_fact 7 (by decide)
    simp only [h7]
    clear h7
    have hbr := hJ.but.below
    replace Ha := Lib.hid (Ha.out.below hbr)
    replace E0 := Lib.hid (blk_below E0.out hbr)
    replace HB0 := Lib.hid (cbt HB0.out hbr)
    clear hJ hbr
    clear hkk hbn hbd
    go_wp2_with fail
    let FS : List Kept1 := [.f (n) (d), .n (n), .eq (.int .i64 kk), .eq (.int .i64 (-kk)), .n (N'), .f (n) (d), .n (d), .eq (.int .i64 kk), .n (D'), .eq (.int .i64 (cc)), .eq (.bool false)]
    refine region_mono (Held w' (fun j => FS.getD j .any) []) (by kernel_rfl) (by kernel_rfl) (by kernel_rfl) (Held.start _ _ _ (by simp) (by simp)) ?_
    refine Steps.held ?_ ?_
    · intro L v w' hJ
      have kb := hJ.out.blk E0.out (by simp [oldsOf])
      have k0 := kb.cell 0
      have k1 := kb.cell 1
      clear kb
      go_wp2_with fail
      exact ⟨rfl, rfl, hJ.out.same (by rfl) (Ha.out.keep hJ.out.held.keep)⟩
    simp only [Act.put, List.setIfInBounds_toArray, List.set_cons_zero, List.set_cons_succ, Nat.reduceAdd]
    refine Steps.held ?_ ?_
    · intro L v w' hJ
      have X0 := Lib.hid (show F64 w' (v 0) (n) (d) from hJ.out.fact 0 (by kernel_rfl))
      go_wp2_with fail
      with_reducible refine (HNU.out _ _ _ _ X0.out).mono ?_
      rintro e w1 ⟨u, rfl, hu, hb⟩
      go_wp2_with fail
      exact ⟨rfl, rfl, hJ.out.call (by rfl) hb (hu)⟩
    simp only [Act.put, List.setIfInBounds_toArray, List.set_cons_zero, List.set_cons_succ, Nat.reduceAdd]
    refine Steps.held ?_ ?_
    · intro L v w' hJ
      go_wp2_with fail
      exact ⟨rfl, rfl, hJ.out.same (by rfl) (rfl)⟩
    simp only [Act.put, List.setIfInBounds_toArray, List.set_cons_zero, List.set_cons_succ, Nat.reduceAdd]
    refine Steps.held ?_ ?_
    · intro L v w' hJ
      have hv2 : v 2 = .int .i64 kk := hJ.out.fact 2 (by kernel_rfl)
      simp only [hv2]
      clear hv2
      go_wp2_with fail
      exact ⟨rfl, rfl, hJ.out.same (by rfl) (rfl)⟩
    simp only [Act.put, List.setIfInBounds_toArray, List.set_cons_zero, List.set_cons_succ, Nat.reduceAdd]
    refine Steps.held ?_ ?_
    · intro L v w' hJ
      have hv3 : v 3 = .int .i64 (-kk) := hJ.out.fact 3 (by kernel_rfl)
      simp only [hv3]
      clear hv3
      have X0 := Lib.hid (show N64 w' (v 1) (n) from hJ.out.fact 1 (by kernel_rfl))
      go_wp2_with fail
      with_reducible refine (HU1.out _ _ X0.out).mono ?_
      rintro e w1 ⟨u, rfl, hu, hb⟩
      go_wp2_with fail
      exact ⟨rfl, rfl, hJ.out.call (by rfl) hb (hu)⟩
    simp only [Act.put, List.setIfInBounds_toArray, List.set_cons_zero, List.set_cons_succ, Nat.reduceAdd]
    refine Steps.held ?_ ?_
    · intro L v w' hJ
      have kb := hJ.out.blk E0.out (by simp [oldsOf])
      have k0 := kb.cell 0
      have k1 := kb.cell 1
      clear kb
      go_wp2_with fail
      exact ⟨rfl, rfl, hJ.out.same (by rfl) (Ha.out.keep hJ.out.held.keep)⟩
    simp only [Act.put, List.setIfInBounds_toArray, List.set_cons_zero, List.set_cons_succ, Nat.reduceAdd]
    refine Steps.held ?_ ?_
    · intro L v w' hJ
      have X0 := Lib.hid (show F64 w' (v 5) (n) (d) from hJ.out.fact 5 (by kernel_rfl))
      go_wp2_with fail
      with_reducible refine (HDE.out _ _ _ _ X0.out).mono ?_
      rintro e w1 ⟨u, rfl, hu, hb⟩
      go_wp2_with fail
      exact ⟨rfl, rfl, hJ.out.call (by rfl) hb (hu)⟩
    simp only [Act.put, List.setIfInBounds_toArray, List.set_cons_zero, List.set_cons_succ, Nat.reduceAdd]
    refine Steps.held ?_ ?_
    · intro L v w' hJ
      go_wp2_with fail
      exact ⟨rfl, rfl, hJ.out.same (by rfl) (rfl)⟩
    simp only [Act.put, List.setIfInBounds_toArray, List.set_cons_zero, List.set_cons_succ, Nat.reduceAdd]
    refine Steps.held ?_ ?_
    · intro L v w' hJ
      have hv7 : v 7 = .int .i64 kk := hJ.out.fact 7 (by kernel_rfl)
      simp only [hv7]
      clear hv7
      have X0 := Lib.hid (show N64 w' (v 6) (d) from hJ.out.fact 6 (by kernel_rfl))
      go_wp2_with fail
      with_reducible refine (HU2.out _ _ X0.out).mono ?_
      rintro e w1 ⟨u, rfl, hu, hb⟩
      go_wp2_with fail
      exact ⟨rfl, rfl, hJ.out.call (by rfl) hb (hu)⟩
    simp only [Act.put, List.setIfInBounds_toArray, List.set_cons_zero, List.set_cons_succ, Nat.reduceAdd]
    refine Steps.held ?_ ?_
    · intro L v w' hJ
      have X0 := Lib.hid (show N64 w' (v 4) (N') from hJ.out.fact 4 (by kernel_rfl))
      have X1 := Lib.hid (show N64 w' (v 8) (D') from hJ.out.fact 8 (by kernel_rfl))
      go_wp2_with fail
      with_reducible refine (HCM.out _ _ _ X0.out X1.out).mono ?_
      rintro e w1 ⟨rfl, hb⟩
      go_wp2_with fail
      exact ⟨rfl, rfl, hJ.out.call (by rfl) hb (rfl)⟩
    simp only [Act.put, List.setIfInBounds_toArray, List.set_cons_zero, List.set_cons_succ, Nat.reduceAdd]
    refine Steps.held ?_ ?_
    · intro L v w' hJ
      have hv9 : v 9 = .int .i64 (cc) := hJ.out.fact 9 (by kernel_rfl)
      simp only [hv9]
      clear hv9
      go_wp2_with fail
      exact ⟨rfl, rfl, hJ.out.same (by rfl) (rfl)⟩
    simp only [Act.put, List.setIfInBounds_toArray, List.set_cons_zero, List.set_cons_succ, Nat.reduceAdd]
    refine Steps.nil ?_
    intro v w' hJ
    have h10 : v 10 = .bool false := hJ.end_fact 10 (by decide)
    simp only [h10]
    clear h10
    have hbr := hJ.but.below
    replace Ha := Lib.hid (Ha.out.below hbr)
    replace E0 := Lib.hid (blk_below E0.out hbr)
    replace HB0 := Lib.hid (cbt HB0.out hbr)
    clear hJ hbr
    go_wp2_with fail
    exact bodyPost_ret (v := .tuple #[.int .i64 kk, .int .i64 0]) (by simp [results, Try.results39, go_sem]) rfl ⟨by rw [HW2.out], HB0.out⟩
set_option maxRecDepth 100000 in
set_option maxHeartbeats 4000000 in
theorem lscaled_any (va : Value) (n d m : Nat) (k : Int) (D : Nat) (w : World) (ha : F64 w va n d) (hd0 : 0 < d) (hn : n < 2 ^ m) (hd : d < 2 ^ m) (hm : m ≤ 20000) (hk1 : -20000 ≤ k) (hk2 : k ≤ 20000) (hD : D ≤ 200000000) :
    Calls Try.prog 110 #[va, .int .i64 k, .int .i64 (D : Nat)] w fun x w' => ∃ v, x = .returned (.tuple #[v, .bool (!decide (n * 2 ^ (-k).toNat * 2 ^ D % (d * 2 ^ k.toNat) = 0))]) ∧ N64 w' v (n * 2 ^ (-k).toNat * 2 ^ D / (d * 2 ^ k.toNat)) ∧ Below w.heap.size w w' := by
  have Ha := Lib.hid ha
  obtain ⟨Pa, pa, ca, Qa, qa, ea, xa, rfl, _, _, _⟩ := ha
  have HNU := Lib.hid num_any
  have HDE := Lib.hid den_any
  obtain ⟨j1, hj1⟩ : ∃ j, (-k).toNat + D = j := ⟨_, rfl⟩
  obtain ⟨j2, hj2⟩ : ∃ j, k.toNat = j := ⟨_, rfl⟩
  obtain ⟨kmn, hmn⟩ : ∃ j, min k 0 = j := ⟨_, rfl⟩
  have hmx : max k 0 = (j2 : Int) := by omega
  have hsub : (D : Int) - kmn = (j1 : Int) := by omega
  have hb1 : -20000 ≤ kmn := by omega
  have hb2 : kmn ≤ 0 := by omega
  have hP : n * 2 ^ (-k).toNat * 2 ^ D = n * 2 ^ j1 := by rw [Nat.mul_assoc, ← Nat.pow_add, hj1]
  rw [hP, hj2]
  have hs1 := wl_shl (j := j1) hn
  have hs2 := wl_shl (j := j2) hd
  have hwn := wl_bits hn
  have hwd := wl_bits hd
  have HU1 := Lib.hid (fun v W h => nup_any v n W h (by omega) (j1 : Int) (by omega))
  have HU2 := Lib.hid (fun v W h => nup_any v d W h (by omega) (j2 : Int) (by omega))
  rw [Int.toNat_natCast] at HU1 HU2
  have hq0 : 0 < d * 2 ^ j2 := Nat.mul_pos hd0 (Nat.two_pow_pos _)
  have HDV := Lib.hid (fun va vb W h1 h2 => ndiv_any va vb (n * 2 ^ j1) (d * 2 ^ j2) W h1 h2 (by omega) hq0)
  obtain ⟨X, hX⟩ : ∃ p, n * 2 ^ j1 = p := ⟨_, rfl⟩
  obtain ⟨Y, hY⟩ : ∃ p, d * 2 ^ j2 = p := ⟨_, rfl⟩
  rw [hX] at HU1 HDV ⊢
  rw [hY] at HU2 HDV ⊢
  obtain ⟨q, hq⟩ : ∃ p, X / Y = p := ⟨_, rfl⟩
  obtain ⟨r, hr⟩ : ∃ p, X % Y = p := ⟨_, rfl⟩
  rw [hq, hr] at HDV ⊢
  clear hP hs1 hs2 hwn hwd hq0 hX hY hq hr hn hd hm hd0 hj2
  by_cases hr0 : r = 0
  · have HZ := Lib.hid (fun v W h => zero_eq v r W h hr0)
    rw [decide_eq_true hr0]
    clear hr0
    have e0 := (Blk.new (w) 47 #[(.slice Pa pa ca), (.slice Qa qa ea)]).alloc (.cells #[(.slice none 0 0)] 26)
    have e1 := Blk.new ((w).alloc (.cells #[(.slice Pa pa ca), (.slice Qa qa ea)] 47)) 26 #[(.slice none 0 0)]
    have hb := cba (cba (Below.refl _ w) (.cells #[(.slice Pa pa ca), (.slice Qa qa ea)] 47)) (.cells #[(.slice none 0 0)] 26)
    simp only [World.size_alloc] at e1
    have hsz : w.heap.size ≤ w.heap.size := Nat.le_refl _
    go_enter Try.func110, Try.ntmps110
    go_upto_region 1 with (fail)
    obtain ⟨S, hS⟩ : ∃ S, ((w).alloc (.cells #[(.slice Pa pa ca), (.slice Qa qa ea)] 47)).alloc (.cells #[(.slice none 0 0)] 26) = S := ⟨_, rfl⟩
    rw [hS] at e0 e1 hb ⊢
    replace Ha := Lib.hid (Ha.out.below hb)
    have HB0 := Lib.hid hb
    have E0 := Lib.hid e0
    have E1 := Lib.hid e1
    clear hS hb hsz e0 e1
    go_wp2_with fail
    let FS : List Kept1 := [.f (n) (d), .n (n), .eq (.int .i64 (D : Int)), .eq (.int .i64 k), .eq (.int .i64 kmn), .eq (.int .i64 (j1 : Int)), .n (X), .f (n) (d), .n (d), .eq (.int .i64 k), .eq (.int .i64 (j2 : Int)), .n (Y), .three (.n (q)) (.n (r)) (.eq (.int .i64 0)), .three (.n (q)) (.n (r)) (.eq (.int .i64 0)), .n (q), .n (r), .eq (.int .i64 0), .any, .any, .any, .any, .eq (.int .i64 0)]
    let BS : List Bx := [Bx.nat (.inl 17) 19 #[.slice none 0 0] (q), Bx.nat (.inl 18) 20 #[.slice none 0 0] (r)]
    refine region_mono (Held S (fun j => FS.getD j .any) BS) (by kernel_rfl) (by kernel_rfl) (by kernel_rfl) (Held.start _ _ _ (by simp [BS, Bx.nat, Bx.rat, Bx.ref]) (by simp [BS, Bx.nat, Bx.rat, Bx.ref])) ?_
    refine Steps.held ?_ ?_
    · intro L v w' hJ
      have kb := hJ.out.blk E0.out (by simp [oldsOf, BS, Bx.nat, Bx.rat, Bx.ref])
      have k0 := kb.cell 0
      have k1 := kb.cell 1
      clear kb
      go_wp2_with fail
      exact ⟨rfl, rfl, hJ.out.same (by rfl) (Ha.out.keep hJ.out.held.keep)⟩
    simp only [Act.put, List.setIfInBounds_toArray, List.set_cons_zero, List.set_cons_succ, Nat.reduceAdd]
    refine Steps.held ?_ ?_
    · intro L v w' hJ
      have X0 := Lib.hid (show F64 w' (v 0) (n) (d) from hJ.out.fact 0 (by kernel_rfl))
      go_wp2_with fail
      with_reducible refine (HNU.out _ _ _ _ X0.out).mono ?_
      rintro e w1 ⟨u, rfl, hu, hb⟩
      go_wp2_with fail
      exact ⟨rfl, rfl, hJ.out.call (by rfl) hb (hu)⟩
    simp only [Act.put, List.setIfInBounds_toArray, List.set_cons_zero, List.set_cons_succ, Nat.reduceAdd]
    refine Steps.held ?_ ?_
    · intro L v w' hJ
      go_wp2_with fail
      exact ⟨rfl, rfl, hJ.out.same (by rfl) (rfl)⟩
    simp only [Act.put, List.setIfInBounds_toArray, List.set_cons_zero, List.set_cons_succ, Nat.reduceAdd]
    refine Steps.held ?_ ?_
    · intro L v w' hJ
      go_wp2_with fail
      exact ⟨rfl, rfl, hJ.out.same (by rfl) (rfl)⟩
    simp only [Act.put, List.setIfInBounds_toArray, List.set_cons_zero, List.set_cons_succ, Nat.reduceAdd]
    refine Steps.held ?_ ?_
    · intro L v w' hJ
      have hv3 : v 3 = .int .i64 k := hJ.out.fact 3 (by kernel_rfl)
      simp only [hv3]
      clear hv3
      go_wp2_with fail
      exact ⟨rfl, rfl, hJ.out.same (by rfl) (rfl)⟩
    simp only [Act.put, List.setIfInBounds_toArray, List.set_cons_zero, List.set_cons_succ, Nat.reduceAdd]
    refine Steps.held ?_ ?_
    · intro L v w' hJ
      have hv2 : v 2 = .int .i64 (D : Int) := hJ.out.fact 2 (by kernel_rfl)
      simp only [hv2]
      clear hv2
      have hv4 : v 4 = .int .i64 kmn := hJ.out.fact 4 (by kernel_rfl)
      simp only [hv4]
      clear hv4
      go_wp2_with fail
      exact ⟨rfl, rfl, hJ.out.same (by rfl) (rfl)⟩
    simp only [Act.put, List.setIfInBounds_toArray, List.set_cons_zero, List.set_cons_succ, Nat.reduceAdd]
    refine Steps.held ?_ ?_
    · intro L v w' hJ
      have hv5 : v 5 = .int .i64 (j1 : Int) := hJ.out.fact 5 (by kernel_rfl)
      simp only [hv5]
      clear hv5
      have X0 := Lib.hid (show N64 w' (v 1) (n) from hJ.out.fact 1 (by kernel_rfl))
      go_wp2_with fail
      with_reducible refine (HU1.out _ _ X0.out).mono ?_
      rintro e w1 ⟨u, rfl, hu, hb⟩
      go_wp2_with fail
      exact ⟨rfl, rfl, hJ.out.call (by rfl) hb (hu)⟩
    simp only [Act.put, List.setIfInBounds_toArray, List.set_cons_zero, List.set_cons_succ, Nat.reduceAdd]
    refine Steps.held ?_ ?_
    · intro L v w' hJ
      have kb := hJ.out.blk E0.out (by simp [oldsOf, BS, Bx.nat, Bx.rat, Bx.ref])
      have k0 := kb.cell 0
      have k1 := kb.cell 1
      clear kb
      go_wp2_with fail
      exact ⟨rfl, rfl, hJ.out.same (by rfl) (Ha.out.keep hJ.out.held.keep)⟩
    simp only [Act.put, List.setIfInBounds_toArray, List.set_cons_zero, List.set_cons_succ, Nat.reduceAdd]
    refine Steps.held ?_ ?_
    · intro L v w' hJ
      have X0 := Lib.hid (show F64 w' (v 7) (n) (d) from hJ.out.fact 7 (by kernel_rfl))
      go_wp2_with fail
      with_reducible refine (HDE.out _ _ _ _ X0.out).mono ?_
      rintro e w1 ⟨u, rfl, hu, hb⟩
      go_wp2_with fail
      exact ⟨rfl, rfl, hJ.out.call (by rfl) hb (hu)⟩
    simp only [Act.put, List.setIfInBounds_toArray, List.set_cons_zero, List.set_cons_succ, Nat.reduceAdd]
    refine Steps.held ?_ ?_
    · intro L v w' hJ
      go_wp2_with fail
      exact ⟨rfl, rfl, hJ.out.same (by rfl) (rfl)⟩
    simp only [Act.put, List.setIfInBounds_toArray, List.set_cons_zero, List.set_cons_succ, Nat.reduceAdd]
    refine Steps.held ?_ ?_
    · intro L v w' hJ
      have hv9 : v 9 = .int .i64 k := hJ.out.fact 9 (by kernel_rfl)
      simp only [hv9]
      clear hv9
      go_wp2_with fail
      exact ⟨rfl, rfl, hJ.out.same (by rfl) (rfl)⟩
    simp only [Act.put, List.setIfInBounds_toArray, List.set_cons_zero, List.set_cons_succ, Nat.reduceAdd]
    refine Steps.held ?_ ?_
    · intro L v w' hJ
      have hv10 : v 10 = .int .i64 (j2 : Int) := hJ.out.fact 10 (by kernel_rfl)
      simp only [hv10]
      clear hv10
      have X0 := Lib.hid (show N64 w' (v 8) (d) from hJ.out.fact 8 (by kernel_rfl))
      go_wp2_with fail
      with_reducible refine (HU2.out _ _ X0.out).mono ?_
      rintro e w1 ⟨u, rfl, hu, hb⟩
      go_wp2_with fail
      exact ⟨rfl, rfl, hJ.out.call (by rfl) hb (hu)⟩
    simp only [Act.put, List.setIfInBounds_toArray, List.set_cons_zero, List.set_cons_succ, Nat.reduceAdd]
    refine Steps.held ?_ ?_
    · intro L v w' hJ
      have X0 := Lib.hid (show N64 w' (v 6) (X) from hJ.out.fact 6 (by kernel_rfl))
      have X1 := Lib.hid (show N64 w' (v 11) (Y) from hJ.out.fact 11 (by kernel_rfl))
      go_wp2_with fail
      with_reducible refine (HDV.out _ _ _ X0.out X1.out).mono ?_
      rintro e w1 ⟨q, r, rfl, hq, hr, hb⟩
      go_wp2_with fail
      exact ⟨rfl, rfl, hJ.out.call (by rfl) hb (⟨_, _, _, rfl, hq, hr, rfl⟩)⟩
    simp only [Act.put, List.setIfInBounds_toArray, List.set_cons_zero, List.set_cons_succ, Nat.reduceAdd]
    refine Steps.held ?_ ?_
    · intro L v w' hJ
      go_wp2_with fail
      exact ⟨rfl, rfl, hJ.out.same (by rfl) (hJ.out.fact 12 (by kernel_rfl))⟩
    simp only [Act.put, List.setIfInBounds_toArray, List.set_cons_zero, List.set_cons_succ, Nat.reduceAdd]
    refine Steps.held ?_ ?_
    · intro L v w' hJ
      obtain ⟨x0, x1, x2, hv, h0, h1, h2⟩ := hJ.out.fact 13 (by kernel_rfl)
      simp only [hv]
      clear hv
      go_wp2_with fail
      exact ⟨rfl, rfl, hJ.out.same (by rfl) (h0)⟩
    simp only [Act.put, List.setIfInBounds_toArray, List.set_cons_zero, List.set_cons_succ, Nat.reduceAdd]
    refine Steps.held ?_ ?_
    · intro L v w' hJ
      obtain ⟨x0, x1, x2, hv, h0, h1, h2⟩ := hJ.out.fact 13 (by kernel_rfl)
      simp only [hv]
      clear hv
      go_wp2_with fail
      exact ⟨rfl, rfl, hJ.out.same (by rfl) (h1)⟩
    simp only [Act.put, List.setIfInBounds_toArray, List.set_cons_zero, List.set_cons_succ, Nat.reduceAdd]
    refine Steps.held ?_ ?_
    · intro L v w' hJ
      obtain ⟨x0, x1, x2, hv, h0, h1, h2⟩ := hJ.out.fact 13 (by kernel_rfl)
      simp only [hv]
      clear hv
      go_wp2_with fail
      exact ⟨rfl, rfl, hJ.out.same (by rfl) (h2)⟩
    simp only [Act.put, List.setIfInBounds_toArray, List.set_cons_zero, List.set_cons_succ, Nat.reduceAdd]
    refine Steps.held ?_ ?_
    · intro L v w' hJ
      go_wp2_with fail
      exact ⟨rfl, rfl, hJ.out.made 0 _ rfl rfl (by rfl) trivial⟩
    simp only [Act.put, List.setIfInBounds_toArray, List.set_cons_zero, List.set_cons_succ, Nat.reduceAdd]
    refine Steps.held ?_ ?_
    · intro L v w' hJ
      go_wp2_with fail
      exact ⟨rfl, rfl, hJ.out.made 1 _ rfl rfl (by rfl) trivial⟩
    simp only [Act.put, List.setIfInBounds_toArray, List.set_cons_zero, List.set_cons_succ, Nat.reduceAdd]
    refine Steps.held ?_ ?_
    · intro L v w' hJ
      obtain ⟨g, hg, hge, hown, hst⟩ := hJ.out.newbox 0 _ rfl 17 rfl (by kernel_rfl)
      have hN : N64 w' (v 14) (q) := hJ.out.fact 14 (by kernel_rfl)
      obtain ⟨P, c, hv, h1, h2, h3⟩ := hN
      have HN := Lib.hid (show N64 w' (.agg #[.slice P (wl 64 (q)) c]) (q) from ⟨P, c, rfl, h1, h2, h3⟩)
      have kb := hJ.out.box 0 _ rfl rfl g hown
      have k0 : w'.cell? ⟨g, 0, none⟩ = some (.slice none 0 0) := kb.cell 0
      have f0 := kb.frozen 0
      have HO := Lib.hid hown
      have HS := Lib.hid hst
      clear kb h1 h2 h3 hown hst
      simp only [hg, hv]
      clear hg hv
      go_wp2_with fail
      exact ⟨rfl, rfl, hJ.out.fill1 0 _ rfl rfl (by rfl) g HO.out HS.out _ rfl rfl (fun W k => ⟨P, c, rfl, HN.out.keep k⟩) (fun _ => trivial)⟩
    simp only [Act.put, List.setIfInBounds_toArray, List.set_cons_zero, List.set_cons_succ, Nat.reduceAdd]
    refine Steps.held ?_ ?_
    · intro L v w' hJ
      obtain ⟨g, hg, hge, hown, hst⟩ := hJ.out.newbox 1 _ rfl 18 rfl (by kernel_rfl)
      have hN : N64 w' (v 15) (r) := hJ.out.fact 15 (by kernel_rfl)
      obtain ⟨P, c, hv, h1, h2, h3⟩ := hN
      have HN := Lib.hid (show N64 w' (.agg #[.slice P (wl 64 (r)) c]) (r) from ⟨P, c, rfl, h1, h2, h3⟩)
      have kb := hJ.out.box 1 _ rfl rfl g hown
      have k0 : w'.cell? ⟨g, 0, none⟩ = some (.slice none 0 0) := kb.cell 0
      have f0 := kb.frozen 0
      have HO := Lib.hid hown
      have HS := Lib.hid hst
      clear kb h1 h2 h3 hown hst
      simp only [hg, hv]
      clear hg hv
      go_wp2_with fail
      exact ⟨rfl, rfl, hJ.out.fill1 1 _ rfl rfl (by rfl) g HO.out HS.out _ rfl rfl (fun W k => ⟨P, c, rfl, HN.out.keep k⟩) (fun _ => trivial)⟩
    simp only [Act.put, List.setIfInBounds_toArray, List.set_cons_zero, List.set_cons_succ, Nat.reduceAdd]
    refine Steps.held ?_ ?_
    · intro L v w' hJ
      have hv16 : v 16 = .int .i64 0 := hJ.out.fact 16 (by kernel_rfl)
      simp only [hv16]
      clear hv16
      go_wp2_with fail
      exact ⟨rfl, rfl, hJ.out.same (by rfl) (rfl)⟩
    simp only [Act.put, List.setIfInBounds_toArray, List.set_cons_zero, List.set_cons_succ, Nat.reduceAdd]
    refine Steps.nil ?_
    intro v w' hJ
    obtain ⟨g8, cs17, hv17, hge17, hb17, A17, c17, rfl, hn17⟩ := hJ.end_new 0 _ rfl 17 rfl (by decide) (Nat.le_of_ble_eq_true rfl)
    simp only [hv17]
    have E8 := Lib.hid (show Blk _ _ 26 _ from hb17)
    have NE8 := Lib.hid hn17
    clear hv17 hb17 hn17
    obtain ⟨g9, cs18, hv18, hge18, hb18, A18, c18, rfl, hn18⟩ := hJ.end_new 1 _ rfl 18 rfl (by decide) (Nat.le_of_ble_eq_true rfl)
    simp only [hv18]
    have E9 := Lib.hid (show Blk _ _ 26 _ from hb18)
    have NE9 := Lib.hid hn18
    clear hv18 hb18 hn18
    have h21 : v 21 = .int .i64 0 := hJ.end_fact 21 (by decide)
    simp only [h21]
    clear h21
    have hlt1 := E1.out.lt
    have hbr := hJ.but.below
    replace Ha := Lib.hid (Ha.out.below hbr)
    replace E0 := Lib.hid (blk_below E0.out hbr)
    replace E1 := Lib.hid (blk_below E1.out hbr)
    replace HB0 := Lib.hid (cbt HB0.out hbr)
    clear hJ hbr
    clear hmn hmx hsub hb1 hb2 hk1 hk2 hD hj1
    go_wp2_with fail
    let FS : List Kept1 := [.n (q), .n (r), .eq (.bool true), .eq (.bool false), .any, .eq (.bool false)]
    let BS : List Bx := [Bx.nat (.inr (w.heap.size + 1)) 4 #[(.slice none 0 0)] (q)]
    refine region_mono (Held w' (fun j => FS.getD j .any) BS) (by kernel_rfl) (by kernel_rfl) (by kernel_rfl) (Held.start _ _ _ (by simp [BS, Bx.nat, Bx.rat, Bx.ref] <;> exact E1.out) (by simp [BS, Bx.nat, Bx.rat, Bx.ref])) ?_
    refine Steps.held ?_ ?_
    · intro L v w' hJ
      have kb := hJ.out.blk E8.out (by simp [oldsOf, BS, Bx.nat, Bx.rat, Bx.ref] <;> omega)
      have k0 := kb.cell 0
      clear kb
      go_wp2_with fail
      exact ⟨rfl, rfl, hJ.out.same (by rfl) (NE8.out.keep hJ.out.held.keep)⟩
    simp only [Act.put, List.setIfInBounds_toArray, List.set_cons_zero, List.set_cons_succ, Nat.reduceAdd]
    refine Steps.held ?_ ?_
    · intro L v w' hJ
      have kb := hJ.out.blk E9.out (by simp [oldsOf, BS, Bx.nat, Bx.rat, Bx.ref] <;> omega)
      have k0 := kb.cell 0
      clear kb
      go_wp2_with fail
      exact ⟨rfl, rfl, hJ.out.same (by rfl) (NE9.out.keep hJ.out.held.keep)⟩
    simp only [Act.put, List.setIfInBounds_toArray, List.set_cons_zero, List.set_cons_succ, Nat.reduceAdd]
    refine Steps.held ?_ ?_
    · intro L v w' hJ
      have X0 := Lib.hid (show N64 w' (v 1) (r) from hJ.out.fact 1 (by kernel_rfl))
      go_wp2_with fail
      with_reducible refine (HZ.out _ _ X0.out).mono ?_
      rintro e w1 ⟨rfl, hb⟩
      go_wp2_with fail
      exact ⟨rfl, rfl, hJ.out.call (by rfl) hb (rfl)⟩
    simp only [Act.put, List.setIfInBounds_toArray, List.set_cons_zero, List.set_cons_succ, Nat.reduceAdd]
    refine Steps.held ?_ ?_
    · intro L v w' hJ
      have hv2 : v 2 = .bool true := hJ.out.fact 2 (by kernel_rfl)
      simp only [hv2]
      clear hv2
      go_wp2_with fail
      exact ⟨rfl, rfl, hJ.out.same (by rfl) (rfl)⟩
    simp only [Act.put, List.setIfInBounds_toArray, List.set_cons_zero, List.set_cons_succ, Nat.reduceAdd]
    refine Steps.held ?_ ?_
    · intro L v w' hJ
      obtain ⟨hown, hst⟩ := hJ.out.oldbox 0 _ rfl (w.heap.size + 1) rfl
      have hN : N64 w' (v 0) (q) := hJ.out.fact 0 (by kernel_rfl)
      obtain ⟨P, c, hv, h1, h2, h3⟩ := hN
      have HN := Lib.hid (show N64 w' (.agg #[.slice P (wl 64 (q)) c]) (q) from ⟨P, c, rfl, h1, h2, h3⟩)
      have kb := hJ.out.box 0 _ rfl rfl (w.heap.size + 1) hown
      have k0 : w'.cell? ⟨(w.heap.size + 1), 0, none⟩ = some ((.slice none 0 0)) := kb.cell 0
      have f0 := kb.frozen 0
      have HO := Lib.hid hown
      have HS := Lib.hid hst
      clear kb h1 h2 h3 hown hst
      simp only [hv]
      clear hv
      go_wp2_with fail
      exact ⟨rfl, rfl, hJ.out.fill1 0 _ rfl rfl (by rfl) (w.heap.size + 1) HO.out HS.out _ rfl rfl (fun W k => ⟨P, c, rfl, HN.out.keep k⟩) (fun _ => trivial)⟩
    simp only [Act.put, List.setIfInBounds_toArray, List.set_cons_zero, List.set_cons_succ, Nat.reduceAdd]
    refine Steps.held ?_ ?_
    · intro L v w' hJ
      have hv3 : v 3 = .bool false := hJ.out.fact 3 (by kernel_rfl)
      simp only [hv3]
      clear hv3
      go_wp2_with fail
      exact ⟨rfl, rfl, hJ.out.same (by rfl) (rfl)⟩
    simp only [Act.put, List.setIfInBounds_toArray, List.set_cons_zero, List.set_cons_succ, Nat.reduceAdd]
    refine Steps.nil ?_
    intro v w' hJ
    obtain ⟨cs, hblk, hf⟩ := hJ.end_old 0 _ rfl (w.heap.size + 1) rfl (Nat.le_of_ble_eq_true rfl)
    obtain ⟨A1, c1, rfl, hN⟩ := hf
    have k0 := hblk.cell 0
    have h5 : v 5 = .bool false := hJ.end_fact 5 (by decide)
    simp only [h5]
    have hbw : Below w.heap.size w w' := hJ.but.to_below HB0.out HB0.out.size (by intro g hg; simp [oldsOf, BS, Bx.nat, Bx.rat, Bx.ref] at hg; subst hg; omega)
    have HX := Lib.hid (show ∃ v, Ending.returned (.tuple #[.agg #[.slice A1 (wl 64 q) c1], .bool false]) = .returned (.tuple #[v, .bool (!true)]) ∧ N64 w' v q ∧ Below w.heap.size w w' from ⟨_, rfl, hN, hbw⟩)
    clear hJ hbw hblk h5 hN
    go_wp2_with fail
    exact bodyPost_ret (v := .tuple #[.agg #[.slice A1 (wl 64 q) c1], .bool false]) (by simp [results, Try.results110, go_sem, k0]) rfl HX.out
  · have HZ := Lib.hid (fun v W h => zero_no v r W h (Nat.pos_of_ne_zero hr0))
    rw [decide_eq_false hr0]
    clear hr0
    have e0 := (Blk.new (w) 47 #[(.slice Pa pa ca), (.slice Qa qa ea)]).alloc (.cells #[(.slice none 0 0)] 26)
    have e1 := Blk.new ((w).alloc (.cells #[(.slice Pa pa ca), (.slice Qa qa ea)] 47)) 26 #[(.slice none 0 0)]
    have hb := cba (cba (Below.refl _ w) (.cells #[(.slice Pa pa ca), (.slice Qa qa ea)] 47)) (.cells #[(.slice none 0 0)] 26)
    simp only [World.size_alloc] at e1
    have hsz : w.heap.size ≤ w.heap.size := Nat.le_refl _
    go_enter Try.func110, Try.ntmps110
    go_upto_region 1 with (fail)
    obtain ⟨S, hS⟩ : ∃ S, ((w).alloc (.cells #[(.slice Pa pa ca), (.slice Qa qa ea)] 47)).alloc (.cells #[(.slice none 0 0)] 26) = S := ⟨_, rfl⟩
    rw [hS] at e0 e1 hb ⊢
    replace Ha := Lib.hid (Ha.out.below hb)
    have HB0 := Lib.hid hb
    have E0 := Lib.hid e0
    have E1 := Lib.hid e1
    clear hS hb hsz e0 e1
    go_wp2_with fail
    let FS : List Kept1 := [.f (n) (d), .n (n), .eq (.int .i64 (D : Int)), .eq (.int .i64 k), .eq (.int .i64 kmn), .eq (.int .i64 (j1 : Int)), .n (X), .f (n) (d), .n (d), .eq (.int .i64 k), .eq (.int .i64 (j2 : Int)), .n (Y), .three (.n (q)) (.n (r)) (.eq (.int .i64 0)), .three (.n (q)) (.n (r)) (.eq (.int .i64 0)), .n (q), .n (r), .eq (.int .i64 0), .any, .any, .any, .any, .eq (.int .i64 0)]
    let BS : List Bx := [Bx.nat (.inl 17) 19 #[.slice none 0 0] (q), Bx.nat (.inl 18) 20 #[.slice none 0 0] (r)]
    refine region_mono (Held S (fun j => FS.getD j .any) BS) (by kernel_rfl) (by kernel_rfl) (by kernel_rfl) (Held.start _ _ _ (by simp [BS, Bx.nat, Bx.rat, Bx.ref]) (by simp [BS, Bx.nat, Bx.rat, Bx.ref])) ?_
    refine Steps.held ?_ ?_
    · intro L v w' hJ
      have kb := hJ.out.blk E0.out (by simp [oldsOf, BS, Bx.nat, Bx.rat, Bx.ref])
      have k0 := kb.cell 0
      have k1 := kb.cell 1
      clear kb
      go_wp2_with fail
      exact ⟨rfl, rfl, hJ.out.same (by rfl) (Ha.out.keep hJ.out.held.keep)⟩
    simp only [Act.put, List.setIfInBounds_toArray, List.set_cons_zero, List.set_cons_succ, Nat.reduceAdd]
    refine Steps.held ?_ ?_
    · intro L v w' hJ
      have X0 := Lib.hid (show F64 w' (v 0) (n) (d) from hJ.out.fact 0 (by kernel_rfl))
      go_wp2_with fail
      with_reducible refine (HNU.out _ _ _ _ X0.out).mono ?_
      rintro e w1 ⟨u, rfl, hu, hb⟩
      go_wp2_with fail
      exact ⟨rfl, rfl, hJ.out.call (by rfl) hb (hu)⟩
    simp only [Act.put, List.setIfInBounds_toArray, List.set_cons_zero, List.set_cons_succ, Nat.reduceAdd]
    refine Steps.held ?_ ?_
    · intro L v w' hJ
      go_wp2_with fail
      exact ⟨rfl, rfl, hJ.out.same (by rfl) (rfl)⟩
    simp only [Act.put, List.setIfInBounds_toArray, List.set_cons_zero, List.set_cons_succ, Nat.reduceAdd]
    refine Steps.held ?_ ?_
    · intro L v w' hJ
      go_wp2_with fail
      exact ⟨rfl, rfl, hJ.out.same (by rfl) (rfl)⟩
    simp only [Act.put, List.setIfInBounds_toArray, List.set_cons_zero, List.set_cons_succ, Nat.reduceAdd]
    refine Steps.held ?_ ?_
    · intro L v w' hJ
      have hv3 : v 3 = .int .i64 k := hJ.out.fact 3 (by kernel_rfl)
      simp only [hv3]
      clear hv3
      go_wp2_with fail
      exact ⟨rfl, rfl, hJ.out.same (by rfl) (rfl)⟩
    simp only [Act.put, List.setIfInBounds_toArray, List.set_cons_zero, List.set_cons_succ, Nat.reduceAdd]
    refine Steps.held ?_ ?_
    · intro L v w' hJ
      have hv2 : v 2 = .int .i64 (D : Int) := hJ.out.fact 2 (by kernel_rfl)
      simp only [hv2]
      clear hv2
      have hv4 : v 4 = .int .i64 kmn := hJ.out.fact 4 (by kernel_rfl)
      simp only [hv4]
      clear hv4
      go_wp2_with fail
      exact ⟨rfl, rfl, hJ.out.same (by rfl) (rfl)⟩
    simp only [Act.put, List.setIfInBounds_toArray, List.set_cons_zero, List.set_cons_succ, Nat.reduceAdd]
    refine Steps.held ?_ ?_
    · intro L v w' hJ
      have hv5 : v 5 = .int .i64 (j1 : Int) := hJ.out.fact 5 (by kernel_rfl)
      simp only [hv5]
      clear hv5
      have X0 := Lib.hid (show N64 w' (v 1) (n) from hJ.out.fact 1 (by kernel_rfl))
      go_wp2_with fail
      with_reducible refine (HU1.out _ _ X0.out).mono ?_
      rintro e w1 ⟨u, rfl, hu, hb⟩
      go_wp2_with fail
      exact ⟨rfl, rfl, hJ.out.call (by rfl) hb (hu)⟩
    simp only [Act.put, List.setIfInBounds_toArray, List.set_cons_zero, List.set_cons_succ, Nat.reduceAdd]
    refine Steps.held ?_ ?_
    · intro L v w' hJ
      have kb := hJ.out.blk E0.out (by simp [oldsOf, BS, Bx.nat, Bx.rat, Bx.ref])
      have k0 := kb.cell 0
      have k1 := kb.cell 1
      clear kb
      go_wp2_with fail
      exact ⟨rfl, rfl, hJ.out.same (by rfl) (Ha.out.keep hJ.out.held.keep)⟩
    simp only [Act.put, List.setIfInBounds_toArray, List.set_cons_zero, List.set_cons_succ, Nat.reduceAdd]
    refine Steps.held ?_ ?_
    · intro L v w' hJ
      have X0 := Lib.hid (show F64 w' (v 7) (n) (d) from hJ.out.fact 7 (by kernel_rfl))
      go_wp2_with fail
      with_reducible refine (HDE.out _ _ _ _ X0.out).mono ?_
      rintro e w1 ⟨u, rfl, hu, hb⟩
      go_wp2_with fail
      exact ⟨rfl, rfl, hJ.out.call (by rfl) hb (hu)⟩
    simp only [Act.put, List.setIfInBounds_toArray, List.set_cons_zero, List.set_cons_succ, Nat.reduceAdd]
    refine Steps.held ?_ ?_
    · intro L v w' hJ
      go_wp2_with fail
      exact ⟨rfl, rfl, hJ.out.same (by rfl) (rfl)⟩
    simp only [Act.put, List.setIfInBounds_toArray, List.set_cons_zero, List.set_cons_succ, Nat.reduceAdd]
    refine Steps.held ?_ ?_
    · intro L v w' hJ
      have hv9 : v 9 = .int .i64 k := hJ.out.fact 9 (by kernel_rfl)
      simp only [hv9]
      clear hv9
      go_wp2_with fail
      exact ⟨rfl, rfl, hJ.out.same (by rfl) (rfl)⟩
    simp only [Act.put, List.setIfInBounds_toArray, List.set_cons_zero, List.set_cons_succ, Nat.reduceAdd]
    refine Steps.held ?_ ?_
    · intro L v w' hJ
      have hv10 : v 10 = .int .i64 (j2 : Int) := hJ.out.fact 10 (by kernel_rfl)
      simp only [hv10]
      clear hv10
      have X0 := Lib.hid (show N64 w' (v 8) (d) from hJ.out.fact 8 (by kernel_rfl))
      go_wp2_with fail
      with_reducible refine (HU2.out _ _ X0.out).mono ?_
      rintro e w1 ⟨u, rfl, hu, hb⟩
      go_wp2_with fail
      exact ⟨rfl, rfl, hJ.out.call (by rfl) hb (hu)⟩
    simp only [Act.put, List.setIfInBounds_toArray, List.set_cons_zero, List.set_cons_succ, Nat.reduceAdd]
    refine Steps.held ?_ ?_
    · intro L v w' hJ
      have X0 := Lib.hid (show N64 w' (v 6) (X) from hJ.out.fact 6 (by kernel_rfl))
      have X1 := Lib.hid (show N64 w' (v 11) (Y) from hJ.out.fact 11 (by kernel_rfl))
      go_wp2_with fail
      with_reducible refine (HDV.out _ _ _ X0.out X1.out).mono ?_
      rintro e w1 ⟨q, r, rfl, hq, hr, hb⟩
      go_wp2_with fail
      exact ⟨rfl, rfl, hJ.out.call (by rfl) hb (⟨_, _, _, rfl, hq, hr, rfl⟩)⟩
    simp only [Act.put, List.setIfInBounds_toArray, List.set_cons_zero, List.set_cons_succ, Nat.reduceAdd]
    refine Steps.held ?_ ?_
    · intro L v w' hJ
      go_wp2_with fail
      exact ⟨rfl, rfl, hJ.out.same (by rfl) (hJ.out.fact 12 (by kernel_rfl))⟩
    simp only [Act.put, List.setIfInBounds_toArray, List.set_cons_zero, List.set_cons_succ, Nat.reduceAdd]
    refine Steps.held ?_ ?_
    · intro L v w' hJ
      obtain ⟨x0, x1, x2, hv, h0, h1, h2⟩ := hJ.out.fact 13 (by kernel_rfl)
      simp only [hv]
      clear hv
      go_wp2_with fail
      exact ⟨rfl, rfl, hJ.out.same (by rfl) (h0)⟩
    simp only [Act.put, List.setIfInBounds_toArray, List.set_cons_zero, List.set_cons_succ, Nat.reduceAdd]
    refine Steps.held ?_ ?_
    · intro L v w' hJ
      obtain ⟨x0, x1, x2, hv, h0, h1, h2⟩ := hJ.out.fact 13 (by kernel_rfl)
      simp only [hv]
      clear hv
      go_wp2_with fail
      exact ⟨rfl, rfl, hJ.out.same (by rfl) (h1)⟩
    simp only [Act.put, List.setIfInBounds_toArray, List.set_cons_zero, List.set_cons_succ, Nat.reduceAdd]
    refine Steps.held ?_ ?_
    · intro L v w' hJ
      obtain ⟨x0, x1, x2, hv, h0, h1, h2⟩ := hJ.out.fact 13 (by kernel_rfl)
      simp only [hv]
      clear hv
      go_wp2_with fail
      exact ⟨rfl, rfl, hJ.out.same (by rfl) (h2)⟩
    simp only [Act.put, List.setIfInBounds_toArray, List.set_cons_zero, List.set_cons_succ, Nat.reduceAdd]
    refine Steps.held ?_ ?_
    · intro L v w' hJ
      go_wp2_with fail
      exact ⟨rfl, rfl, hJ.out.made 0 _ rfl rfl (by rfl) trivial⟩
    simp only [Act.put, List.setIfInBounds_toArray, List.set_cons_zero, List.set_cons_succ, Nat.reduceAdd]
    refine Steps.held ?_ ?_
    · intro L v w' hJ
      go_wp2_with fail
      exact ⟨rfl, rfl, hJ.out.made 1 _ rfl rfl (by rfl) trivial⟩
    simp only [Act.put, List.setIfInBounds_toArray, List.set_cons_zero, List.set_cons_succ, Nat.reduceAdd]
    refine Steps.held ?_ ?_
    · intro L v w' hJ
      obtain ⟨g, hg, hge, hown, hst⟩ := hJ.out.newbox 0 _ rfl 17 rfl (by kernel_rfl)
      have hN : N64 w' (v 14) (q) := hJ.out.fact 14 (by kernel_rfl)
      obtain ⟨P, c, hv, h1, h2, h3⟩ := hN
      have HN := Lib.hid (show N64 w' (.agg #[.slice P (wl 64 (q)) c]) (q) from ⟨P, c, rfl, h1, h2, h3⟩)
      have kb := hJ.out.box 0 _ rfl rfl g hown
      have k0 : w'.cell? ⟨g, 0, none⟩ = some (.slice none 0 0) := kb.cell 0
      have f0 := kb.frozen 0
      have HO := Lib.hid hown
      have HS := Lib.hid hst
      clear kb h1 h2 h3 hown hst
      simp only [hg, hv]
      clear hg hv
      go_wp2_with fail
      exact ⟨rfl, rfl, hJ.out.fill1 0 _ rfl rfl (by rfl) g HO.out HS.out _ rfl rfl (fun W k => ⟨P, c, rfl, HN.out.keep k⟩) (fun _ => trivial)⟩
    simp only [Act.put, List.setIfInBounds_toArray, List.set_cons_zero, List.set_cons_succ, Nat.reduceAdd]
    refine Steps.held ?_ ?_
    · intro L v w' hJ
      obtain ⟨g, hg, hge, hown, hst⟩ := hJ.out.newbox 1 _ rfl 18 rfl (by kernel_rfl)
      have hN : N64 w' (v 15) (r) := hJ.out.fact 15 (by kernel_rfl)
      obtain ⟨P, c, hv, h1, h2, h3⟩ := hN
      have HN := Lib.hid (show N64 w' (.agg #[.slice P (wl 64 (r)) c]) (r) from ⟨P, c, rfl, h1, h2, h3⟩)
      have kb := hJ.out.box 1 _ rfl rfl g hown
      have k0 : w'.cell? ⟨g, 0, none⟩ = some (.slice none 0 0) := kb.cell 0
      have f0 := kb.frozen 0
      have HO := Lib.hid hown
      have HS := Lib.hid hst
      clear kb h1 h2 h3 hown hst
      simp only [hg, hv]
      clear hg hv
      go_wp2_with fail
      exact ⟨rfl, rfl, hJ.out.fill1 1 _ rfl rfl (by rfl) g HO.out HS.out _ rfl rfl (fun W k => ⟨P, c, rfl, HN.out.keep k⟩) (fun _ => trivial)⟩
    simp only [Act.put, List.setIfInBounds_toArray, List.set_cons_zero, List.set_cons_succ, Nat.reduceAdd]
    refine Steps.held ?_ ?_
    · intro L v w' hJ
      have hv16 : v 16 = .int .i64 0 := hJ.out.fact 16 (by kernel_rfl)
      simp only [hv16]
      clear hv16
      go_wp2_with fail
      exact ⟨rfl, rfl, hJ.out.same (by rfl) (rfl)⟩
    simp only [Act.put, List.setIfInBounds_toArray, List.set_cons_zero, List.set_cons_succ, Nat.reduceAdd]
    refine Steps.nil ?_
    intro v w' hJ
    obtain ⟨g8, cs17, hv17, hge17, hb17, A17, c17, rfl, hn17⟩ := hJ.end_new 0 _ rfl 17 rfl (by decide) (Nat.le_of_ble_eq_true rfl)
    simp only [hv17]
    have E8 := Lib.hid (show Blk _ _ 26 _ from hb17)
    have NE8 := Lib.hid hn17
    clear hv17 hb17 hn17
    obtain ⟨g9, cs18, hv18, hge18, hb18, A18, c18, rfl, hn18⟩ := hJ.end_new 1 _ rfl 18 rfl (by decide) (Nat.le_of_ble_eq_true rfl)
    simp only [hv18]
    have E9 := Lib.hid (show Blk _ _ 26 _ from hb18)
    have NE9 := Lib.hid hn18
    clear hv18 hb18 hn18
    have h21 : v 21 = .int .i64 0 := hJ.end_fact 21 (by decide)
    simp only [h21]
    clear h21
    have hlt1 := E1.out.lt
    have hbr := hJ.but.below
    replace Ha := Lib.hid (Ha.out.below hbr)
    replace E0 := Lib.hid (blk_below E0.out hbr)
    replace E1 := Lib.hid (blk_below E1.out hbr)
    replace HB0 := Lib.hid (cbt HB0.out hbr)
    clear hJ hbr
    clear hmn hmx hsub hb1 hb2 hk1 hk2 hD hj1
    go_wp2_with fail
    let FS : List Kept1 := [.n (q), .n (r), .eq (.bool false), .eq (.bool true), .any, .eq (.bool true)]
    let BS : List Bx := [Bx.nat (.inr (w.heap.size + 1)) 4 #[(.slice none 0 0)] (q)]
    refine region_mono (Held w' (fun j => FS.getD j .any) BS) (by kernel_rfl) (by kernel_rfl) (by kernel_rfl) (Held.start _ _ _ (by simp [BS, Bx.nat, Bx.rat, Bx.ref] <;> exact E1.out) (by simp [BS, Bx.nat, Bx.rat, Bx.ref])) ?_
    refine Steps.held ?_ ?_
    · intro L v w' hJ
      have kb := hJ.out.blk E8.out (by simp [oldsOf, BS, Bx.nat, Bx.rat, Bx.ref] <;> omega)
      have k0 := kb.cell 0
      clear kb
      go_wp2_with fail
      exact ⟨rfl, rfl, hJ.out.same (by rfl) (NE8.out.keep hJ.out.held.keep)⟩
    simp only [Act.put, List.setIfInBounds_toArray, List.set_cons_zero, List.set_cons_succ, Nat.reduceAdd]
    refine Steps.held ?_ ?_
    · intro L v w' hJ
      have kb := hJ.out.blk E9.out (by simp [oldsOf, BS, Bx.nat, Bx.rat, Bx.ref] <;> omega)
      have k0 := kb.cell 0
      clear kb
      go_wp2_with fail
      exact ⟨rfl, rfl, hJ.out.same (by rfl) (NE9.out.keep hJ.out.held.keep)⟩
    simp only [Act.put, List.setIfInBounds_toArray, List.set_cons_zero, List.set_cons_succ, Nat.reduceAdd]
    refine Steps.held ?_ ?_
    · intro L v w' hJ
      have X0 := Lib.hid (show N64 w' (v 1) (r) from hJ.out.fact 1 (by kernel_rfl))
      go_wp2_with fail
      with_reducible refine (HZ.out _ _ X0.out).mono ?_
      rintro e w1 ⟨rfl, hb⟩
      go_wp2_with fail
      exact ⟨rfl, rfl, hJ.out.call (by rfl) hb (rfl)⟩
    simp only [Act.put, List.setIfInBounds_toArray, List.set_cons_zero, List.set_cons_succ, Nat.reduceAdd]
    refine Steps.held ?_ ?_
    · intro L v w' hJ
      have hv2 : v 2 = .bool false := hJ.out.fact 2 (by kernel_rfl)
      simp only [hv2]
      clear hv2
      go_wp2_with fail
      exact ⟨rfl, rfl, hJ.out.same (by rfl) (rfl)⟩
    simp only [Act.put, List.setIfInBounds_toArray, List.set_cons_zero, List.set_cons_succ, Nat.reduceAdd]
    refine Steps.held ?_ ?_
    · intro L v w' hJ
      obtain ⟨hown, hst⟩ := hJ.out.oldbox 0 _ rfl (w.heap.size + 1) rfl
      have hN : N64 w' (v 0) (q) := hJ.out.fact 0 (by kernel_rfl)
      obtain ⟨P, c, hv, h1, h2, h3⟩ := hN
      have HN := Lib.hid (show N64 w' (.agg #[.slice P (wl 64 (q)) c]) (q) from ⟨P, c, rfl, h1, h2, h3⟩)
      have kb := hJ.out.box 0 _ rfl rfl (w.heap.size + 1) hown
      have k0 : w'.cell? ⟨(w.heap.size + 1), 0, none⟩ = some ((.slice none 0 0)) := kb.cell 0
      have f0 := kb.frozen 0
      have HO := Lib.hid hown
      have HS := Lib.hid hst
      clear kb h1 h2 h3 hown hst
      simp only [hv]
      clear hv
      go_wp2_with fail
      exact ⟨rfl, rfl, hJ.out.fill1 0 _ rfl rfl (by rfl) (w.heap.size + 1) HO.out HS.out _ rfl rfl (fun W k => ⟨P, c, rfl, HN.out.keep k⟩) (fun _ => trivial)⟩
    simp only [Act.put, List.setIfInBounds_toArray, List.set_cons_zero, List.set_cons_succ, Nat.reduceAdd]
    refine Steps.held ?_ ?_
    · intro L v w' hJ
      have hv3 : v 3 = .bool true := hJ.out.fact 3 (by kernel_rfl)
      simp only [hv3]
      clear hv3
      go_wp2_with fail
      exact ⟨rfl, rfl, hJ.out.same (by rfl) (rfl)⟩
    simp only [Act.put, List.setIfInBounds_toArray, List.set_cons_zero, List.set_cons_succ, Nat.reduceAdd]
    refine Steps.nil ?_
    intro v w' hJ
    obtain ⟨cs, hblk, hf⟩ := hJ.end_old 0 _ rfl (w.heap.size + 1) rfl (Nat.le_of_ble_eq_true rfl)
    obtain ⟨A1, c1, rfl, hN⟩ := hf
    have k0 := hblk.cell 0
    have h5 : v 5 = .bool true := hJ.end_fact 5 (by decide)
    simp only [h5]
    have hbw : Below w.heap.size w w' := hJ.but.to_below HB0.out HB0.out.size (by intro g hg; simp [oldsOf, BS, Bx.nat, Bx.rat, Bx.ref] at hg; subst hg; omega)
    have HX := Lib.hid (show ∃ v, Ending.returned (.tuple #[.agg #[.slice A1 (wl 64 q) c1], .bool true]) = .returned (.tuple #[v, .bool (!false)]) ∧ N64 w' v q ∧ Below w.heap.size w w' from ⟨_, rfl, hN, hbw⟩)
    clear hJ hbw hblk h5 hN
    go_wp2_with fail
    exact bodyPost_ret (v := .tuple #[.agg #[.slice A1 (wl 64 q) c1], .bool true]) (by simp [results, Try.results110, go_sem, k0]) rfl HX.out
set_option maxRecDepth 100000 in
set_option maxHeartbeats 4000000 in
theorem lhalf_any (va : Value) (a j : Nat) (w : World) (ha : N64 w va a) (hwa : wl 64 a ≤ 500000000) (hj : j ≤ 300000000) : Calls Try.prog 111 #[va, .int .i64 (j : Nat)] w (Mk64 w (ceilD a j)) := by
  have HA := Lib.hid ha
  obtain ⟨A, ca, rfl, _, _, _⟩ := ha
  have HDN := Lib.hid (fun v W h => ndown_any v a W h (by omega) (j : Int) (by omega))
  rw [Int.toNat_natCast] at HDN
  have hqw : wl 64 (a / 2 ^ j) ≤ 500000000 := wl_div_le (by decide) hwa
  have hle := Nat.div_mul_le_self a (2 ^ j)
  have hqw2 : wl 64 (a / 2 ^ j * 2 ^ j) ≤ 500000000 := Nat.le_trans (wl_mono (by decide) hle) hwa
  have HUP := Lib.hid (fun v W h => nup_any v (a / 2 ^ j) W h (by omega) (j : Int) (by omega))
  rw [Int.toNat_natCast] at HUP
  have HCM := Lib.hid (fun va vb W h1 h2 => ncmp_any va vb (a / 2 ^ j * 2 ^ j) a W h1 h2)
  have w1l : wl 64 1 ≤ 1 := w64_lit (by decide)
  have HAD := Lib.hid (fun va vb W h1 h2 => nadd_any va vb (a / 2 ^ j) 1 W h1 h2 (by omega) (by omega))
  have HON : Hid (∀ W, Calls Try.prog 50 #[.int .u64 1] W (fun e w' => ∃ v, e = .returned v ∧ N64 w' v 1 ∧ Below W.heap.size W w')) := Lib.hid (fun W => of_any 1 (by decide) W)
  have HCE : Hid (ceilD a j = if a / 2 ^ j * 2 ^ j < a then a / 2 ^ j + 1 else a / 2 ^ j) := Lib.hid rfl
  obtain ⟨q, hq⟩ : ∃ q, a / 2 ^ j = q := ⟨_, rfl⟩
  rw [hq] at HDN HUP HCM HAD HCE
  obtain ⟨u, hu0⟩ : ∃ u, q * 2 ^ j = u := ⟨_, rfl⟩
  rw [hu0] at HUP HCM HCE
  clear hwa hqw hle hqw2 w1l hq hu0
  by_cases hlt : u < a
  · have HC2 := Lib.hid (show ceilD a j = q + 1 by rw [HCE.out, if_pos hlt])
    rw [HC2.out]
    rw [cmpN_lt hlt] at HCM
    clear hlt HCE HC2
    have e0 := (Blk.new (w) 26 #[(.slice A (wl 64 a) ca)]).alloc (.cells #[(.slice none 0 0)] 26)
    have e1 := Blk.new ((w).alloc (.cells #[(.slice A (wl 64 a) ca)] 26)) 26 #[(.slice none 0 0)]
    have hb := cba (cba (Below.refl _ w) (.cells #[(.slice A (wl 64 a) ca)] 26)) (.cells #[(.slice none 0 0)] 26)
    simp only [World.size_alloc] at e1
    have hsz : w.heap.size ≤ w.heap.size := Nat.le_refl _
    go_enter Try.func111, Try.ntmps111
    go_upto_region 1 with (fail)
    obtain ⟨S, hS⟩ : ∃ S, ((w).alloc (.cells #[(.slice A (wl 64 a) ca)] 26)).alloc (.cells #[(.slice none 0 0)] 26) = S := ⟨_, rfl⟩
    rw [hS] at e0 e1 hb ⊢
    replace HA := Lib.hid (HA.out.below hb)
    have HB0 := Lib.hid hb
    have E0 := Lib.hid e0
    have E1 := Lib.hid e1
    clear hS hb hsz e0 e1
    have k_E0_0 := E0.out.cell 0
    have k_E1_0 := E1.out.cell 0
    go_wp2_with fail
    with_reducible refine (HDN.out _ _ HA.out).mono ?_
    rintro e w1 ⟨u5, rfl, hu, hb⟩
    clear k_E0_0 k_E1_0
    replace HA := Lib.hid (HA.out.below hb)
    replace E0 := Lib.hid (blk_below E0.out hb)
    replace E1 := Lib.hid (blk_below E1.out hb)
    replace HB0 := Lib.hid (cbt HB0.out hb)
    have NQ := Lib.hid hu
    clear hb hu
    have k_E0_0 := E0.out.cell 0
    have k_E1_0 := E1.out.cell 0
    have hlt1 := E1.out.lt
    have Z0 := NQ.out
    obtain ⟨PT0, cpT0, rfl, _, _, _⟩ := Z0
    have e5 := Blk.new w1 26 #[.slice PT0 (wl 64 (q)) cpT0]
    have hb := cba (Below.refl _ w1) (.cells #[.slice PT0 (wl 64 (q)) cpT0] 26)
    go_upto_region 2 with (fail)
    obtain ⟨T, hS⟩ : ∃ S, (w1.alloc (.cells #[.slice PT0 (wl 64 (q)) cpT0] 26)) = S := ⟨_, rfl⟩
    rw [hS] at e5 hb ⊢
    obtain ⟨g5, hg⟩ : ∃ g, w1.heap.size = g := ⟨_, rfl⟩
    rw [hg] at e5 hlt1
    simp only [hg]
    replace HA := Lib.hid (HA.out.below hb)
    replace NQ := Lib.hid (NQ.out.below hb)
    replace E0 := Lib.hid (blk_below E0.out hb)
    replace E1 := Lib.hid (blk_below E1.out hb)
    replace HB0 := Lib.hid (cbt HB0.out hb)
    have E5 := Lib.hid e5
    clear hS hg hb e5 k_E0_0 k_E1_0
    let FS : List Kept1 := [.n (q), .eq (.int .i64 (j : Int)), .n (u), .n (a), .eq (.int .i64 (-1)), .eq (.bool true)]
    refine region_mono (Held T (fun j => FS.getD j .any) []) (by kernel_rfl) (by kernel_rfl) (by kernel_rfl) (Held.start _ _ _ (by simp) (by simp)) ?_
    refine Steps.held ?_ ?_
    · intro L v w' hJ
      have kb := hJ.out.blk E5.out (by simp [oldsOf])
      have k0 := kb.cell 0
      clear kb
      go_wp2_with fail
      exact ⟨rfl, rfl, hJ.out.same (by rfl) (NQ.out.keep hJ.out.held.keep)⟩
    simp only [Act.put, List.setIfInBounds_toArray, List.set_cons_zero, List.set_cons_succ, Nat.reduceAdd]
    refine Steps.held ?_ ?_
    · intro L v w' hJ
      go_wp2_with fail
      exact ⟨rfl, rfl, hJ.out.same (by rfl) (rfl)⟩
    simp only [Act.put, List.setIfInBounds_toArray, List.set_cons_zero, List.set_cons_succ, Nat.reduceAdd]
    refine Steps.held ?_ ?_
    · intro L v w' hJ
      have hv1 : v 1 = .int .i64 (j : Int) := hJ.out.fact 1 (by kernel_rfl)
      simp only [hv1]
      clear hv1
      have X0 := Lib.hid (show N64 w' (v 0) (q) from hJ.out.fact 0 (by kernel_rfl))
      go_wp2_with fail
      with_reducible refine (HUP.out _ _ X0.out).mono ?_
      rintro e w1 ⟨u, rfl, hu, hb⟩
      go_wp2_with fail
      exact ⟨rfl, rfl, hJ.out.call (by rfl) hb (hu)⟩
    simp only [Act.put, List.setIfInBounds_toArray, List.set_cons_zero, List.set_cons_succ, Nat.reduceAdd]
    refine Steps.held ?_ ?_
    · intro L v w' hJ
      have kb := hJ.out.blk E0.out (by simp [oldsOf])
      have k0 := kb.cell 0
      clear kb
      go_wp2_with fail
      exact ⟨rfl, rfl, hJ.out.same (by rfl) (HA.out.keep hJ.out.held.keep)⟩
    simp only [Act.put, List.setIfInBounds_toArray, List.set_cons_zero, List.set_cons_succ, Nat.reduceAdd]
    refine Steps.held ?_ ?_
    · intro L v w' hJ
      have X0 := Lib.hid (show N64 w' (v 2) (u) from hJ.out.fact 2 (by kernel_rfl))
      have X1 := Lib.hid (show N64 w' (v 3) (a) from hJ.out.fact 3 (by kernel_rfl))
      go_wp2_with fail
      with_reducible refine (HCM.out _ _ _ X0.out X1.out).mono ?_
      rintro e w1 ⟨rfl, hb⟩
      go_wp2_with fail
      exact ⟨rfl, rfl, hJ.out.call (by rfl) hb (rfl)⟩
    simp only [Act.put, List.setIfInBounds_toArray, List.set_cons_zero, List.set_cons_succ, Nat.reduceAdd]
    refine Steps.held ?_ ?_
    · intro L v w' hJ
      have hv4 : v 4 = .int .i64 (-1) := hJ.out.fact 4 (by kernel_rfl)
      simp only [hv4]
      clear hv4
      go_wp2_with fail
      exact ⟨rfl, rfl, hJ.out.same (by rfl) (rfl)⟩
    simp only [Act.put, List.setIfInBounds_toArray, List.set_cons_zero, List.set_cons_succ, Nat.reduceAdd]
    refine Steps.nil ?_
    intro v w' hJ
    have h5 : v 5 = .bool true := hJ.end_fact 5 (by decide)
    simp only [h5]
    clear h5
    have hbr := hJ.but.below
    replace NQ := Lib.hid (NQ.out.below hbr)
    replace E1 := Lib.hid (blk_below E1.out hbr)
    replace E5 := Lib.hid (blk_below E5.out hbr)
    replace HB0 := Lib.hid (cbt HB0.out hbr)
    clear hJ hbr
    go_wp2_with fail
    let FS : List Kept1 := [.n (q), .n (1), .n (q + 1), .any]
    let BS : List Bx := [Bx.nat (.inr (w.heap.size + 1)) 3 #[(.slice none 0 0)] (q + 1)]
    refine region_mono (Held w' (fun j => FS.getD j .any) BS) (by kernel_rfl) (by kernel_rfl) (by kernel_rfl) (Held.start _ _ _ (by simp [BS, Bx.nat, Bx.rat, Bx.ref] <;> exact E1.out) (by simp [BS, Bx.nat, Bx.rat, Bx.ref])) ?_
    refine Steps.held ?_ ?_
    · intro L v w' hJ
      have kb := hJ.out.blk E5.out (by simp [oldsOf, BS, Bx.nat, Bx.rat, Bx.ref] <;> omega)
      have k0 := kb.cell 0
      clear kb
      go_wp2_with fail
      exact ⟨rfl, rfl, hJ.out.same (by rfl) (NQ.out.keep hJ.out.held.keep)⟩
    simp only [Act.put, List.setIfInBounds_toArray, List.set_cons_zero, List.set_cons_succ, Nat.reduceAdd]
    refine Steps.held ?_ ?_
    · intro L v w' hJ
      go_wp2_with fail
      with_reducible refine (HON.out _).mono ?_
      rintro e w1 ⟨u, rfl, hu, hb⟩
      go_wp2_with fail
      exact ⟨rfl, rfl, hJ.out.call (by rfl) hb (hu)⟩
    simp only [Act.put, List.setIfInBounds_toArray, List.set_cons_zero, List.set_cons_succ, Nat.reduceAdd]
    refine Steps.held ?_ ?_
    · intro L v w' hJ
      have X0 := Lib.hid (show N64 w' (v 0) (q) from hJ.out.fact 0 (by kernel_rfl))
      have X1 := Lib.hid (show N64 w' (v 1) (1) from hJ.out.fact 1 (by kernel_rfl))
      go_wp2_with fail
      with_reducible refine (HAD.out _ _ _ X0.out X1.out).mono ?_
      rintro e w1 ⟨u, rfl, hu, hb⟩
      go_wp2_with fail
      exact ⟨rfl, rfl, hJ.out.call (by rfl) hb (hu)⟩
    simp only [Act.put, List.setIfInBounds_toArray, List.set_cons_zero, List.set_cons_succ, Nat.reduceAdd]
    refine Steps.held ?_ ?_
    · intro L v w' hJ
      obtain ⟨hown, hst⟩ := hJ.out.oldbox 0 _ rfl (w.heap.size + 1) rfl
      have hN : N64 w' (v 2) (q + 1) := hJ.out.fact 2 (by kernel_rfl)
      obtain ⟨P, c, hv, h1, h2, h3⟩ := hN
      have HN := Lib.hid (show N64 w' (.agg #[.slice P (wl 64 (q + 1)) c]) (q + 1) from ⟨P, c, rfl, h1, h2, h3⟩)
      have kb := hJ.out.box 0 _ rfl rfl (w.heap.size + 1) hown
      have k0 : w'.cell? ⟨(w.heap.size + 1), 0, none⟩ = some ((.slice none 0 0)) := kb.cell 0
      have f0 := kb.frozen 0
      have HO := Lib.hid hown
      have HS := Lib.hid hst
      clear kb h1 h2 h3 hown hst
      simp only [hv]
      clear hv
      go_wp2_with fail
      exact ⟨rfl, rfl, hJ.out.fill1 0 _ rfl rfl (by rfl) (w.heap.size + 1) HO.out HS.out _ rfl rfl (fun W k => ⟨P, c, rfl, HN.out.keep k⟩) (fun _ => trivial)⟩
    simp only [Act.put, List.setIfInBounds_toArray, List.set_cons_zero, List.set_cons_succ, Nat.reduceAdd]
    refine Steps.nil ?_
    intro v w' hJ
    obtain ⟨cs, hblk, hf⟩ := hJ.end_old 0 _ rfl (w.heap.size + 1) rfl (Nat.le_of_ble_eq_true rfl)
    obtain ⟨A1, c1, rfl, hN⟩ := hf
    have k0 := hblk.cell 0
    have hbw : Below w.heap.size w w' := hJ.but.to_below HB0.out HB0.out.size (by intro g hg; simp [oldsOf, BS, Bx.nat, Bx.rat, Bx.ref] at hg; subst hg; omega)
    have HX := Lib.hid (show Mk64 w (q + 1) (.returned (.agg #[.slice A1 (wl 64 (q + 1)) c1])) w' from ⟨_, rfl, hN, hbw⟩)
    clear hJ hbw hblk hN
    go_wp2_with fail
    exact bodyPost_ret (v := .agg #[.slice A1 (wl 64 (q + 1)) c1]) (by simp [results, Try.results111, go_sem, k0]) rfl HX.out
  · have HC2 := Lib.hid (show ceilD a j = q by rw [HCE.out, if_neg hlt])
    rw [HC2.out]
    have hcc : decide (cmpN u a < 0) = false := decide_eq_false (by have := cmpN_ge (x := u) (y := a) (by omega); omega)
    obtain ⟨cc, hce⟩ : ∃ c, cmpN u a = c := ⟨_, rfl⟩
    rw [hce] at HCM hcc
    clear hce
    clear hlt HCE HC2
    have e0 := (Blk.new (w) 26 #[(.slice A (wl 64 a) ca)]).alloc (.cells #[(.slice none 0 0)] 26)
    have e1 := Blk.new ((w).alloc (.cells #[(.slice A (wl 64 a) ca)] 26)) 26 #[(.slice none 0 0)]
    have hb := cba (cba (Below.refl _ w) (.cells #[(.slice A (wl 64 a) ca)] 26)) (.cells #[(.slice none 0 0)] 26)
    simp only [World.size_alloc] at e1
    have hsz : w.heap.size ≤ w.heap.size := Nat.le_refl _
    go_enter Try.func111, Try.ntmps111
    go_upto_region 1 with (fail)
    obtain ⟨S, hS⟩ : ∃ S, ((w).alloc (.cells #[(.slice A (wl 64 a) ca)] 26)).alloc (.cells #[(.slice none 0 0)] 26) = S := ⟨_, rfl⟩
    rw [hS] at e0 e1 hb ⊢
    replace HA := Lib.hid (HA.out.below hb)
    have HB0 := Lib.hid hb
    have E0 := Lib.hid e0
    have E1 := Lib.hid e1
    clear hS hb hsz e0 e1
    have k_E0_0 := E0.out.cell 0
    have k_E1_0 := E1.out.cell 0
    go_wp2_with fail
    with_reducible refine (HDN.out _ _ HA.out).mono ?_
    rintro e w1 ⟨u5, rfl, hu, hb⟩
    clear k_E0_0 k_E1_0
    replace HA := Lib.hid (HA.out.below hb)
    replace E0 := Lib.hid (blk_below E0.out hb)
    replace E1 := Lib.hid (blk_below E1.out hb)
    replace HB0 := Lib.hid (cbt HB0.out hb)
    have NQ := Lib.hid hu
    clear hb hu
    have k_E0_0 := E0.out.cell 0
    have k_E1_0 := E1.out.cell 0
    have hlt1 := E1.out.lt
    have Z0 := NQ.out
    obtain ⟨PT0, cpT0, rfl, _, _, _⟩ := Z0
    have e5 := Blk.new w1 26 #[.slice PT0 (wl 64 (q)) cpT0]
    have hb := cba (Below.refl _ w1) (.cells #[.slice PT0 (wl 64 (q)) cpT0] 26)
    go_upto_region 2 with (fail)
    obtain ⟨T, hS⟩ : ∃ S, (w1.alloc (.cells #[.slice PT0 (wl 64 (q)) cpT0] 26)) = S := ⟨_, rfl⟩
    rw [hS] at e5 hb ⊢
    obtain ⟨g5, hg⟩ : ∃ g, w1.heap.size = g := ⟨_, rfl⟩
    rw [hg] at e5 hlt1
    simp only [hg]
    replace HA := Lib.hid (HA.out.below hb)
    replace NQ := Lib.hid (NQ.out.below hb)
    replace E0 := Lib.hid (blk_below E0.out hb)
    replace E1 := Lib.hid (blk_below E1.out hb)
    replace HB0 := Lib.hid (cbt HB0.out hb)
    have E5 := Lib.hid e5
    clear hS hg hb e5 k_E0_0 k_E1_0
    let FS : List Kept1 := [.n (q), .eq (.int .i64 (j : Int)), .n (u), .n (a), .eq (.int .i64 (cc)), .eq (.bool false)]
    refine region_mono (Held T (fun j => FS.getD j .any) []) (by kernel_rfl) (by kernel_rfl) (by kernel_rfl) (Held.start _ _ _ (by simp) (by simp)) ?_
    refine Steps.held ?_ ?_
    · intro L v w' hJ
      have kb := hJ.out.blk E5.out (by simp [oldsOf])
      have k0 := kb.cell 0
      clear kb
      go_wp2_with fail
      exact ⟨rfl, rfl, hJ.out.same (by rfl) (NQ.out.keep hJ.out.held.keep)⟩
    simp only [Act.put, List.setIfInBounds_toArray, List.set_cons_zero, List.set_cons_succ, Nat.reduceAdd]
    refine Steps.held ?_ ?_
    · intro L v w' hJ
      go_wp2_with fail
      exact ⟨rfl, rfl, hJ.out.same (by rfl) (rfl)⟩
    simp only [Act.put, List.setIfInBounds_toArray, List.set_cons_zero, List.set_cons_succ, Nat.reduceAdd]
    refine Steps.held ?_ ?_
    · intro L v w' hJ
      have hv1 : v 1 = .int .i64 (j : Int) := hJ.out.fact 1 (by kernel_rfl)
      simp only [hv1]
      clear hv1
      have X0 := Lib.hid (show N64 w' (v 0) (q) from hJ.out.fact 0 (by kernel_rfl))
      go_wp2_with fail
      with_reducible refine (HUP.out _ _ X0.out).mono ?_
      rintro e w1 ⟨u, rfl, hu, hb⟩
      go_wp2_with fail
      exact ⟨rfl, rfl, hJ.out.call (by rfl) hb (hu)⟩
    simp only [Act.put, List.setIfInBounds_toArray, List.set_cons_zero, List.set_cons_succ, Nat.reduceAdd]
    refine Steps.held ?_ ?_
    · intro L v w' hJ
      have kb := hJ.out.blk E0.out (by simp [oldsOf])
      have k0 := kb.cell 0
      clear kb
      go_wp2_with fail
      exact ⟨rfl, rfl, hJ.out.same (by rfl) (HA.out.keep hJ.out.held.keep)⟩
    simp only [Act.put, List.setIfInBounds_toArray, List.set_cons_zero, List.set_cons_succ, Nat.reduceAdd]
    refine Steps.held ?_ ?_
    · intro L v w' hJ
      have X0 := Lib.hid (show N64 w' (v 2) (u) from hJ.out.fact 2 (by kernel_rfl))
      have X1 := Lib.hid (show N64 w' (v 3) (a) from hJ.out.fact 3 (by kernel_rfl))
      go_wp2_with fail
      with_reducible refine (HCM.out _ _ _ X0.out X1.out).mono ?_
      rintro e w1 ⟨rfl, hb⟩
      go_wp2_with fail
      exact ⟨rfl, rfl, hJ.out.call (by rfl) hb (rfl)⟩
    simp only [Act.put, List.setIfInBounds_toArray, List.set_cons_zero, List.set_cons_succ, Nat.reduceAdd]
    refine Steps.held ?_ ?_
    · intro L v w' hJ
      have hv4 : v 4 = .int .i64 (cc) := hJ.out.fact 4 (by kernel_rfl)
      simp only [hv4]
      clear hv4
      go_wp2_with fail
      exact ⟨rfl, rfl, hJ.out.same (by rfl) (rfl)⟩
    simp only [Act.put, List.setIfInBounds_toArray, List.set_cons_zero, List.set_cons_succ, Nat.reduceAdd]
    refine Steps.nil ?_
    intro v w' hJ
    have h5 : v 5 = .bool false := hJ.end_fact 5 (by decide)
    simp only [h5]
    clear h5
    have hbr := hJ.but.below
    replace NQ := Lib.hid (NQ.out.below hbr)
    replace E1 := Lib.hid (blk_below E1.out hbr)
    replace E5 := Lib.hid (blk_below E5.out hbr)
    replace HB0 := Lib.hid (cbt HB0.out hbr)
    clear hJ hbr
    have k5 := E5.out.cell 0
    have k1 := E1.out.cell 0
    have f1 := E1.out.frozen 0
    have HX := Lib.hid (show Mk64 w q (.returned (.agg #[.slice PT0 (wl 64 q) cpT0])) (w'.setCell ⟨w.heap.size + 1, 0, none⟩ (.slice PT0 (wl 64 q) cpT0)) from
      ⟨_, rfl, NQ.out.keep (Keep.set E1.out 0 rfl _), HB0.out.setCell (p := ⟨w.heap.size + 1, 0, none⟩) (by simp only []; omega) _⟩)
    go_wp2
    exact bodyPost_ret (v := .agg #[.slice PT0 (wl 64 q) cpT0]) (by simp [results, Try.results111, go_sem, k1]) rfl HX.out
end Go.Proofs.Yteikhnmmkanndaa
