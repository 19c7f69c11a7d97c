/- Regions that draw their order: what holds whichever order is drawn, shown one operation at a time, each in its place in the text. A plain law of the machine. -/
import Derived.Orders
import Derived.Still
import Derived.Tactics
import Derived.Tactics2
namespace Go.Proofs.Yteikhnmmkanndaa

section
variable {P : Program} {ops : Array Oper}

/-- where operation j puts what it yields. -/
def dstOf (ops : Array Oper) (j : Nat) : Option Tmp := (ops[j]?).bind (·.dst)
/-- operation i waits for k. -/
def waits (ops : Array Oper) (i k : Nat) : Bool := ((ops[i]?).map (fun o => o.after.any (fun e => Region.binds .any e && e.on == k))).getD false
/-- no two operations put into one slot, and each into a slot that is there. -/
def dstsB (ops : Array Oper) (size : Nat) : Bool :=
  (List.range ops.size).all fun i => match dstOf ops i with
    | none => true
    | some t => decide (t < size) && (List.range ops.size).all fun j => j == i || dstOf ops j != some t
/-- the frame a is a0, with what the operations of L have yielded. -/
structure Mix (ops : Array Oper) (a0 : Act) (L : Nat → Bool) (v : Nat → Value) (a : Act) : Prop where
  defers : a.defers = a0.defers
  size : a.tmps.size = a0.tmps.size
  got : ∀ j t, L j = true → dstOf ops j = some t → t < a0.tmps.size → a.tmps[t]? = some (v j)
  kept : ∀ t, (∀ j, L j = true → dstOf ops j ≠ some t) → a.tmps[t]? = a0.tmps[t]?

def setB (L : Nat → Bool) (i : Nat) : Nat → Bool := fun j => if j = i then true else L j
def setV (v : Nat → Value) (i : Nat) (u : Value) : Nat → Value := fun j => if j = i then u else v j
theorem setV_same (v : Nat → Value) (i : Nat) : setV v i (v i) = v := by
  funext j
  unfold setV
  split
  · rename_i h; rw [h]
  · rfl

set_option maxRecDepth 4000 in
theorem dst_ne {size i j : Nat} {t : Tmp} (hD : dstsB ops size = true) (hi : dstOf ops i = some t) (hj : dstOf ops j = some t) : i = j := by
  have hil : i < ops.size := by
    rcases Nat.lt_or_ge i ops.size with h | h
    · exact h
    · unfold dstOf at hi; rw [Array.getElem?_eq_none h] at hi; cases hi
  have hjl : j < ops.size := by
    rcases Nat.lt_or_ge j ops.size with h | h
    · exact h
    · unfold dstOf at hj; rw [Array.getElem?_eq_none h] at hj; cases hj
  unfold dstsB at hD
  have h1 := List.all_eq_true.1 hD i (List.mem_range.2 hil)
  rw [hi] at h1
  simp only [Bool.and_eq_true] at h1
  have h2 := List.all_eq_true.1 h1.2 j (List.mem_range.2 hjl)
  rw [hj] at h2
  rcases Bool.or_eq_true _ _ ▸ h2 with h3 | h3
  · exact (beq_iff_eq.1 h3).symm
  · simp at h3
theorem dst_lt {size i : Nat} {t : Tmp} (hD : dstsB ops size = true) (hi : dstOf ops i = some t) : t < size := by
  have hil : i < ops.size := by
    rcases Nat.lt_or_ge i ops.size with h | h
    · exact h
    · unfold dstOf at hi; rw [Array.getElem?_eq_none h] at hi; cases hi
  have h1 := List.all_eq_true.1 hD i (List.mem_range.2 hil)
  rw [hi] at h1
  simp only [Bool.and_eq_true, decide_eq_true_eq] at h1
  exact h1.1

theorem Mix.start (a0 : Act) (v : Nat → Value) : Mix ops a0 (fun _ => false) v a0 := ⟨rfl, rfl, fun _ _ h => absurd h (by simp), fun _ _ => rfl⟩
theorem Mix.put {a0 a : Act} {L : Nat → Bool} {v : Nat → Value} (h : Mix ops a0 L v a) {size : Nat} (hD : dstsB ops size = true) (i : Nat) (u : Value) : Mix ops a0 (setB L i) (setV v i u) (a.put (dstOf ops i) u) := by
  cases hd : dstOf ops i with
  | none =>
    refine ⟨h.defers, h.size, fun j t hj ht htl => ?_, fun t hno => h.kept t fun j hj => hno j (by unfold setB; split <;> simp_all)⟩
    have hji : j ≠ i := by rintro rfl; rw [hd] at ht; cases ht
    unfold setB setV at *
    rw [if_neg hji] at hj ⊢
    exact h.got j t hj ht htl
  | some d =>
    refine ⟨h.defers, by simp [Act.put, h.size], fun j t hj ht htl => ?_, fun t hno => ?_⟩
    · show (a.tmps.setIfInBounds d u)[t]? = _
      by_cases hji : j = i
      · subst hji
        rw [hd] at ht
        cases ht
        rw [Array.getElem?_setIfInBounds_self_of_lt (by rw [h.size]; exact htl)]
        unfold setV
        rw [if_pos rfl]
      · have hne : d ≠ t := fun e => hji (dst_ne hD ht (by rw [hd, e]))
        rw [Array.getElem?_setIfInBounds_ne hne]
        unfold setB at hj
        unfold setV
        rw [if_neg hji] at hj ⊢
        exact h.got j t hj ht htl
    · have hne : d ≠ t := fun e => hno i (by unfold setB; rw [if_pos rfl]) (by rw [hd, e])
      show (a.tmps.setIfInBounds d u)[t]? = _
      rw [Array.getElem?_setIfInBounds_ne hne]
      exact h.kept t fun j hj => hno j (by unfold setB; split <;> simp_all)
theorem Mix.congrL {a0 a : Act} {L L' : Nat → Bool} {v : Nat → Value} (h : Mix ops a0 L v a) (hL : ∀ j, j < ops.size → L j = L' j) : Mix ops a0 L' v a := by
  have hlt : ∀ j t, dstOf ops j = some t → j < ops.size := fun j t hj => by
    rcases Nat.lt_or_ge j ops.size with h | h
    · exact h
    · unfold dstOf at hj; rw [Array.getElem?_eq_none h] at hj; cases hj
  refine ⟨h.defers, h.size, fun j t hj ht => h.got j t (by rw [hL j (hlt j t ht)]; exact hj) ht, fun t hno => h.kept t fun j hj ht => hno j (by rw [← hL j (hlt j t ht)]; exact hj) ht⟩
theorem Mix.same {a0 a a' : Act} {L : Nat → Bool} {v : Nat → Value} (h : Mix ops a0 L v a) (h' : Mix ops a0 L v a') {size : Nat} (hD : dstsB ops size = true) (hs : size = a0.tmps.size) : a = a' := by
  have ht : a.tmps = a'.tmps := by
    apply Array.ext_getElem?
    intro t
    by_cases hx : ∃ j, L j = true ∧ dstOf ops j = some t
    · obtain ⟨j, hj, hd⟩ := hx
      have hl := dst_lt hD hd
      rw [hs] at hl
      rw [h.got j t hj hd hl, h'.got j t hj hd hl]
    · rw [h.kept t (fun j hj hd => hx ⟨j, hj, hd⟩), h'.kept t (fun j hj hd => hx ⟨j, hj, hd⟩)]
  cases a; cases a'
  have := h.defers; have := h'.defers
  simp_all

/-- the frame with what the first n operations have yielded. -/
def putN (ops : Array Oper) (v : Nat → Value) (a0 : Act) : Nat → Act
  | 0 => a0
  | n + 1 => (putN ops v a0 n).put (dstOf ops n) (v n)
theorem Mix.putN {a0 : Act} (v : Nat → Value) {size : Nat} (hD : dstsB ops size = true) (n : Nat) : Mix ops a0 (fun j => decide (j < n)) v (putN ops v a0 n) := by
  induction n with
  | zero => exact (Mix.start a0 v).congrL (fun j _ => by simp)
  | succ n ih =>
    have h1 := ih.put hD n (v n)
    rw [setV_same] at h1
    refine h1.congrL (fun j _ => ?_)
    unfold setB
    split
    · rename_i hj; subst hj; simp
    · rename_i hj
      rw [Bool.eq_iff_iff, decide_eq_true_iff, decide_eq_true_iff]
      omega

/-- a lexical order: each waits for those before it, or is apart from them. -/
theorem lex_apart : ∀ (fuel k : Nat) (listed : Array Bool), listed.size = ops.size → (∀ j, j < ops.size → listed.getD j false = decide (j < k)) → Region.lexFrom .any ops fuel k listed = true → k + fuel = ops.size →
    ∀ i j oi oj, k ≤ i → i < j → ops[i]? = some oi → ops[j]? = some oj → waits ops j i = true ∨ oi.apart ops oj = true := by
  intro fuel
  induction fuel with
  | zero =>
    intro k listed _ _ _ hk i j oi oj hki _ hoi _
    have := (Array.getElem?_eq_some_iff.1 hoi).1
    omega
  | succ fuel ih =>
    intro k listed hsz hl hB hk i j oi oj hki hij hoi hoj
    simp only [Region.lexFrom, Bool.and_eq_true] at hB
    obtain ⟨⟨hr, hf⟩, hB'⟩ := hB
    by_cases hik : i = k
    · subst hik
      have hjl := (Array.getElem?_eq_some_iff.1 hoj).1
      have hun : listed.getD j true = false := by
        have h1 := hl j hjl
        rw [decide_eq_false (by omega)] at h1
        have h2 : j < listed.size := by omega
        simp [h2] at h1 ⊢
        exact h1
      by_cases hw : waits ops j i = true
      · exact .inl hw
      · refine .inr (Region.free_spec hoi hf j oj hoj (by omega) hun fun e he hb heq => hw ?_)
        unfold waits
        rw [hoj]
        simp only [Option.map_some, Option.getD_some]
        exact Array.any_eq_true'.2 ⟨e, he, by simp [hb, heq]⟩
    · refine ih (k + 1) (listed.setIfInBounds k true) (by simpa using hsz) ?_ hB' (by omega) i j oi oj (by omega) hij hoi hoj
      intro m hm
      by_cases hmk : m = k
      · subst hmk
        rw [decide_eq_true (by omega)]
        have h2 : m < listed.size := by omega
        simp [h2]
      · rw [getD_set_ne false (Ne.symm hmk), hl m hm, Bool.eq_iff_iff, decide_eq_true_iff, decide_eq_true_iff]
        omega

/-- what an operation has put, seen in the frame behind it. -/
def see (o : Oper) (a : Act) : Value := match o.dst with
  | some d => a.tmps.getD d undef
  | none => undef
/-- what is asked of one operation. -/
def Only (a0 : Act) (o : Oper) (R : Value → World → Prop) : Exit → Act → World → Prop := fun e a w => e = .normal ∧ a.defers = a0.defers ∧ R (see o a) w

theorem wpOp_of_only {Q : Exit → Act → World → Prop} {a0 ai a : Act} {i : Nat} {o : Oper} {w : World} {R : Value → World → Prop} {K : Act → World → Prop}
    (ho : ops[i]? = some o) (hai : ai.defers = a0.defers) (hsz : ∀ d, o.dst = some d → d < ai.tmps.size)
    (he : execOp a.eval o = execOp ai.eval o) (hw : Region.wanted o (yielded ops a.tmps) = Region.wanted o (yielded ops ai.tmps))
    (h : wpList P ops (Only a0 o R) [o] ai w) (hK : ∀ u w', R u w' → K (a.put o.dst u) w') : wpOp P ops Q i K a w := by
  have hsee : ∀ u, ∃ u', see o (ai.put o.dst u) = u' ∧ a.put o.dst u' = a.put o.dst u := by
    intro u
    unfold see
    cases hd : o.dst with
    | none => exact ⟨undef, rfl, rfl⟩
    | some d =>
      refine ⟨u, ?_, rfl⟩
      have := hsz d hd
      simp [Act.put, Array.getD_eq_getD_getElem?, this]
  have hR : ∀ u w', R (see o (ai.put o.dst u)) w' → K (a.put o.dst u) w' := by
    intro u w' hr
    obtain ⟨u', hu', hp⟩ := hsee u
    rw [← hp]
    exact hK u' w' (hu' ▸ hr)
  unfold wpOp
  simp only [ho]
  unfold wpList at h
  rw [hw]
  split
  · rename_i hwt
    rw [if_pos hwt] at h
    rcases h with h | ⟨_, a', w', hf, _⟩
    case inr => cases hf
    refine .inl ?_
    unfold Oper.wp at h ⊢
    rw [he]
    generalize (execOp ai.eval o).run P w = r at h ⊢
    cases r with
    | ok n w' =>
      cases n <;> simp only [Oper.upon, wpList] at h ⊢
      case value u => exact hR u w' h.2.2
      case skip => exact hR undef w' h.2.2
      case defer d =>
        exfalso
        have h1 := h.2.1
        rw [← hai] at h1
        have h2 : (d :: ai.defers) = ai.defers := by cases hd : o.dst <;> rw [hd] at h1 <;> exact h1
        have := congrArg List.length h2
        simp at this
      case enter f args =>
        refine Calls.mono h fun e w'' he => ?_
        cases e with
        | returned u => exact hR u w'' he.2.2
        | panicked c => exact absurd he.1 (by simp)
        | outgrown => obtain ⟨_, _, hf, _⟩ := he; cases hf
      case row row args => exact Rows.mono h fun u w'' he => hR u w'' he.2.2
    | halt x w' =>
      cases x <;> simp only [Oper.upon] at h ⊢
      case panic u => exact absurd h.1 (by simp)
  · rename_i hwt
    rw [if_neg hwt] at h
    exact hR undef w h.2.2

/-- the steps, each asked in its place in the text; behind them, the end. -/
def Steps (P : Program) (ops : Array Oper) (a0 : Act) (J : (Nat → Bool) → (Nat → Value) → World → Prop) (E : ((Nat → Value) → Act) → Prop) : Nat → List Oper → ((Nat → Value) → Act) → Prop
  | _, [], F => E F
  | k, o :: r, F => (∀ L v w, J L v w → L k = false → (∀ j, waits ops k j = true → L j = true) → wpList P ops (Only a0 o (fun u w' => J (setB L k) (setV v k u) w')) [o] (F v) w) ∧
      Steps P ops a0 J E (k + 1) r (fun v => (F v).put o.dst (v k))

variable {J : (Nat → Bool) → (Nat → Value) → World → Prop} {E : ((Nat → Value) → Act) → Prop}

theorem Steps.cons {a0 : Act} {k : Nat} {o : Oper} {r : List Oper} {F : (Nat → Value) → Act}
    (h : ∀ L v w, J L v w → L k = false → (∀ j, waits ops k j = true → L j = true) → wpList P ops (Only a0 o (fun u w' => J (setB L k) (setV v k u) w')) [o] (F v) w)
    (h2 : Steps P ops a0 J E (k + 1) r (fun v => (F v).put o.dst (v k))) : Steps P ops a0 J E k (o :: r) F := ⟨h, h2⟩
theorem Steps.nil {a0 : Act} {k : Nat} {F : (Nat → Value) → Act} (h : E F) : Steps P ops a0 J E k [] F := h
theorem Steps.last {a0 : Act} : ∀ (l : List Oper) (k : Nat) (F : (Nat → Value) → Act), (∀ j, l[j]? = ops[k + j]?) → (∀ v, F v = putN ops v a0 k) → Steps P ops a0 J E k l F → E (fun v => putN ops v a0 (k + l.length))
  | [], k, F, _, hF, h => by
    have : F = fun v => putN ops v a0 k := funext hF
    rw [this] at h
    exact h
  | x :: l, k, F, hl, hF, h => by
    have h0 : ops[k]? = some x := by simpa using (hl 0).symm
    have := Steps.last l (k + 1) _ (fun j => by have := hl (j + 1); simpa [Nat.add_assoc, Nat.add_comm 1 j] using this) (fun v => by
      show (F v).put x.dst (v k) = (putN ops v a0 k).put (dstOf ops k) (v k)
      rw [hF v]
      unfold dstOf
      rw [h0]
      rfl) h.2
    rw [show k + (x :: l).length = k + 1 + l.length by simp; omega]
    exact this
theorem Steps.get {a0 : Act} : ∀ (l : List Oper) (k : Nat) (F : (Nat → Value) → Act), (∀ j, l[j]? = ops[k + j]?) → (∀ v, F v = putN ops v a0 k) → Steps P ops a0 J E k l F →
    ∀ i o, k ≤ i → ops[i]? = some o → ∀ L v w, J L v w → L i = false → (∀ j, waits ops i j = true → L j = true) → wpList P ops (Only a0 o (fun u w' => J (setB L i) (setV v i u) w')) [o] (putN ops v a0 i) w
  | [], k, F, hl, _, _, i, o, hki, ho => by
    have h := hl (i - k)
    rw [show k + (i - k) = i by omega, ho] at h
    simp at h
  | x :: l, k, F, hl, hF, hS, i, o, hki, ho => by
    have h0 : ops[k]? = some x := by simpa using (hl 0).symm
    by_cases hik : i = k
    · subst hik
      rw [h0] at ho
      cases ho
      intro L v w
      rw [← hF v]
      exact hS.1 L v w
    · refine Steps.get l (k + 1) _ (fun j => by have := hl (j + 1); simpa [Nat.add_assoc, Nat.add_comm 1 j] using this) (fun v => ?_) hS.2 i o (by omega) ho
      show (F v).put x.dst (v k) = (putN ops v a0 k).put (dstOf ops k) (v k)
      rw [hF v]
      unfold dstOf
      rw [h0]
      rfl

/-- each waits for earlier ones alone. -/
theorem lex_waits : ∀ (fuel k : Nat) (listed : Array Bool), listed.size = ops.size → (∀ j, j < ops.size → listed.getD j false = decide (j < k)) → Region.lexFrom .any ops fuel k listed = true → k + fuel = ops.size →
    ∀ i m, k ≤ i → waits ops i m = true → m < i := by
  intro fuel
  induction fuel with
  | zero =>
    intro k listed _ _ _ hk i m hki hw
    unfold waits at hw
    rw [Array.getElem?_eq_none (by omega)] at hw
    cases hw
  | succ fuel ih =>
    intro k listed hsz hl hB hk i m hki hw
    simp only [Region.lexFrom, Bool.and_eq_true] at hB
    obtain ⟨⟨hr, hf⟩, hB'⟩ := hB
    by_cases hik : i = k
    · subst hik
      obtain ⟨_, o, ho, hall⟩ := mem_ready.1 (show i ∈ Region.ready .any ops listed by simpa using hr)
      unfold waits at hw
      rw [ho] at hw
      simp only [Option.map_some, Option.getD_some] at hw
      obtain ⟨e, he, hb⟩ := Array.any_eq_true'.1 hw
      simp only [Bool.and_eq_true, beq_iff_eq] at hb
      have h1 := hall e he hb.1
      rw [hb.2] at h1
      by_cases hm : m < ops.size
      · rw [hl m hm] at h1
        exact decide_eq_true_iff.1 h1
      · have : ¬ m < listed.size := by omega
        simp [this] at h1
    · refine ih (k + 1) (listed.setIfInBounds k true) (by simpa using hsz) ?_ hB' (by omega) i m (by omega) hw
      intro m hm
      by_cases hmk : m = k
      · subst hmk
        rw [decide_eq_true (by omega)]
        have h2 : m < listed.size := by omega
        simp [h2]
      · rw [getD_set_ne false (Ne.symm hmk), hl m hm, Bool.eq_iff_iff, decide_eq_true_iff, decide_eq_true_iff]
        omega

theorem waits_of {i : Nat} {o : Oper} (ho : ops[i]? = some o) {e : Edge} (he : e ∈ o.after) (hb : Region.binds .any e = true) : waits ops i e.on = true := by
  unfold waits
  rw [ho]
  exact Array.any_eq_true'.2 ⟨e, he, by simp [hb]⟩
theorem of_waits {i k : Nat} {o : Oper} (ho : ops[i]? = some o) (h : waits ops i k = true) : ∃ e ∈ o.after, Region.binds .any e = true ∧ e.on = k := by
  unfold waits at h
  rw [ho] at h
  simp only [Option.map_some, Option.getD_some] at h
  obtain ⟨e, he, hb⟩ := Array.any_eq_true'.1 h
  simp only [Bool.and_eq_true, beq_iff_eq] at hb
  exact ⟨e, he, hb⟩

/-- how many are still to come. -/
def todo (listed : Array Bool) (n : Nat) : Nat := ((List.range n).filter (fun j => !listed.getD j false)).length
theorem todo_set {listed : Array Bool} {n i : Nat} (hi : i < n) (hs : listed.size = n) (hl : listed.getD i false = false) : todo (listed.setIfInBounds i true) n < todo listed n := by
  unfold todo
  have key : ∀ m, m ≤ n → ((List.range m).filter (fun j => !(listed.setIfInBounds i true).getD j false)).length + (if i < m then 1 else 0) = ((List.range m).filter (fun j => !listed.getD j false)).length := by
    intro m
    induction m with
    | zero => intro _; simp
    | succ m ih =>
      intro hm
      rw [List.range_succ, List.filter_append, List.filter_append, List.length_append, List.length_append, ← ih (by omega)]
      by_cases him : i = m
      · subst him
        have h1 : (listed.setIfInBounds i true).getD i false = true := by
          have : i < listed.size := by omega
          simp [this]
        have a1 : ([i].filter (fun j => !(listed.setIfInBounds i true).getD j false)).length = 0 := by rw [List.filter_cons, h1]; rfl
        have a2 : ([i].filter (fun j => !listed.getD j false)).length = 1 := by rw [List.filter_cons, hl]; rfl
        rw [a1, a2, if_neg (Nat.lt_irrefl i), if_pos (Nat.lt_succ_self i)]
      · have a1 : ([m].filter (fun j => !(listed.setIfInBounds i true).getD j false)) = [m].filter (fun j => !listed.getD j false) := by
          rw [List.filter_cons, List.filter_cons, getD_set_ne false him]
          rfl
        rw [a1]
        by_cases h2 : i < m
        · rw [if_pos h2, if_pos (Nat.lt_succ_of_lt h2)]; omega
        · rw [if_neg h2, if_neg (by omega)]; omega
  have := key n (Nat.le_refl n)
  rw [if_pos hi] at this
  omega

theorem wpAny_mono {Q : Exit → Act → World → Prop} {a0 : Act} (hD : dstsB ops a0.tmps.size = true) (hsel : Region.noSelect ops = true)
    (hlex : ∀ i j oi oj, i < j → ops[i]? = some oi → ops[j]? = some oj → waits ops j i = true ∨ oi.apart ops oj = true)
    (hlt : ∀ i k, waits ops i k = true → k < i)
    (hstep : ∀ i o, ops[i]? = some o → ∀ L v w, J L v w → L i = false → (∀ j, waits ops i j = true → L j = true) → wpList P ops (Only a0 o (fun u w' => J (setB L i) (setV v i u) w')) [o] (putN ops v a0 i) w)
    (hend : ∀ v w, J (fun j => decide (j < ops.size)) v w → Q .normal (putN ops v a0 ops.size) w) :
    ∀ (fuel : Nat) (listed : Array Bool) (a : Act) (w : World) (v : Nat → Value), listed.size = ops.size →
      (∀ j k, listed.getD j false = true → waits ops j k = true → listed.getD k false = true) → todo listed ops.size ≤ fuel →
      J (fun j => listed.getD j false) v w → Mix ops a0 (fun j => listed.getD j false) v a → wpAny P .any ops Q fuel listed a w := by
  have hunl : ∀ (listed : Array Bool) j, listed.size = ops.size → j < ops.size → listed.getD j true = listed.getD j false := fun listed j hs hj => by
    have : j < listed.size := by omega
    simp [this]
  have hdone : ∀ (listed : Array Bool) (a : Act) (w : World) (v : Nat → Value), listed.size = ops.size → (∀ j, j < ops.size → listed.getD j false = true) →
      J (fun j => listed.getD j false) v w → Mix ops a0 (fun j => listed.getD j false) v a → Q .normal a w := by
    intro listed a w v hs hall hj hm
    have hLL : (fun j => listed.getD j false) = fun j => decide (j < ops.size) := funext fun j => by
      by_cases h : j < ops.size
      · rw [hall j h, decide_eq_true h]
      · rw [decide_eq_false h]
        have : ¬ j < listed.size := by omega
        simp [this]
    rw [hLL] at hj hm
    rw [hm.same (Mix.putN v hD ops.size) hD rfl]
    exact hend v w hj
  -- where none may come up, all have
  have hstuck : ∀ (listed : Array Bool), listed.size = ops.size → Region.ready .any ops listed = [] → ∀ j, j < ops.size → listed.getD j false = true := by
    intro listed hs hr j
    induction j using Nat.strongRecOn with
    | ind j ih =>
      intro hj
      cases hlj : listed.getD j false with
      | true => rfl
      | false =>
        exfalso
        have : j ∈ Region.ready .any ops listed := by
          refine mem_ready.2 ⟨(hunl listed j hs hj).trans hlj, ops[j], by simp [hj], fun e he hb => ?_⟩
          have hk := hlt j e.on (waits_of (by simp [hj]) he hb)
          exact ih e.on hk (by omega)
        rw [hr] at this
        cases this
  intro fuel
  induction fuel with
  | zero =>
    intro listed a w v hs hdc hto hj hm
    have hall : ∀ j, j < ops.size → listed.getD j false = true := by
      intro j hjl
      cases hlj : listed.getD j false with
      | true => rfl
      | false =>
        have : j ∈ (List.range ops.size).filter (fun j => !listed.getD j false) := List.mem_filter.2 ⟨List.mem_range.2 hjl, by simp [hlj]⟩
        unfold todo at hto
        rw [List.length_eq_zero_iff.1 (Nat.le_zero.1 hto)] at this
        cases this
    refine ⟨?_, hdone listed a w v hs hall hj hm⟩
    apply List.eq_nil_iff_forall_not_mem.2
    intro i hi
    obtain ⟨h1, o, ho, _⟩ := mem_ready.1 hi
    have hil := (Array.getElem?_eq_some_iff.1 ho).1
    rw [hunl listed i hs hil, hall i hil] at h1
    cases h1
  | succ fuel ih =>
    intro listed a w v hs hdc hto hj hm
    refine ⟨fun h0 => hdone listed a w v hs (hstuck listed hs h0) hj hm, fun i hi => ?_⟩
    obtain ⟨h1, o, ho, hall⟩ := mem_ready.1 hi
    have hil := (Array.getElem?_eq_some_iff.1 ho).1
    rw [hunl listed i hs hil] at h1
    have hwi : ∀ j, waits ops i j = true → listed.getD j false = true := fun j hw => by
      obtain ⟨e, he, hb, rfl⟩ := of_waits ho hw
      exact hall e he hb
    have hp := Mix.putN (a0 := a0) v hD i
    -- what it looks at is the same in both frames
    have heq : ∀ t, t ∈ o.looksAt ops → a.tmps[t]? = (putN ops v a0 i).tmps[t]? := by
      intro t ht
      by_cases hx : ∃ j, dstOf ops j = some t
      · obtain ⟨j, hd⟩ := hx
        have htl := dst_lt hD hd
        have hjs : ∃ oj, ops[j]? = some oj ∧ oj.dst = some t := by
          unfold dstOf at hd
          cases hoj : ops[j]? with
          | none => rw [hoj] at hd; cases hd
          | some oj => rw [hoj] at hd; exact ⟨oj, rfl, hd⟩
        obtain ⟨oj, hoj, hdj⟩ := hjs
        rcases Nat.lt_trichotomy j i with hji | hji | hji
        · have hw : waits ops i j = true := by
            rcases hlex j i oj o hji hoj ho with h | h
            · exact h
            · exact absurd ht ((Oper.apart_spec h).1 t hdj)
          rw [hm.got j t (hwi j hw) hd htl, hp.got j t (by simp [hji]) hd htl]
        · subst hji
          rw [hm.kept t (fun m hmL hmd => by
            have := dst_ne hD hmd hd
            subst this
            rw [h1] at hmL
            cases hmL), hp.kept t (fun m hmL hmd => by
            have := dst_ne hD hmd hd
            subst this
            simp at hmL)]
        · have hlj : listed.getD j false = false := by
            cases hlj : listed.getD j false with
            | false => rfl
            | true =>
              rcases hlex i j o oj hji ho hoj with h | h
              · have := hdc j i hlj h
                rw [h1] at this
                cases this
              · exact absurd ht ((Oper.apart_spec h).2.2 t hdj)
          rw [hm.kept t (fun m hmL hmd => by
            have := dst_ne hD hmd hd
            subst this
            rw [hlj] at hmL
            cases hmL), hp.kept t (fun m hmL hmd => by
            have := dst_ne hD hmd hd
            subst this
            simp at hmL
            omega)]
      · rw [hm.kept t (fun m _ hmd => hx ⟨m, hmd⟩), hp.kept t (fun m _ hmd => hx ⟨m, hmd⟩)]
    have hex : execOp a.eval o = execOp (putN ops v a0 i).eval o := by
      refine execOp_congr o (fun cs b => Region.noSelect_spec hsel i o cs b ho) fun x hx => ?_
      cases x with
      | tmp t =>
        have ht : t ∈ o.looksAt ops := List.mem_append_left _ (List.mem_filterMap.2 ⟨.tmp t, by simpa using hx, rfl⟩)
        have := heq t ht
        simp only [Act.eval, Array.getD_eq_getD_getElem?, this]
      | _ => rfl
    have hwa : Region.wanted o (yielded ops a.tmps) = Region.wanted o (yielded ops (putN ops v a0 i).tmps) := by
      unfold Region.wanted
      cases hg : o.guard with
      | none => rfl
      | some gw =>
        obtain ⟨g, want⟩ := gw
        have hy : yielded ops a.tmps g = yielded ops (putN ops v a0 i).tmps g := by
          unfold yielded
          cases ht : (ops[g]?).bind (·.dst) with
          | none => rfl
          | some t =>
            have := heq t (by simp [Oper.looksAt, hg, ht])
            simp only [Option.bind_some, this]
        simp only [hy]
    refine wpOp_of_only ho hp.defers (fun d hd => ?_) hex hwa (hstep i o ho _ v w hj h1 hwi) fun u w' hu => ?_
    · rw [hp.size]
      exact dst_lt hD (show dstOf ops i = some d by unfold dstOf; rw [ho]; exact hd)
    · have hset : (fun j => (listed.setIfInBounds i true).getD j false) = setB (fun j => listed.getD j false) i := funext fun j => by
        unfold setB
        split
        · rename_i hji
          subst hji
          have : j < listed.size := by omega
          simp [this]
        · rename_i hji
          exact getD_set_ne false (Ne.symm hji)
      refine ih (listed.setIfInBounds i true) _ w' (setV v i u) (by simpa using hs) ?_ ?_ (by rw [hset]; exact hu) ?_
      · intro j k hjL hw
        by_cases hkj : k = i
        · subst hkj
          have : k < listed.size := by omega
          simp [this]
        · rw [getD_set_ne false (Ne.symm hkj)]
          by_cases hji : j = i
          · subst hji
            exact hwi k hw
          · rw [getD_set_ne false (Ne.symm hji)] at hjL
            exact hdc j k hjL hw
      · have := todo_set hil hs h1
        omega
      · rw [hset]
        have := hm.put hD i u
        unfold dstOf at this
        rw [ho] at this
        exact this

/-- **A region that draws its order**: J holds at its start, is kept by each operation in its place, and suffices behind all of them. -/
theorem region_mono {id : Nat} {Q : Exit → Act → World → Prop} {a0 : Act} {w : World} {l : List Oper} (J : (Nat → Bool) → (Nat → Value) → World → Prop)
    (hm : P.follows .mixedOrders = true) (hB : Region.lexB .any l.toArray = true) (hD : dstsB l.toArray a0.tmps.size = true)
    (h0 : J (fun _ => false) (fun _ => undef) w.drew)
    (hs : Steps P l.toArray a0 J (fun F => ∀ v w', J (fun j => decide (j < l.length)) v w' → Q .normal (F v) w') 0 l (fun _ => a0)) : (Code.region id l.toArray true).wp P Q a0 w := by
  simp only [Region.lexB, Bool.and_eq_true] at hB
  have hempty : ∀ j, (Array.replicate l.toArray.size false).getD j false = false := fun j => by
    simp [Array.getElem?_replicate]
    split <;> rfl
  have hl0 : ∀ j, j < l.toArray.size → (Array.replicate l.toArray.size false).getD j false = decide (j < 0) := fun j _ => by rw [hempty]; simp
  have hend := Steps.last l 0 (fun _ => a0) (fun j => by simp) (fun _ => rfl) hs
  rw [Nat.zero_add] at hend
  refine wp_region_any hm (wpAny_mono (J := J) hD hB.1 (fun i j oi oj hij => lex_apart l.toArray.size 0 _ (by simp) hl0 hB.2 (by omega) i j oi oj (Nat.zero_le _) hij)
    (fun i k => lex_waits l.toArray.size 0 _ (by simp) hl0 hB.2 (by omega) i k (Nat.zero_le _))
    (fun i o => Steps.get l 0 (fun _ => a0) (fun j => by simp) (fun _ => rfl) hs i o (Nat.zero_le _)) (fun v w' h => ?_) l.toArray.size _ a0 _ (fun _ => undef) (by simp) ?_ ?_ ?_ ?_)
  · simp only [List.size_toArray] at h ⊢
    exact hend v w' h
  · intro j k hj
    rw [hempty] at hj
    cases hj
  · unfold todo
    exact Nat.le_trans (List.length_filter_le _ _) (by simp)
  · rw [show (fun j => (Array.replicate l.toArray.size false).getD j false) = fun _ => false from funext hempty]
    exact h0
  · rw [show (fun j => (Array.replicate l.toArray.size false).getD j false) = fun _ => false from funext hempty]
    exact Mix.start a0 _
end
end Go.Proofs.Yteikhnmmkanndaa
