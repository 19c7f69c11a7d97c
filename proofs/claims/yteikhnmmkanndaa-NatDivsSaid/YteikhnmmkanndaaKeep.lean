/- What regions keep: facts on values that lie in memory, boxes that a region makes and fills. Plain laws. -/
import Derived.Test.YteikhnmmkanndaaM4
import Derived.Test.YteikhnmmkanndaaMono
namespace Go.Proofs.Yteikhnmmkanndaa
open Go.RowKit Go.Proofs.YteikhnmmkanndaaW.PrintWords

/-- cells that hold numbers are kept. -/
structure Keep (w w' : World) : Prop where
  size : w.heap.size ≤ w'.heap.size
  ints : ∀ p k n, w.cell? p = some (.int k n) → w'.cell? p = some (.int k n)
theorem Keep.refl (w : World) : Keep w w := ⟨Nat.le_refl _, fun _ _ _ h => h⟩
theorem Keep.trans {a b c : World} (h : Keep a b) (k : Keep b c) : Keep a c := ⟨Nat.le_trans h.size k.size, fun p q n hp => k.ints p q n (h.ints p q n hp)⟩
theorem Keep.of_below {w w' : World} (h : Below w.heap.size w w') : Keep w w' := ⟨h.size, fun p _ _ hp => (h.cell (World.block_lt_of_cell? w p hp)).trans hp⟩
/-- not a number. -/
def noInt : Value → Bool
  | .int _ _ => false
  | _ => true
theorem Keep.set {w : World} {g : Nat} {t : TypeId} {cs : Array Value} (h : Blk w g t cs) (o : Nat) (hn : (cs.getD o undef |> noInt) = true) (u : Value) : Keep w (w.setCell ⟨g, o, none⟩ u) := by
  refine ⟨by simp [World.setCell], fun p k n hp => ?_⟩
  by_cases he : p = ⟨g, o, none⟩
  · exfalso
    subst he
    rw [h.cell] at hp
    rw [Array.getD_eq_getD_getElem?, hp] at hn
    cases hn
  · rw [World.cell?_setCell_other w _ p u (fun e => he e.symm)]
    exact hp

theorem N64.keep {w w' : World} {v : Value} {x : Nat} (h : N64 w v x) (k : Keep w w') : N64 w' v x := by
  obtain ⟨A, c, rfl, h1, h2, h3⟩ := h
  refine ⟨A, c, rfl, h1, h2, fun i hi => ?_⟩
  obtain ⟨b, o, hA, hlt, hc⟩ := h3 i hi
  exact ⟨b, o, hA, Nat.lt_of_lt_of_le hlt k.size, k.ints _ _ _ hc⟩
theorem V_keepI {w w' : World} {v : Value} {e : Nat} {kd : IntKind} {l : List Int} (h : Kd.V (Kd.int kd) e w 0 (fun _ => True) v l) (k : Keep w w') : Kd.V (Kd.int kd) e w' 0 (fun _ => True) v l := by
  obtain ⟨A, c, hv, hl, hf⟩ := h
  refine ⟨A, c, hv, hl, ?_⟩
  have hC : Kd.C (Kd.int kd) w A l.length l := Kd.F_now hf
  intro W' hW
  refine ⟨hC.1, hC.2.1, fun hn => ?_⟩
  obtain ⟨ad, hA, hc⟩ := hC.2.2 hn
  refine ⟨ad, hA, fun j p hj => ?_⟩
  obtain ⟨cs, hcl, hK, hcell⟩ := hc j p hj
  refine ⟨cs, hcl, hK, fun i u hu => ?_⟩
  have h1 := hcell i u hu
  have hcs : cs = [.int kd p] := hK
  have hu' : u = .int kd p := by
    rw [hcs] at hu
    match i, hu with
    | 0, hu => exact (Option.some.inj hu).symm
  rw [hu'] at h1 ⊢
  have h2 := k.ints _ _ _ h1
  have hlt := World.block_lt_of_cell? w' _ h2
  rw [World.cell?_of_block (w := w') (hW _ trivial hlt)]
  exact h2
theorem R256.keep {w w' : World} {v : Value} {x : Nat} (h : R256 w v x) (k : Keep w w') : R256 w' v x := V_keepI h k
theorem ByS.keep {w w' : World} {v : Value} {l : List Int} (h : ByS w v l) (k : Keep w w') : ByS w' v l := V_keepI h k

/-- a fact on a value that is kept. -/
structure Kept1 where
  holds : Value → World → Prop
  keeps : ∀ {v : Value} {w w' : World}, holds v w → Keep w w' → holds v w'
def Kept1.eq (u : Value) : Kept1 := ⟨fun v _ => v = u, fun h _ => h⟩
def Kept1.any : Kept1 := ⟨fun _ _ => True, fun h _ => h⟩
def Kept1.n (x : Nat) : Kept1 := ⟨fun v w => N64 w v x, fun h k => h.keep k⟩
def Kept1.r (x : Nat) : Kept1 := ⟨fun v w => R256 w v x, fun h k => h.keep k⟩
def Kept1.by_ (l : List Int) : Kept1 := ⟨fun v w => ByS w v l, fun h k => h.keep k⟩
/-- a tuple of two. -/
def Kept1.two (a b : Kept1) : Kept1 := ⟨fun v w => ∃ x y, v = .tuple #[x, y] ∧ a.holds x w ∧ b.holds y w, fun ⟨x, y, hv, h1, h2⟩ k => ⟨x, y, hv, a.keeps h1 k, b.keeps h2 k⟩⟩
/-- a tuple of three. -/
def Kept1.three (a b c : Kept1) : Kept1 := ⟨fun v w => ∃ x y z, v = .tuple #[x, y, z] ∧ a.holds x w ∧ b.holds y w ∧ c.holds z w, fun ⟨x, y, z, hv, h1, h2, h3⟩ k => ⟨x, y, z, hv, a.keeps h1 k, b.keeps h2 k, c.keeps h3 k⟩⟩

/-- a box that a region makes (at_) and fills (by_), or one that was there and that it fills (at_ none). -/
structure Bx where
  at_ : Nat ⊕ Nat
  by_ : Nat
  ty : TypeId
  old : Array Value
  full : Array Value → World → Prop
  keeps : ∀ {cs : Array Value} {w w' : World}, full cs w → Keep w w' → full cs w'
/-- g is the box's block now. -/
def Bx.own (b : Bx) (L : Nat → Bool) (v : Nat → Value) (g : Nat) : Prop := match b.at_ with
  | .inl i => L i = true ∧ v i = .pointer (some ⟨g, 0, none⟩)
  | .inr r => g = r
/-- operation i is neither the making nor the filling of the box. -/
def Bx.apart (b : Bx) (i : Nat) : Bool := (b.by_ != i) && (match b.at_ with | .inl j => j != i | .inr _ => true)
/-- the blocks that were there and are filled. -/
def oldsOf : List Bx → List Nat
  | [] => []
  | b :: bs => match b.at_ with
    | .inl _ => oldsOf bs
    | .inr r => r :: oldsOf bs

/-- w has what S0 had, but for the blocks T. -/
structure But (T : List Nat) (S0 w : World) : Prop where
  os : w.os = S0.os
  tape : w.tape = S0.tape
  output : w.output = S0.output
  size : S0.heap.size ≤ w.heap.size
  block : ∀ k, k < S0.heap.size → k ∉ T → w.heap[k]? = S0.heap[k]?
theorem But.below {S0 w : World} (h : But [] S0 w) : Below S0.heap.size S0 w := ⟨h.os, h.tape, h.output, h.size, fun k hk => h.block k hk (by simp)⟩
theorem But.start (T : List Nat) (w : World) : But T w w.drew := ⟨rfl, rfl, rfl, Nat.le_refl _, fun _ _ _ => rfl⟩
theorem But.then_ {T : List Nat} {S0 w w' : World} (h : But T S0 w) (k : Below w.heap.size w w') : But T S0 w' :=
  ⟨k.os.trans h.os, k.tape.trans h.tape, k.output.trans h.output, Nat.le_trans h.size k.size, fun j hj hT => (k.block j (Nat.lt_of_lt_of_le hj h.size)).trans (h.block j hj hT)⟩
theorem But.blk {T : List Nat} {S0 w : World} {g : Nat} {t : TypeId} {cs : Array Value} (h : But T S0 w) (hb : Blk S0 g t cs) (hT : g ∉ T) : Blk w g t cs := (h.block g hb.lt hT).trans hb
/-- nothing but block g is another. -/
structure One (g : Nat) (w w' : World) : Prop where
  os : w'.os = w.os
  tape : w'.tape = w.tape
  output : w'.output = w.output
  size : w'.heap.size = w.heap.size
  block : ∀ k, k ≠ g → w'.heap[k]? = w.heap[k]?
theorem One.set (w : World) (g o : Nat) (u : Value) : One g w (w.setCell ⟨g, o, none⟩ u) := ⟨rfl, rfl, rfl, by simp [World.setCell], fun k hk => Below.heap_setCell w _ u k hk⟩
theorem One.trans {g : Nat} {a b c : World} (h : One g a b) (k : One g b c) : One g a c := ⟨k.os.trans h.os, k.tape.trans h.tape, k.output.trans h.output, k.size.trans h.size, fun j hj => (k.block j hj).trans (h.block j hj)⟩
theorem But.one {T : List Nat} {S0 w w' : World} {g : Nat} (h : But T S0 w) (k : One g w w') (hg : g ∈ T ∨ S0.heap.size ≤ g) : But T S0 w' :=
  ⟨k.os.trans h.os, k.tape.trans h.tape, k.output.trans h.output, by rw [k.size]; exact h.size, fun j hj hT => (k.block j (by
    rintro rfl
    rcases hg with hg | hg
    · exact hT hg
    · omega)).trans (h.block j hj hT)⟩

/-- what holds amid a region: begun in S0; the facts A on what its operations have yielded; its boxes. -/
structure Held (S0 : World) (A : Nat → Kept1) (bs : List Bx) (L : Nat → Bool) (v : Nat → Value) (w : World) : Prop where
  but : But (oldsOf bs) S0 w
  keep : Keep S0 w
  facts : ∀ j, L j = true → (A j).holds (v j) w
  is : ∀ b ∈ bs, ∀ i, b.at_ = .inl i → L i = true → ∃ g, v i = .pointer (some ⟨g, 0, none⟩) ∧ S0.heap.size ≤ g
  ord : ∀ b ∈ bs, ∀ i, b.at_ = .inl i → L b.by_ = true → L i = true
  boxes : ∀ b ∈ bs, ∀ g, b.own L v g → if L b.by_ = true then ∃ cs, Blk w g b.ty cs ∧ b.full cs w else Blk w g b.ty b.old
  apart : bs.Pairwise (fun b b' => ∀ g, b.own L v g → b'.own L v g → False)

section
variable {S0 : World} {A : Nat → Kept1} {bs : List Bx} {L : Nat → Bool} {v : Nat → Value} {w w' : World} {i : Nat} {u : Value}
theorem setB_ne {j : Nat} (h : j ≠ i) : setB L i j = L j := if_neg h
theorem setB_self : setB L i i = true := if_pos rfl
theorem setV_ne {j : Nat} (h : j ≠ i) : setV v i u j = v j := if_neg h
theorem setV_self : setV v i u i = u := if_pos rfl
theorem Bx.apart_by {b : Bx} (h : b.apart i = true) : b.by_ ≠ i := by
  unfold Bx.apart at h
  rw [Bool.and_eq_true] at h
  exact bne_iff_ne.1 h.1
theorem Bx.apart_at {b : Bx} (h : b.apart i = true) {j : Nat} (hj : b.at_ = .inl j) : j ≠ i := by
  unfold Bx.apart at h
  rw [Bool.and_eq_true, hj] at h
  exact bne_iff_ne.1 h.2
theorem Bx.own_inl {b : Bx} {j g : Nat} (h : b.at_ = .inl j) : b.own L v g ↔ (L j = true ∧ v j = .pointer (some ⟨g, 0, none⟩)) := by unfold Bx.own; rw [h]
theorem Bx.own_inr {b : Bx} {r g : Nat} (h : b.at_ = .inr r) : b.own L v g ↔ g = r := by unfold Bx.own; rw [h]
theorem Bx.own_of {b : Bx} {g : Nat} (h : b.own (setB L i) (setV v i u) g) (hi : ∀ j, b.at_ = .inl j → j ≠ i) : b.own L v g := by
  cases hb : b.at_ with
  | inl j =>
    rw [Bx.own_inl hb] at h ⊢
    have := hi j hb
    rw [setB_ne this, setV_ne this] at h
    exact h
  | inr r => rw [Bx.own_inr hb] at h ⊢; exact h
theorem Held.start (A : Nat → Kept1) (bs : List Bx) (S0 : World) (hold : ∀ b ∈ bs, ∀ r, b.at_ = .inr r → Blk S0 r b.ty b.old)
    (hne : bs.Pairwise (fun b b' => ∀ r r', b.at_ = .inr r → b'.at_ = .inr r' → r ≠ r')) : Held S0 A bs (fun _ => false) (fun _ => undef) S0.drew := by
  refine ⟨But.start _ _, Keep.of_below (Below.refl _ _).drew, fun _ h => absurd h (by simp), fun _ _ _ _ h => absurd h (by simp), fun _ _ _ _ h => absurd h (by simp), fun b hb g hg => ?_, hne.imp fun {b b'} h g hg hg' => ?_⟩
  · rw [if_neg (by simp)]
    cases hat : b.at_ with
    | inl j => rw [Bx.own_inl hat] at hg; exact absurd hg.1 (by simp)
    | inr r => rw [Bx.own_inr hat] at hg; subst hg; exact hold b hb g hat
  · cases hat : b.at_ with
    | inl j => rw [Bx.own_inl hat] at hg; exact absurd hg.1 (by simp)
    | inr r =>
      cases hat' : b'.at_ with
      | inl j => rw [Bx.own_inl hat'] at hg'; exact absurd hg'.1 (by simp)
      | inr r' => rw [Bx.own_inr hat] at hg; rw [Bx.own_inr hat'] at hg'; exact h r r' hat hat' (hg.symm.trans hg')
/-- an operation that leaves what is there: a load, a move, a call. -/
theorem Held.call (h : Held S0 A bs L v w) (hL : L i = false) (hap : (bs.all fun b => b.apart i) = true) (hb : Below w.heap.size w w') (hA : (A i).holds u w') : Held S0 A bs (setB L i) (setV v i u) w' := by
  have hk := Keep.of_below hb
  have hap' : ∀ b ∈ bs, b.apart i = true := fun b hm => List.all_eq_true.1 hap b hm
  refine ⟨h.but.then_ hb, h.keep.trans hk, fun j hj => ?_, fun b hm j hat hj => ?_, fun b hm j hat hj => ?_, fun b hm g hg => ?_, ?_⟩
  · by_cases hji : j = i
    · subst hji
      rw [setV_self]
      exact hA
    · rw [setB_ne hji] at hj
      rw [setV_ne hji]
      exact (A j).keeps (h.facts j hj) hk
  · have hji := Bx.apart_at (hap' b hm) hat
    rw [setB_ne hji] at hj
    rw [setV_ne hji]
    exact h.is b hm j hat hj
  · rw [setB_ne (Bx.apart_by (hap' b hm))] at hj
    rw [setB_ne (Bx.apart_at (hap' b hm) hat)]
    exact h.ord b hm j hat hj
  · rw [setB_ne (Bx.apart_by (hap' b hm))]
    have h1 := h.boxes b hm g (Bx.own_of hg fun j hj => Bx.apart_at (hap' b hm) hj)
    split
    · rename_i hx
      rw [if_pos hx] at h1
      obtain ⟨cs, hblk, hf⟩ := h1
      exact ⟨cs, blk_below hblk hb, b.keeps hf hk⟩
    · rename_i hx
      rw [if_neg hx] at h1
      exact blk_below h1 hb
  · refine List.Pairwise.imp_of_mem ?_ h.apart
    intro b b' hm hm' hp g hg hg'
    exact hp g (Bx.own_of hg fun j hj => Bx.apart_at (hap' b hm) hj) (Bx.own_of hg' fun j hj => Bx.apart_at (hap' b' hm') hj)
/-- the others: neither made nor filled by i. -/
def Bx.rest (bs : List Bx) (b0 : Bx) (i : Nat) : Prop := b0 ∈ bs ∧ bs.Pairwise (fun b b' => b = b0 ∨ b' = b0 → True) ∧ ∀ b ∈ bs, b = b0 ∨ b.apart i = true
theorem Bx.own_lt (h : Held S0 A bs L v w) {b : Bx} (hm : b ∈ bs) {g : Nat} (hg : b.own L v g) : g < w.heap.size := by
  have h1 := h.boxes b hm g hg
  split at h1
  · obtain ⟨cs, hb, _⟩ := h1; exact hb.lt
  · exact h1.lt
/-- the making of a box. -/
theorem Held.made (h : Held S0 A bs L v w) (hL : L i = false) (b0 : Bx) (hm0 : b0 ∈ bs) (hat : b0.at_ = .inl i) (hone : ∀ b ∈ bs, b.at_ = .inl i → b = b0) (hby : ∀ b ∈ bs, b.by_ ≠ i)
    (hA : (A i).holds (.pointer (some ⟨w.heap.size, 0, none⟩)) (w.alloc (.cells b0.old b0.ty))) (hpw : bs.Pairwise (fun b b' => b = b0 → b' = b0 → False)) :
    Held S0 A bs (setB L i) (setV v i (.pointer (some ⟨w.heap.size, 0, none⟩))) (w.alloc (.cells b0.old b0.ty)) := by
  have hb := cba (Below.refl w.heap.size w) (.cells b0.old b0.ty)
  have hk := Keep.of_below hb
  have hown : ∀ b ∈ bs, ∀ g, b ≠ b0 → b.own (setB L i) (setV v i (.pointer (some ⟨w.heap.size, 0, none⟩))) g → b.own L v g := fun b hm g hne hg => Bx.own_of hg fun j hj hji => hne (hone b hm (by rw [hj, hji]))
  have hown0 : ∀ g, b0.own (setB L i) (setV v i (.pointer (some ⟨w.heap.size, 0, none⟩))) g → g = w.heap.size := fun g hg => by
    rw [Bx.own_inl hat] at hg
    have := hg.2
    rw [setV_self] at this
    have e := Value.pointer.inj this
    have e2 := congrArg Addr.block (Option.some.inj e)
    exact e2.symm
  refine ⟨h.but.then_ hb, h.keep.trans hk, fun j hj => ?_, fun b hm j hj hLj => ?_, fun b hm j hj hLj => ?_, fun b hm g hg => ?_, ?_⟩
  · by_cases hji : j = i
    · subst hji
      rw [setV_self]
      exact hA
    · rw [setB_ne hji] at hj
      rw [setV_ne hji]
      exact (A j).keeps (h.facts j hj) hk
  · by_cases hji : j = i
    · subst hji
      rw [setV_self]
      exact ⟨_, rfl, h.but.size⟩
    · rw [setB_ne hji] at hLj
      rw [setV_ne hji]
      exact h.is b hm j hj hLj
  · by_cases hji : j = i
    · subst hji; exact setB_self
    · rw [setB_ne hji]
      rw [setB_ne (hby b hm)] at hLj
      exact h.ord b hm j hj hLj
  · rw [setB_ne (hby b hm)]
    by_cases hb0 : b = b0
    · subst hb0
      have hg' := hown0 g hg
      subst hg'
      have hnot : ¬ L b.by_ = true := fun hx => by
        have := h.ord b hm i hat hx
        rw [hL] at this
        cases this
      rw [if_neg hnot]
      exact Blk.new w _ _
    · have h1 := h.boxes b hm g (hown b hm g hb0 hg)
      split
      · rename_i hx
        rw [if_pos hx] at h1
        obtain ⟨cs, hblk, hf⟩ := h1
        exact ⟨cs, blk_below hblk hb, b.keeps hf hk⟩
      · rename_i hx
        rw [if_neg hx] at h1
        exact blk_below h1 hb
  · refine List.Pairwise.imp_of_mem ?_ (h.apart.and hpw)
    intro b b' hm hm' ⟨hp, hp0⟩ g hg hg'
    by_cases h1 : b = b0
    · by_cases h2 : b' = b0
      · exact hp0 h1 h2
      · subst h1
        have e := hown0 g hg
        have := Bx.own_lt h hm' (hown b' hm' g h2 hg')
        omega
    · by_cases h2 : b' = b0
      · subst h2
        have e := hown0 g hg'
        have := Bx.own_lt h hm (hown b hm g h1 hg)
        omega
      · exact hp g (hown b hm g h1 hg) (hown b' hm' g h2 hg')
/-- the filling of a box. -/
theorem Held.filled (h : Held S0 A bs L v w) (b0 : Bx) (hm0 : b0 ∈ bs) (hby : b0.by_ = i) (hat : ∀ b ∈ bs, ∀ j, b.at_ = .inl j → j ≠ i) (hone : ∀ b ∈ bs, b ≠ b0 → b.by_ ≠ i) (g : Nat) (hg : b0.own L v g)
    (hst : (∀ j, b0.at_ = .inl j → L j = true)) (ho : One g w w') (hk : Keep w w') {cs : Array Value} (hblk : Blk w' g b0.ty cs) (hf : b0.full cs w') (hA : (A i).holds u w') (hpw : bs.Pairwise (fun b b' => b = b0 → b' = b0 → False)) :
    Held S0 A bs (setB L i) (setV v i u) w' := by
  have hgT : g ∈ oldsOf bs ∨ S0.heap.size ≤ g := by
    cases hb : b0.at_ with
    | inl j =>
      obtain ⟨g', hg', hge⟩ := h.is b0 hm0 j hb (hst j hb)
      rw [Bx.own_inl hb] at hg
      rw [hg.2] at hg'
      have e := congrArg Addr.block (Option.some.inj (Value.pointer.inj hg'))
      right
      rw [show g = g' from e]
      exact hge
    | inr r =>
      left
      rw [Bx.own_inr hb] at hg
      subst hg
      clear h hblk hf hA hpw hone hat hst
      induction bs with
      | nil => cases hm0
      | cons x xs ih =>
        unfold oldsOf
        rcases List.mem_cons.1 hm0 with rfl | hm
        · rw [hb]; exact List.mem_cons_self
        · cases hx : x.at_ with
          | inl _ => exact ih hm
          | inr _ => exact List.mem_cons_of_mem _ (ih hm)
  have hown : ∀ b ∈ bs, ∀ g, b.own (setB L i) (setV v i u) g → b.own L v g := fun b hm g hg => Bx.own_of hg fun j hj => hat b hm j hj
  refine ⟨h.but.one ho hgT, h.keep.trans hk, fun j hj => ?_, fun b hm j hj hLj => ?_, fun b hm j hj hLj => ?_, fun b hm g' hg' => ?_, ?_⟩
  · by_cases hji : j = i
    · subst hji
      rw [setV_self]
      exact hA
    · rw [setB_ne hji] at hj
      rw [setV_ne hji]
      exact (A j).keeps (h.facts j hj) hk
  · have hji := hat b hm j hj
    rw [setB_ne hji] at hLj
    rw [setV_ne hji]
    exact h.is b hm j hj hLj
  · rw [setB_ne (hat b hm j hj)]
    by_cases hb0 : b = b0
    · subst hb0
      exact hst j hj
    · rw [setB_ne (hone b hm hb0)] at hLj
      exact h.ord b hm j hj hLj
  · have hgo := hown b hm g' hg'
    by_cases hb0 : b = b0
    · subst hb0
      have e : g' = g := by
        cases hb : b.at_ with
        | inl j =>
          rw [Bx.own_inl hb] at hgo hg
          have h1 := hgo.2
          rw [hg.2] at h1
          exact (congrArg Addr.block (Option.some.inj (Value.pointer.inj h1))).symm
        | inr r => rw [Bx.own_inr hb] at hgo hg; exact hgo.trans hg.symm
      subst e
      rw [hby, setB_self, if_pos rfl]
      exact ⟨cs, hblk, hf⟩
    · rw [setB_ne (hone b hm hb0)]
      have hne : g' ≠ g := by
        rintro rfl
        have : ∀ (bs : List Bx), bs.Pairwise (fun b b' => ∀ g, b.own L v g → b'.own L v g → False) → b ∈ bs → b0 ∈ bs → False := by
          intro bs
          induction bs with
          | nil => intro _ hm _; cases hm
          | cons x xs ih =>
            intro hpw hm hm0
            obtain ⟨hx, hxs⟩ := List.pairwise_cons.1 hpw
            rcases List.mem_cons.1 hm with rfl | hm1
            · rcases List.mem_cons.1 hm0 with rfl | hm2
              · exact hb0 rfl
              · exact hx _ hm2 g' hgo hg
            · rcases List.mem_cons.1 hm0 with rfl | hm2
              · exact hx _ hm1 g' hg hgo
              · exact ih hxs hm1 hm2
        exact this bs h.apart hm hm0
      have h1 := h.boxes b hm g' hgo
      split
      · rename_i hx
        rw [if_pos hx] at h1
        obtain ⟨cs', hblk', hf'⟩ := h1
        exact ⟨cs', (ho.block g' hne).trans hblk', b.keeps hf' hk⟩
      · rename_i hx
        rw [if_neg hx] at h1
        exact (ho.block g' hne).trans h1
  · refine List.Pairwise.imp_of_mem ?_ h.apart
    intro b b' hm hm' hp g hg hg'
    exact hp g (hown b hm g hg) (hown b' hm' g hg')
end

/-- x is what a fraction of the denominator d holds: the zero one holds 0. -/
def Dn (x d : Nat) : Prop := (x = d ∧ 0 < d) ∨ (x = 0 ∧ d = 1)
theorem Dn.pos {x d : Nat} (h : Dn x d) : 0 < d := by rcases h with ⟨_, h⟩ | ⟨_, h⟩ <;> omega
/-- a value of type Rat that is n by d. -/
def F64 (w : World) (v : Value) (n d : Nat) : Prop := ∃ A p c B q e x, v = .agg #[.slice A p c, .slice B q e] ∧ N64 w (.agg #[.slice A p c]) n ∧ N64 w (.agg #[.slice B q e]) x ∧ Dn x d
theorem F64.keep {w w' : World} {v : Value} {n d : Nat} (h : F64 w v n d) (k : Keep w w') : F64 w' v n d := by
  obtain ⟨A, p, c, B, q, e, x, hv, h1, h2, h3⟩ := h
  exact ⟨A, p, c, B, q, e, x, hv, h1.keep k, h2.keep k, h3⟩
theorem F64.below {w w' : World} {v : Value} {n d : Nat} (h : F64 w v n d) (hb : Below w.heap.size w w') : F64 w' v n d := h.keep (Keep.of_below hb)
/-- a value of the reference's type Rat. -/
def RF (w : World) (v : Value) (n d : Nat) : Prop := ∃ A p c B q e, v = .agg #[.slice A p c, .slice B q e] ∧ R256 w (.slice A p c) n ∧ R256 w (.slice B q e) d
theorem RF.keep {w w' : World} {v : Value} {n d : Nat} (h : RF w v n d) (k : Keep w w') : RF w' v n d := by
  obtain ⟨A, p, c, B, q, e, hv, h1, h2⟩ := h
  exact ⟨A, p, c, B, q, e, hv, h1.keep k, h2.keep k⟩
theorem RF.below {w w' : World} {v : Value} {n d : Nat} (h : RF w v n d) (hb : Below w.heap.size w w') : RF w' v n d := h.keep (Keep.of_below hb)
def Kept1.f (n d : Nat) : Kept1 := ⟨fun v w => F64 w v n d, fun h k => h.keep k⟩
def Kept1.rf (n d : Nat) : Kept1 := ⟨fun v w => RF w v n d, fun h k => h.keep k⟩
/-- what a function answers that makes a fraction. -/
def MkF (w : World) (n d : Nat) : Ending → World → Prop := fun e w' => ∃ v, e = .returned v ∧ F64 w' v n d ∧ Below w.heap.size w w'
def MkR (w : World) (n d : Nat) : Ending → World → Prop := fun e w' => ∃ v, e = .returned v ∧ RF w' v n d ∧ Below w.heap.size w w'
/-- boxes filled with a number, a fraction. -/
def Bx.nat (at_ : Nat ⊕ Nat) (by_ : Nat) (old : Array Value) (x : Nat) : Bx := ⟨at_, by_, 26, old, fun cs w => ∃ A c, cs = #[.slice A (wl 64 x) c] ∧ N64 w (.agg cs) x, fun ⟨A, c, h1, h2⟩ k => ⟨A, c, h1, h2.keep k⟩⟩
def Bx.rat (at_ : Nat ⊕ Nat) (by_ : Nat) (old : Array Value) (n d : Nat) : Bx := ⟨at_, by_, 47, old, fun cs w => F64 w (.agg cs) n d, fun h k => h.keep k⟩
def Bx.ref (at_ : Nat ⊕ Nat) (by_ : Nat) (old : Array Value) (n d : Nat) : Bx := ⟨at_, by_, 52, old, fun cs w => RF w (.agg cs) n d, fun h k => h.keep k⟩
/-- a box that holds a fraction. -/
def BoxF (w : World) (g n d : Nat) : Prop := ∃ A p c B q e, Blk w g 47 #[.slice A p c, .slice B q e] ∧ F64 w (.agg #[.slice A p c, .slice B q e]) n d
theorem BoxF.below {w w' : World} {g n d : Nat} (h : BoxF w g n d) (hb : Below w.heap.size w w') : BoxF w' g n d := by
  obtain ⟨A, p, c, B, q, e, hk, hn⟩ := h
  exact ⟨A, p, c, B, q, e, blk_below hk hb, hn.below hb⟩
def BoxR (w : World) (g n d : Nat) : Prop := ∃ A p c B q e, Blk w g 52 #[.slice A p c, .slice B q e] ∧ RF w (.agg #[.slice A p c, .slice B q e]) n d
theorem BoxR.below {w w' : World} {g n d : Nat} (h : BoxR w g n d) (hb : Below w.heap.size w w') : BoxR w' g n d := by
  obtain ⟨A, p, c, B, q, e, hk, hn⟩ := h
  exact ⟨A, p, c, B, q, e, blk_below hk hb, hn.below hb⟩

/-- operation k makes it. -/
def Bx.makes (b : Bx) (k : Nat) : Bool := match b.at_ with | .inl j => j == k | .inr _ => false
theorem Bx.makes_iff {b : Bx} {k : Nat} : b.makes k = true ↔ b.at_ = .inl k := by
  unfold Bx.makes
  cases b.at_ with
  | inl j => simp
  | inr r => simp
theorem pairwise_of_one {f : Bx → Bool} : ∀ (bs : List Bx), (bs.filter f).length ≤ 1 → bs.Pairwise (fun b b' => f b = true → f b' = true → False)
  | [], _ => List.Pairwise.nil
  | b :: bs, h => by
    refine List.Pairwise.cons (fun b' hb' hf hf' => ?_) (pairwise_of_one bs ?_)
    · rw [List.filter_cons, if_pos hf, List.length_cons] at h
      have : b' ∈ bs.filter f := List.mem_filter.2 ⟨hb', hf'⟩
      rw [List.length_eq_zero_iff.1 (show (bs.filter f).length = 0 by omega)] at this
      cases this
    · rw [List.filter_cons] at h
      split at h
      · rw [List.length_cons] at h; omega
      · exact h
theorem one_of_one {f : Bx → Bool} (bs : List Bx) (h : (bs.filter f).length ≤ 1) {b b' : Bx} (hb : b ∈ bs) (hb' : b' ∈ bs) (hf : f b = true) (hf' : f b' = true) : b = b' := by
  have h1 : b ∈ bs.filter f := List.mem_filter.2 ⟨hb, hf⟩
  have h2 : b' ∈ bs.filter f := List.mem_filter.2 ⟨hb', hf'⟩
  match hl : bs.filter f, h1, h2, h with
  | [], h1, _, _ => cases h1
  | [x], h1, h2, _ => rw [List.mem_singleton.1 h1, List.mem_singleton.1 h2]
  | x :: y :: r, _, _, h => simp at h

/-- amid a region, where operation k comes up. -/
structure Amid (S0 : World) (A : Nat → Kept1) (bs : List Bx) (ops : Array Oper) (k : Nat) (L : Nat → Bool) (v : Nat → Value) (w : World) : Prop where
  held : Held S0 A bs L v w
  new : L k = false
  deps : ∀ j, waits ops k j = true → L j = true
section
variable {P : Program} {ops : Array Oper} {E : ((Nat → Value) → Act) → Prop} {S0 : World} {A : Nat → Kept1} {bs : List Bx} {L : Nat → Bool} {v : Nat → Value} {w w' : World} {k : Nat} {u : Value}
theorem Steps.held {a0 : Act} {o : Oper} {r : List Oper} {F : (Nat → Value) → Act}
    (h : ∀ L v w, Hid (Amid S0 A bs ops k L v w) → wpList P ops (Only a0 o (fun u w' => Held S0 A bs (setB L k) (setV v k u) w')) [o] (F v) w)
    (h2 : Steps P ops a0 (Held S0 A bs) E (k + 1) r (fun v => (F v).put o.dst (v k))) : Steps P ops a0 (Held S0 A bs) E k (o :: r) F :=
  Steps.cons (fun L v w h1 h2 h3 => h L v w (Lib.hid ⟨h1, h2, h3⟩)) h2
theorem Amid.fact (h : Amid S0 A bs ops k L v w) (j : Nat) (hw : waits ops k j = true) : (A j).holds (v j) w := h.held.facts j (h.deps j hw)
theorem Amid.blk (h : Amid S0 A bs ops k L v w) {g : Nat} {t : TypeId} {cs : Array Value} (hb : Blk S0 g t cs) (hT : g ∉ oldsOf bs) : Blk w g t cs := h.held.but.blk hb hT
theorem Amid.call (h : Amid S0 A bs ops k L v w) (hap : (bs.all fun b => b.apart k) = true) (hb : Below w.heap.size w w') (hA : (A k).holds u w') : Held S0 A bs (setB L k) (setV v k u) w' := h.held.call h.new hap hb hA
theorem Amid.same (h : Amid S0 A bs ops k L v w) (hap : (bs.all fun b => b.apart k) = true) (hA : (A k).holds u w) : Held S0 A bs (setB L k) (setV v k u) w := h.held.call h.new hap (Below.refl _ _) hA
/-- box number p is made by operation k. -/
theorem Amid.made (h : Amid S0 A bs ops k L v w) (p : Nat) (b0 : Bx) (hp : bs[p]? = some b0) (hat : b0.at_ = .inl k) (hB : ((bs.filter fun b => b.makes k).length == 1 && bs.all fun b => b.by_ != k) = true)
    (hA : (A k).holds (.pointer (some ⟨w.heap.size, 0, none⟩)) (w.alloc (.cells b0.old b0.ty))) :
    Held S0 A bs (setB L k) (setV v k (.pointer (some ⟨w.heap.size, 0, none⟩))) (w.alloc (.cells b0.old b0.ty)) := by
  rw [Bool.and_eq_true, beq_iff_eq] at hB
  have hle : (bs.filter fun b => b.makes k).length ≤ 1 := by omega
  have hm := List.mem_of_getElem? hp
  exact h.held.made h.new b0 hm hat (fun b hb hb2 => one_of_one bs hle hb hm (Bx.makes_iff.2 hb2) (Bx.makes_iff.2 hat))
    (fun b hb => bne_iff_ne.1 (List.all_eq_true.1 hB.2 b hb)) hA ((pairwise_of_one bs hle).imp fun {b b'} hx hb hb' => hx (Bx.makes_iff.2 (by rw [hb, hat])) (Bx.makes_iff.2 (by rw [hb', hat])))
theorem Amid.filled_ (h : Amid S0 A bs ops k L v w) (p : Nat) (b0 : Bx) (hp : bs[p]? = some b0) (hby : b0.by_ = k) (hB : ((bs.filter fun b => b.by_ == k).length == 1 && bs.all fun b => !b.makes k) = true)
    (g : Nat) (hg : b0.own L v g) (hst : ∀ j, b0.at_ = .inl j → L j = true) (ho : One g w w') (hk : Keep w w') {cs : Array Value} (hblk : Blk w' g b0.ty cs) (hf : b0.full cs w') (hA : (A k).holds u w') : Held S0 A bs (setB L k) (setV v k u) w' := by
  rw [Bool.and_eq_true, beq_iff_eq] at hB
  have hle : (bs.filter fun b => b.by_ == k).length ≤ 1 := by omega
  have hm := List.mem_of_getElem? hp
  exact h.held.filled b0 hm hby (fun b hb j hj hji => by
      have := List.all_eq_true.1 hB.2 b hb
      rw [Bx.makes_iff.2 (by rw [hj, hji])] at this
      cases this)
    (fun b hb hne hbk => hne (one_of_one bs hle hb hm (by rw [hbk]; exact beq_self_eq_true _) (by rw [hby]; exact beq_self_eq_true _))) g hg hst ho hk hblk hf hA
    ((pairwise_of_one bs hle).imp fun {b b'} hx hb hb' => hx (by rw [hb, hby]; exact beq_self_eq_true _) (by rw [hb', hby]; exact beq_self_eq_true _))
/-- the box that operation k is about to fill. -/
theorem Amid.box (h : Amid S0 A bs ops k L v w) (p : Nat) (b0 : Bx) (hp : bs[p]? = some b0) (hby : b0.by_ = k) (g : Nat) (hg : b0.own L v g) : Blk w g b0.ty b0.old := by
  have := h.held.boxes b0 (List.mem_of_getElem? hp) g hg
  rw [hby, h.new] at this
  exact this
theorem Amid.newbox (h : Amid S0 A bs ops k L v w) (p : Nat) (b0 : Bx) (hp : bs[p]? = some b0) (j : Nat) (hat : b0.at_ = .inl j) (hw : waits ops k j = true) :
    ∃ g, v j = .pointer (some ⟨g, 0, none⟩) ∧ S0.heap.size ≤ g ∧ b0.own L v g ∧ ∀ i, b0.at_ = .inl i → L i = true := by
  obtain ⟨g, hg, hge⟩ := h.held.is b0 (List.mem_of_getElem? hp) j hat (h.deps j hw)
  exact ⟨g, hg, hge, (Bx.own_inl hat).2 ⟨h.deps j hw, hg⟩, fun i hi => by rw [hat] at hi; cases hi; exact h.deps j hw⟩
theorem Amid.oldbox (_ : Amid S0 A bs ops k L v w) (p : Nat) (b0 : Bx) (_ : bs[p]? = some b0) (r : Nat) (hat : b0.at_ = .inr r) : b0.own L v r ∧ ∀ i, b0.at_ = .inl i → L i = true :=
  ⟨(Bx.own_inr hat).2 rfl, fun i hi => by rw [hat] at hi; cases hi⟩
/-- behind the region. -/
theorem Held.end_new {n : Nat} (h : Held S0 A bs (fun j => decide (j < n)) v w) (p : Nat) (b0 : Bx) (hp : bs[p]? = some b0) (j : Nat) (hat : b0.at_ = .inl j) (hj : j < n) (hby : b0.by_ < n) :
    ∃ g cs, v j = .pointer (some ⟨g, 0, none⟩) ∧ S0.heap.size ≤ g ∧ Blk w g b0.ty cs ∧ b0.full cs w := by
  have hm := List.mem_of_getElem? hp
  obtain ⟨g, hg, hge⟩ := h.is b0 hm j hat (decide_eq_true hj)
  have := h.boxes b0 hm g ((Bx.own_inl hat).2 ⟨decide_eq_true hj, hg⟩)
  rw [if_pos (decide_eq_true hby)] at this
  obtain ⟨cs, h1, h2⟩ := this
  exact ⟨g, cs, hg, hge, h1, h2⟩
theorem Held.end_old {n : Nat} (h : Held S0 A bs (fun j => decide (j < n)) v w) (p : Nat) (b0 : Bx) (hp : bs[p]? = some b0) (r : Nat) (hat : b0.at_ = .inr r) (hby : b0.by_ < n) : ∃ cs, Blk w r b0.ty cs ∧ b0.full cs w := by
  have := h.boxes b0 (List.mem_of_getElem? hp) r ((Bx.own_inr hat).2 rfl)
  rw [if_pos (decide_eq_true hby)] at this
  exact this
theorem Held.end_fact {n : Nat} (h : Held S0 A bs (fun j => decide (j < n)) v w) (j : Nat) (hj : j < n) : (A j).holds (v j) w := h.facts j (decide_eq_true hj)
/-- a fraction is stored. -/
theorem Amid.fill2 (h : Amid S0 A bs ops k L v w) (p : Nat) (b0 : Bx) (hp : bs[p]? = some b0) (hby : b0.by_ = k) (hB : ((bs.filter fun b => b.by_ == k).length == 1 && bs.all fun b => !b.makes k) = true)
    (g : Nat) (hg : b0.own L v g) (hst : ∀ j, b0.at_ = .inl j → L j = true) (x y : Value) {o1 o2 : Value} (hold : b0.old = #[o1, o2]) (h1 : noInt o1 = true) (h2 : noInt o2 = true)
    (hf : ∀ W, Keep w W → b0.full #[x, y] W) (hA : ∀ W, (A k).holds u W) : Held S0 A bs (setB L k) (setV v k u) ((w.setCell ⟨g, 0, none⟩ x).setCell ⟨g, 1, none⟩ y) := by
  have hb := h.box p b0 hp hby g hg
  rw [hold] at hb
  have hb1 := hb.set_ 0 x
  have hb2 := hb1.set_ 1 y
  have k1 : Keep w (w.setCell ⟨g, 0, none⟩ x) := Keep.set hb 0 h1 x
  have k2 : Keep (w.setCell ⟨g, 0, none⟩ x) ((w.setCell ⟨g, 0, none⟩ x).setCell ⟨g, 1, none⟩ y) := Keep.set hb1 1 h2 y
  exact h.filled_ p b0 hp hby hB g hg hst ((One.set w g 0 x).trans (One.set _ g 1 y)) (k1.trans k2) hb2 (hf _ (k1.trans k2)) (hA _)
/-- a number is stored. -/
theorem Amid.fill1 (h : Amid S0 A bs ops k L v w) (p : Nat) (b0 : Bx) (hp : bs[p]? = some b0) (hby : b0.by_ = k) (hB : ((bs.filter fun b => b.by_ == k).length == 1 && bs.all fun b => !b.makes k) = true)
    (g : Nat) (hg : b0.own L v g) (hst : ∀ j, b0.at_ = .inl j → L j = true) (x : Value) {o1 : Value} (hold : b0.old = #[o1]) (h1 : noInt o1 = true)
    (hf : ∀ W, Keep w W → b0.full #[x] W) (hA : ∀ W, (A k).holds u W) : Held S0 A bs (setB L k) (setV v k u) (w.setCell ⟨g, 0, none⟩ x) := by
  have hb := h.box p b0 hp hby g hg
  rw [hold] at hb
  have hb1 := hb.set_ 0 x
  have k1 : Keep w (w.setCell ⟨g, 0, none⟩ x) := Keep.set hb 0 h1 x
  exact h.filled_ p b0 hp hby hB g hg hst (One.set w g 0 x) k1 hb1 (hf _ k1) (hA _)
end
end Go.Proofs.Yteikhnmmkanndaa
