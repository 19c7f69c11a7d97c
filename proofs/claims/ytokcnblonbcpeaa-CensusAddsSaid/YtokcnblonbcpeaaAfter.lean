/- The walk of census.After: the census of the n-grams behind a context. -/
import Derived.RangeFuncNested
import Derived.RangeFuncBound
import Derived.RangeFuncCalls
import Derived.RangeFuncLeaves
import Derived.Shelf.Abstract
import Derived.Shelf.RegionOpen
import Derived.TacticsInMore
import Derived.LoopNIn
import Derived.LoopIn
import Derived.Test.YtokcnblonbcpeaaAddW
import Derived.Test.YtokcnblonbcpeaaCOf
import Derived.Test.YtokcnblonbcpeaaIter
namespace Go.Proofs.Ytokcnblonbcpeaa
open Go.RowKit Go.Shelf

attribute [local go_sem] Oper.semAt_some

theorem behind_any (A B : Option Addr) (n1 c1 n2 c2 : Nat) (w : World) :
    Calls Try.prog 34 #[.slice A n1 c1, .slice B n2 c2] w fun e w' => e = .returned (.func (.func 35) #[] #[.pointer (some ⟨w.heap.size, 0, none⟩), .pointer (some ⟨w.heap.size + 1, 0, none⟩)]) ∧ w' = (w.alloc (.cells #[.slice A n1 c1] 22)).alloc (.cells #[.slice B n2 c2] 47) := by
  go_enter Try.func34, Try.ntmps34
  go_wp2
  go_ret
  exact ⟨by simp, rfl⟩

theorem blk_own {B : Nat} (g : Nat) (t : TypeId) {β : Type} (cs : β → Array Value) : OwnFrom B (fun s W => Blk W g t (cs s)) := by
  intro s W W' row hs hg hr
  refine hs.grown hg ?_
  intro e
  obtain ⟨_, o, ho, hc⟩ := hr g e.symm
  unfold Blk at hs
  rw [hs] at ho
  cases ho
  cases hc

set_option maxRecDepth 100000 in
set_option maxHeartbeats 2000000 in
theorem after_any (A B : Option Addr) (L : List Cnt) (h : List Int) (cap caph : Nat) (w : World) (hn : L.length ≤ 1000) (hhn : h.length ≤ 1000) (hcap : L.length ≤ cap) (hs : Sorted L) (hc : CntsAt w A L) (hh : IntsAt w B h) :
    Calls Try.prog 24 #[.slice A L.length cap, .slice B h.length caph] w fun e w' => e = .returned (.agg (cenW (after L h)).cells) ∧ Below w.heap.size w w' := by
  refine (callsIn_wide (n := 5)).1 ?_
  refine callsIn_of_wp_marks Try.func24 rfl trivial ?_ rfl
  simp only [Try.ntmps24, List.size_toArray, List.length_cons, List.length_nil, Nat.reduceAdd, Nat.reduceSub, Array.replicate_succ, Array.replicate_zero, List.push_toArray, List.append_toArray, List.nil_append, List.cons_append]
  gi_wp2_with fail
  refine ⟨trivial, (callsIn_wide (n := 4)).2 ((behind_any _ _ _ _ _ _ _).mono ?_)⟩
  rintro e w1 ⟨rfl, rfl⟩
  gi_wp2
  have hss : w.heap.size + 4 = w.heap.size + 1 + 1 + 1 + 1 := rfl
  have HS := Lib.hid hs
  have e0 := Blk.new w 28 Cen.zero.cells
  have e1 := Blk.new (w.alloc (.cells Cen.zero.cells 28)) 28 Cen.zero.cells
  rw [World.size_alloc] at e1
  have e2 := Blk.new ((w.alloc (.cells Cen.zero.cells 28)).alloc (.cells Cen.zero.cells 28)) 22 #[.slice A L.length cap]
  have e3 := Blk.new (((w.alloc (.cells Cen.zero.cells 28)).alloc (.cells Cen.zero.cells 28)).alloc (.cells #[.slice A L.length cap] 22)) 47 #[.slice B h.length caph]
  simp only [World.size_alloc] at e2 e3
  have hb0 := cba (cba (cba (cba (Below.refl _ w) (.cells Cen.zero.cells 28)) (.cells Cen.zero.cells 28)) (.cells #[.slice A L.length cap] 22)) (.cells #[.slice B h.length caph] 47)
  have e0' := ((e0.alloc (.cells Cen.zero.cells 28)).alloc (.cells #[.slice A L.length cap] 22)).alloc (.cells #[.slice B h.length caph] 47)
  have e1' := (e1.alloc (.cells #[.slice A L.length cap] 22)).alloc (.cells #[.slice B h.length caph] 47)
  have e2' := e2.alloc (.cells #[.slice B h.length caph] 47)
  have hsz : ((((w.alloc (.cells Cen.zero.cells 28)).alloc (.cells Cen.zero.cells 28)).alloc (.cells #[.slice A L.length cap] 22)).alloc (.cells #[.slice B h.length caph] 47)).heap.size = w.heap.size + 4 := by simp
  clear e0 e1 e2
  change Code.wpIn _ _ _ _ _ _ ((((w.alloc (.cells Cen.zero.cells 28)).alloc (.cells Cen.zero.cells 28)).alloc (.cells #[.slice A L.length cap] 22)).alloc (.cells #[.slice B h.length caph] 47))
  obtain ⟨X, hX⟩ : ∃ X, ((((w.alloc (.cells Cen.zero.cells 28)).alloc (.cells Cen.zero.cells 28)).alloc (.cells #[.slice A L.length cap] 22)).alloc (.cells #[.slice B h.length caph] 47)) = X := ⟨_, rfl⟩
  rw [hX] at e0' e1' e2' e3 hb0 hsz ⊢
  clear hX
  obtain ⟨vs, hvs⟩ := hc.vals
  have hvX : CntsV X A L vs := fun i hi => by
    obtain ⟨b, o, h1, h2, h3, h4, h5, h6, h7⟩ := hvs i hi
    exact ⟨b, o, h1, Nat.lt_of_lt_of_le h2 hb0.size, (hb0.cell (p := ⟨b, _, none⟩) h2).trans h3, (hb0.cell (p := ⟨b, _, none⟩) h2).trans h4, h5.below hb0, h6, h7⟩
  have hhX := hh.below hb0
  refine wpIn_rangeFunc_ownH rfl (by omega) (gf := 35) (lb := #[.pointer (some ⟨w.heap.size + 1 + 1, 0, none⟩), .pointer (some ⟨w.heap.size + 1 + 1 + 1, 0, none⟩)]) rfl trivial (enters_of Try.func35 (by kernel_rfl) rfl)
    (encs := fun x : { i : Nat // i < L.length } => #[.agg #[vs x.1, .int .i64 (L[x.1]'x.2).n]]) (Kp := Stays (w.heap.size + 1)) (S := fun xs => xs.map (fun x => L[x.1]'x.2) = after L h) (Sp := fun _ => True) (N := L.length) (w0 := X)
    (fun l J Jx W hW hJ _ hY h0 => iter_in 4 l (w.heap.size + 1) A B L h cap caph vs (w.heap.size + 1 + 1) (w.heap.size + 1 + 1 + 1) X W hs hn hhn hcap hvX hhX (e2'.cell 0) (e3.cell 0) hW (by omega)
      (fun b o e hl => by
        obtain ⟨b', o', e', hlt, _⟩ := hvs 0 hl
        rw [e] at e'
        cases e'
        omega)
      (fun b o e hl => by
        obtain ⟨b', o', e', hlt, _⟩ := hh 0 hl
        rw [e] at e'
        cases e'
        omega)
      (fun i b o n cp hi e hl => by
        obtain ⟨_, _, _, _, _, _, ⟨A', cp', ev, _, _, hI⟩, _⟩ := hvs i hi
        rw [e] at ev
        injection ev with ev1 ev2 ev3
        obtain ⟨b', o', e', hlt, _⟩ := hI 0 (by omega)
        rw [← ev1] at e'
        cases e'
        omega)
      J Jx hJ hY h0)
    (fun h k => h.trans k)
    (fun W l o o' _ h1 h2 _ => ⟨by simp, fun p v _ hv => cell_kept hv (grownBy_putObj' W l o') (fun r e => by cases e; exact ⟨o, h1, h2⟩)⟩)
    (Below.refl _ _) (fun _ => rfl)
    (fun pre W => (Blk W (w.heap.size + 1) 28 (cenW (pre.map (fun x => L[x.1]'x.2))).cells ∧ Blk W w.heap.size 28 Cen.zero.cells) ∧ Below w.heap.size w W)
    (fun _ _ _ => False)
    (OwnFrom.and (OwnFrom.and (blk_own _ _ _) (blk_own _ _ _)) (ownFrom_below (Nat.le_refl _) (by omega)))
    (fun _ _ _ _ _ hs _ _ => hs)
    ⟨⟨e1', e0'⟩, hb0⟩
    (fun x a' W => ∃ Bx, w.heap.size + 1 < Bx ∧ Blk W Bx 52 #[vs x.1, .int .i64 (L[x.1]'x.2).n] ∧ a' = { tmps := #[.slice A L.length cap, .slice B h.length caph, undef, undef, .pointer (some ⟨w.heap.size, 0, none⟩), .pointer (some ⟨w.heap.size + 1, 0, none⟩), .pointer (some ⟨Bx, 0, none⟩), .slice A L.length cap, .slice B h.length caph, .func (.func 35) #[] #[.pointer (some ⟨w.heap.size + 1 + 1, 0, none⟩), .pointer (some ⟨w.heap.size + 1 + 1 + 1, 0, none⟩)], .agg #[vs x.1, .int .i64 (L[x.1]'x.2).n], undef, undef, undef], defers := [] })
    (fun x a' s X Y row hs hg hr => by
      obtain ⟨Bx, h1, h2, h3⟩ := hs
      exact ⟨Bx, h1, blk_own (B := 0) Bx 52 (fun (_ : Unit) => #[vs x.1, .int .i64 (L[x.1]'x.2).n]) () X Y row h2 hg (fun r e => ⟨Nat.zero_le _, (hr r e).2⟩), h3⟩)
    ?assign ?body ?done ?stop
  case assign =>
    rintro l pre x W K ⟨⟨b1, b0⟩, hB⟩ hK
    obtain ⟨A', cp', ev⟩ : ∃ A' cp', vs x.1 = .slice A' (L[x.1]'x.2).g.length cp' := by
      obtain ⟨_, _, _, _, _, _, ⟨A', cp', ev, _⟩, _⟩ := hvs x.1 x.2
      exact ⟨A', cp', ev⟩
    rw [ev] at hK
    have hbn := Blk.new W 52 #[.slice A' L[x.1].g.length cp', .int .i64 (L[x.1]'x.2).n]
    have HK := Lib.hid hK
    rw [ev]
    clear hK
    gi_wp2
    exact HK.out _ _ ((KeepsOthers.alloc _ _).from _) (Stays.of_below (cba (Below.refl _ W) _)) ⟨⟨b1.alloc _, b0.alloc _⟩, hB.alloc hB.size _⟩ ⟨W.heap.size, b1.lt, hbn, rfl⟩
  case body =>
    rintro l pre x a' W hl ⟨r, hr⟩ ⟨⟨b1, b0⟩, hB⟩ ⟨Bx, hBx, bX, rfl⟩ hlt
    obtain ⟨hV, A', cp', ev⟩ : IsInts w (vs x.1) (L[x.1]'x.2).g ∧ ∃ A' cp', vs x.1 = .slice A' (L[x.1]'x.2).g.length cp' := by
      obtain ⟨_, _, _, _, _, _, ⟨A', cp', ev, hh⟩, _⟩ := hvs x.1 x.2
      exact ⟨⟨A', cp', ev, hh⟩, A', cp', ev⟩
    have q0 := bX.cell 0
    have q1 := bX.cell 1
    have hq := (callsIn_wide (n := 2)).2 (addw_any (w.heap.size + 1) (cenW (pre.map (fun x => L[x.1]'x.2))) (L[x.1]'x.2) (vs x.1) W pre.length (by omega) (by have := Cen.ok_cenW (pre.map (fun x => L[x.1]'x.2)); rwa [List.length_map] at this) b1 (hV.below hB))
    rw [ev] at bX q0 q1 hq ⊢
    have q0' : W.cell? ⟨Bx, 0, none⟩ = some (.slice A' L[x.1].g.length cp') := q0
    have q1' : W.cell? ⟨Bx, 1, none⟩ = some (.int .i64 (L[x.1]'x.2).n) := q1
    have HQ := Lib.hid hq
    clear hq q0 q1
    gi_wp2_with fail
    refine ⟨trivial, (CallsIn.inRound l HQ.out).mono ?_⟩
    rintro e w' ⟨rfl, hblk1, hgr⟩
    gi_wp2
    refine ⟨?_, Stays.of_grown hgr, ⟨?_, b0.grown hgr (by simp)⟩, hB.grown hgr hB.size (fun k e => by cases e; omega)⟩
    · exact KeepsFrom.of_grownBy hgr (fun j e => by cases e; omega)
    · rw [List.map_append, List.map_singleton, cenW_snoc]
      exact hblk1
  case done =>
    rintro D zs W hD hzs ⟨⟨b1, hres⟩, hB⟩ hK
    rw [hzs] at b1
    have hb1 := hB.size
    have q0 : W.cell? ⟨w.heap.size + 1, 0, none⟩ = some (.int .i64 (cenW (after L h)).ty) := b1.cell 0
    have q1 : W.cell? ⟨w.heap.size + 1, 1, none⟩ = some (.int .i64 (cenW (after L h)).tot) := b1.cell 1
    have q2 : W.cell? ⟨w.heap.size + 1, 2, none⟩ = some (.int .i64 0) := b1.cell 2
    have q3 : W.cell? ⟨w.heap.size + 1, 3, none⟩ = some (.int .i64 (cenW (after L h)).n1) := b1.cell 3
    have q4 : W.cell? ⟨w.heap.size + 1, 4, none⟩ = some (.int .i64 (cenW (after L h)).n2) := b1.cell 4
    have q5 : W.cell? ⟨w.heap.size + 1, 5, none⟩ = some (.int .i64 (cenW (after L h)).n3) := b1.cell 5
    have q6 : W.cell? ⟨w.heap.size + 1, 6, none⟩ = some (.int .i64 (cenW (after L h)).n4) := b1.cell 6
    have r0 : W.cell? ⟨w.heap.size, 0, none⟩ = some (.int .i64 0) := hres.cell 0
    have r1 : W.cell? ⟨w.heap.size, 1, none⟩ = some (.int .i64 0) := hres.cell 1
    have r2 : W.cell? ⟨w.heap.size, 2, none⟩ = some (.int .i64 0) := hres.cell 2
    have r3 : W.cell? ⟨w.heap.size, 3, none⟩ = some (.int .i64 0) := hres.cell 3
    have r4 : W.cell? ⟨w.heap.size, 4, none⟩ = some (.int .i64 0) := hres.cell 4
    have r5 : W.cell? ⟨w.heap.size, 5, none⟩ = some (.int .i64 0) := hres.cell 5
    have r6 : W.cell? ⟨w.heap.size, 6, none⟩ = some (.int .i64 0) := hres.cell 6
    have f0 := hres.frozen 0
    have f1 := hres.frozen 1
    have f2 := hres.frozen 2
    have f3 := hres.frozen 3
    have f4 := hres.frozen 4
    have f5 := hres.frozen 5
    have f6 := hres.frozen 6
    clear hc hvs hvX
    gi_wp2
    have hD' : ∀ i, (⟨w.heap.size, i, none⟩ : Addr).block ≠ D := fun i => by
      show w.heap.size ≠ D
      omega
    have hR := (((((((hres.set_ 0 (.int .i64 (cenW (after L h)).ty)).set_ 1 (.int .i64 (cenW (after L h)).tot)).set_ 2 (.int .i64 0)).set_ 3 (.int .i64 (cenW (after L h)).n1)).set_ 4 (.int .i64 (cenW (after L h)).n2)).set_ 5 (.int .i64 (cenW (after L h)).n3)).set_ 6 (.int .i64 (cenW (after L h)).n4))
    have hBB := ((((((hB.setCell (p := ⟨w.heap.size, 0, none⟩) (Nat.le_refl _) (.int .i64 (cenW (after L h)).ty)).setCell (p := ⟨w.heap.size, 1, none⟩) (Nat.le_refl _) (.int .i64 (cenW (after L h)).tot)).setCell (p := ⟨w.heap.size, 2, none⟩) (Nat.le_refl _) (.int .i64 0)).setCell (p := ⟨w.heap.size, 3, none⟩) (Nat.le_refl _) (.int .i64 (cenW (after L h)).n1)).setCell (p := ⟨w.heap.size, 4, none⟩) (Nat.le_refl _) (.int .i64 (cenW (after L h)).n2)).setCell (p := ⟨w.heap.size, 5, none⟩) (Nat.le_refl _) (.int .i64 (cenW (after L h)).n3)).setCell (p := ⟨w.heap.size, 6, none⟩) (Nat.le_refl _) (.int .i64 (cenW (after L h)).n4)
    have hK' := hK
    rw [← Below.heap_setCell W ⟨w.heap.size, 0, none⟩ (.int .i64 (cenW (after L h)).ty) D (hD' 0).symm] at hK'
    rw [← Below.heap_setCell _ ⟨w.heap.size, 1, none⟩ (.int .i64 (cenW (after L h)).tot) D (hD' 1).symm] at hK'
    rw [← Below.heap_setCell _ ⟨w.heap.size, 2, none⟩ (.int .i64 0) D (hD' 2).symm] at hK'
    rw [← Below.heap_setCell _ ⟨w.heap.size, 3, none⟩ (.int .i64 (cenW (after L h)).n1) D (hD' 3).symm] at hK'
    rw [← Below.heap_setCell _ ⟨w.heap.size, 4, none⟩ (.int .i64 (cenW (after L h)).n2) D (hD' 4).symm] at hK'
    rw [← Below.heap_setCell _ ⟨w.heap.size, 5, none⟩ (.int .i64 (cenW (after L h)).n3) D (hD' 5).symm] at hK'
    rw [← Below.heap_setCell _ ⟨w.heap.size, 6, none⟩ (.int .i64 (cenW (after L h)).n4) D (hD' 6).symm] at hK'
    refine ⟨by simp, .inl ⟨_, _, rfl, run_takeDeferred hK', ?_⟩⟩
    generalize ((((((W.setCell ⟨w.heap.size, 0, none⟩ (.int .i64 (cenW (after L h)).ty)).setCell ⟨w.heap.size, 1, none⟩ (.int .i64 (cenW (after L h)).tot)).setCell ⟨w.heap.size, 2, none⟩ (.int .i64 0)).setCell ⟨w.heap.size, 3, none⟩ (.int .i64 (cenW (after L h)).n1)).setCell ⟨w.heap.size, 4, none⟩ (.int .i64 (cenW (after L h)).n2)).setCell ⟨w.heap.size, 5, none⟩ (.int .i64 (cenW (after L h)).n3)).setCell ⟨w.heap.size, 6, none⟩ (.int .i64 (cenW (after L h)).n4) = Y at hR hBB hK' ⊢
    have hZ : Blk (Y.putObj D (.deferred none)) w.heap.size 28 (cenW (after L h)).cells := by
      have := hR.grown (grownBy_putObj' Y D (.deferred none)) (by simp; omega)
      simpa [Cen.cells, Cen.zero] using this
    have r0 := hZ.cell 0
    have r1 := hZ.cell 1
    have r2 := hZ.cell 2
    have r3 := hZ.cell 3
    have r4 := hZ.cell 4
    have r5 := hZ.cell 5
    have r6 := hZ.cell 6
    refine ⟨.agg (cenW (after L h)).cells, by simp [results, Try.f24, go_sem, r0, r1, r2, r3, r4, r5, r6, Cen.cells], rfl, hBB.trans (belowK_b (w := w) (Nat.le_refl _) Y D _ _ (by omega) hK' rfl rfl)⟩
  case stop =>
    rintro D c pre W _ _ h _
    exact h.elim
end Go.Proofs.Ytokcnblonbcpeaa
