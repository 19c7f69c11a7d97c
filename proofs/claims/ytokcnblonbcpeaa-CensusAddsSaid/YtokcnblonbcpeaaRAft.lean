/- The walk of the reference's After: the six numbers of the n-grams behind a context. -/
import Derived.Test.YtokcnblonbcpeaaSrch
import Derived.Test.YtokcnblonbcpeaaROf
namespace Go.Proofs.Ytokcnblonbcpeaa
open Go.RowKit

theorem posSum_filter (L : List Cnt) (p : Cnt → Bool) : posSum (L.filter p) ≤ posSum L := by
  induction L with
  | nil => simp
  | cons x L ih =>
    rw [List.filter_cons]
    split
    · unfold posSum; omega
    · conv => rhs; unfold posSum
      omega
theorem filter_take (L : List Cnt) (p : Cnt → Bool) (k : Nat) (h : k < L.length) : (L.take (k + 1)).filter p = if p L[k] = true then (L.take k).filter p ++ [L[k]] else (L.take k).filter p := by
  rw [List.take_succ_eq_append_getElem h, List.filter_append]
  by_cases hp : p L[k] = true
  · rw [if_pos hp]; simp [hp]
  · rw [if_neg hp]; simp [hp]
theorem IntsAt.take {w : World} {A : Option Addr} {g : List Int} (h : IntsAt w A g) (n : Nat) : IntsAt w A (g.take n) := by
  intro i hi
  obtain ⟨b, o, hA, hlt, hc⟩ := h i (by simp at hi; omega)
  exact ⟨b, o, hA, hlt, by rw [hc, List.getElem_take]⟩
/-- the cells of n-grams of which the slices are known. -/
def flat (xs : List (Value × Cnt)) : List Value := xs.flatMap (fun p => [p.1, .int .i64 p.2.n])
theorem flat_length (xs : List (Value × Cnt)) : (flat xs).length = xs.length * 2 := by
  induction xs with
  | nil => rfl
  | cons p xs ih =>
    show ([p.1, Value.int .i64 p.2.n] ++ flat xs).length = _
    rw [List.length_append, ih, List.length_cons]
    simp; omega
theorem flat_append (xs ys : List (Value × Cnt)) : flat (xs ++ ys) = flat xs ++ flat ys := by simp [flat]
theorem flat_at (xs : List (Value × Cnt)) (i : Nat) (h : i < xs.length) : (flat xs)[i * 2]? = some xs[i].1 ∧ (flat xs)[i * 2 + 1]? = some (.int .i64 xs[i].2.n) := by
  induction xs generalizing i with
  | nil => simp at h
  | cons p xs ih =>
    have hc : flat (p :: xs) = p.1 :: .int .i64 p.2.n :: flat xs := rfl
    rw [hc]
    cases i with
    | zero => simp
    | succ i =>
      have := ih i (by simpa using h)
      rw [show (i + 1) * 2 = i * 2 + 1 + 1 by omega]
      simpa using this
theorem cnts_of_row {w w' : World} {base : Nat} {g cap n : Nat} {xs : List (Value × Cnt)} (h : w'.ownsRow base 52 2 (.slice (some ⟨g, 0, none⟩) n cap) xs.length (flat xs)) (hb : Below w.heap.size w w')
    (hx : ∀ p ∈ xs, IsInts w p.1 p.2.g ∧ -9223372036854775808 ≤ p.2.n ∧ p.2.n ≤ 9223372036854775807) : CntsAt w' (some ⟨g, 0, none⟩) (xs.map Prod.snd) := by
  intro i hi
  have hi' : i < xs.length := by simpa using hi
  have hf := flat_at xs i hi'
  have hlt := h.lt g rfl
  have hc := h.cells (g := g) rfl
  have hp := hx xs[i] (List.getElem_mem hi')
  have add_plain : ∀ b o k : Nat, (⟨b, o, none⟩ : Addr).add k = ⟨b, o + k, none⟩ := fun b o k => by unfold Addr.add; split <;> simp_all
  refine ⟨g, 0, xs[i].1, rfl, hlt.2, ?_, ?_, ?_, ?_⟩
  · have := hc _ _ hf.1
    rw [add_plain] at this
    exact this
  · have := hc _ _ hf.2
    rw [add_plain, Nat.zero_add] at this
    rw [Nat.zero_add, List.getElem_map]
    exact this
  · rw [List.getElem_map]; exact hp.1.below hb
  · rw [List.getElem_map]; exact hp.2
theorem two_new (W : World) (a b : Value) (t : TypeId) : ∀ j u, [a, b][j]? = some u → (W.alloc (.cells #[a, b] t)).cell? ((⟨W.heap.size, 0, none⟩ : Addr).add j) = some u := by
  intro j u hj
  have add_plain : ∀ b o k : Nat, (⟨b, o, none⟩ : Addr).add k = ⟨b, o + k, none⟩ := fun b o k => by unfold Addr.add; split <;> simp_all
  rw [add_plain, cell_of_row _ _ _ #[a, b] t (0, 0) (heap_alloc_new _ _), Nat.zero_add]
  simpa using hj
theorem owns_below {w w' : World} {base : Nat} {e : TypeId} {size : Nat} {v : Value} {n : Nat} {xs : List Value} (h : w.ownsRow base e size v n xs) (hb : Below w.heap.size w w') : w'.ownsRow base e size v n xs :=
  h.kept (row := none) ⟨hb.os, hb.tape, hb.output, hb.size, fun i hi _ => hb.block i hi⟩ (by cases v.ownBlock <;> simp)
theorem Try.info52 : (Try.prog.info? 52).map (fun i => (i.zero, i.size, i.bytes)) = some (some (.agg #[.slice none 0 0, .int .i64 0]), 2, 32) := by kernel_rfl

set_option maxHeartbeats 1000000 in
theorem rafter_any (A B : Option Addr) (L : List Cnt) (h : List Int) (cap caph : Nat) (w : World) (hn : L.length ≤ 1099511627776) (hhn : h.length ≤ 1099511627776) (hc : CntsAt w A L) (hh : IntsAt w B h) (hp : posSum L ≤ 4611686018427387904) :
    Calls Try.prog 25 #[.slice A L.length cap, .slice B h.length caph] w fun e w' => e = .returned (.agg (cenOf (after L h)).row) ∧ Below w.heap.size w w' := by
  obtain ⟨i0, hi, hz0, hz1, hz2⟩ := info_parts Try.info52
  have HI := Lib.hid hi
  have HH := Lib.hid hh
  clear hh
  go_enter Try.func25, Try.ntmps25
  go_wp2
  go_loopw [5, 6] (fun v5 v6 wr => ∃ (k : Nat) (xs : List (Value × Cnt)), k ≤ L.length ∧ v6 = .int .i64 k ∧ wr.ownsRow (w.heap.size + 1) 52 2 v5 xs.length (flat xs) ∧ Hid (xs.map Prod.snd = (L.take k).filter (behB h)) ∧ xs.length ≤ k ∧
      Hid (∀ p ∈ xs, IsInts w p.1 p.2.g ∧ -9223372036854775808 ≤ p.2.n ∧ p.2.n ≤ 9223372036854775807) ∧ Blk wr w.heap.size 30 Cen.zero.row ∧ Below w.heap.size w wr) (fun _ v6 _ => L.length - (intOf v6).toNat)
  case atStart => exact ⟨0, [], Nat.zero_le _, rfl, World.ownsRow_nil _ _ _ _, Lib.hid rfl, Nat.le_refl _, Lib.hid (fun p hp => absurd hp (by simp)), Blk.new w 30 _, cba (Below.refl _ _) _⟩
  case round =>
    obtain ⟨k, xs, hk, rfl, hown, hxs, hlx, hall, hres, hb⟩ := hrel
    by_cases hlt : k < L.length
    · obtain ⟨b, o, v, rfl, hbl, hc0, hc1, hv, hr0, hr1⟩ := hc k hlt
      have hv0 := hv
      obtain ⟨A1, cap1, rfl, hl1, hm1, hA1⟩ := hv
      unfold maxLen at hm1
      have g0 : wr.cell? ⟨b, o + k * 2, none⟩ = some (.slice A1 L[k].g.length cap1) := (hb.cell (p := ⟨b, o + k * 2, none⟩) hbl).trans hc0
      have g1 : wr.cell? ⟨b, o + k * 2 + 1, none⟩ = some (.int .i64 L[k].n) := (hb.cell (p := ⟨b, o + k * 2 + 1, none⟩) hbl).trans hc1
      have HF := Lib.hid (filter_take L (behB h) k hlt)
      clear hc hc0 hc1
      obtain ⟨x, hx⟩ : ∃ x, L[k] = x := ⟨_, rfl⟩
      rw [hx] at g0 g1 HF hv0 hA1 hl1 hr0 hr1
      clear hx
      by_cases hlen : x.g.length = h.length + 1
      · have hq : ((x.g.length : Int) == (h.length : Int) + 1) = true := by rw [beq_iff_eq]; omega
        have htl : (x.g.take h.length).length = h.length := by rw [List.length_take]; omega
        have HTL := Lib.hid htl
        have HLEN := Lib.hid hlen
        have hle : h.length ≤ x.g.length := by omega
        clear hlen htl
        have hcall := ints_any A1 B (x.g.take h.length) h cap1 caph wr (by rw [List.length_take]; omega) (by omega) ((hA1.below hb).take h.length) (HH.out.below hb)
        rw [HTL.out] at hcall
        have HCALL := Lib.hid hcall
        clear hcall
        by_cases hpre : x.g.take h.length = h
        · have HD := Lib.hid (decide_eq_true hpre)
          have HB := Lib.hid (show behB h x = true by unfold behB pre; rw [decide_eq_true hpre, decide_eq_true HLEN.out]; rfl)
          clear hpre
          go_wp2_with fail
          refine HCALL.out.mono ?_
          rintro e w1 ⟨rfl, hb1⟩
          rw [HD.out]
          have hown1 := owns_below hown hb1
          have g2 : w1.cell? ⟨b, o + k * 2, none⟩ = some (.slice A1 x.g.length cap1) := (hb1.cell (p := ⟨b, o + k * 2, none⟩) (Nat.lt_of_lt_of_le hbl hb.size)).trans g0
          have g3 : w1.cell? ⟨b, o + k * 2 + 1, none⟩ = some (.int .i64 x.n) := (hb1.cell (p := ⟨b, o + k * 2 + 1, none⟩) (Nat.lt_of_lt_of_le hbl hb.size)).trans g1
          have hbw : Below w.heap.size w w1 := hb.trans (hb1.mono hb.size)
          have hresw : Blk w1 w.heap.size 30 Cen.zero.row := hres.below hb1 hres.lt
          have hbs := hres.lt
          have hbs1 := hb1.size
          go_wp2_with ((at_builtin; refine wpList_append_own _ rfl (.tmp 33) (.tmp 38) 22 rfl (w.heap.size + 1) 52 i0 (.agg #[.slice none 0 0, .int .i64 0]) 2 32 Try.underlying22 HI.out hz0 hz1 hz2 rfl (by decide) _ _ _ rfl (hown1.alloc _) ⟨w1.heap.size, 0, none⟩ 1 1 [.slice A1 x.g.length cap1, .int .i64 x.n] rfl rfl ?c1 ?c2 ?c3 ?c4 ?c5 ?_))
          case c1 => exact two_new _ _ _ _
          case c2 => intro u hu; simp at hu; rcases hu with rfl | rfl <;> rfl
          case c3 => unfold maxLen; omega
          case c4 => omega
          case c5 => simp; omega
          intro v' w2 hown2 hgrow _
          have hlo := hown.lt
          have hne : some w.heap.size ≠ u5.ownBlock := fun e => by
            have := (hlo w.heap.size e.symm).1
            omega
          have hres2 : Blk w2 w.heap.size 30 Cen.zero.row := (hresw.alloc _).grown hgrow hne
          have hb2 : Below w.heap.size w w2 := (hbw.alloc hbw.size _).grown hgrow (by have := hbw.size; simp; omega) (fun g e => by have := (hlo g e).1; omega)
          clear hlo hne
          go_wp2
          go_roundw
          case rel =>
            refine ⟨k + 1, xs ++ [(.slice A1 x.g.length cap1, x)], by omega, by go_num, ?_, Lib.hid ?_, by simp; omega, Lib.hid ?_, hres2, hb2⟩
            · rw [List.length_append, flat_append]; exact hown2
            · rw [List.map_append, hxs.out, HF.out, if_pos HB.out]; rfl
            · intro p hp
              rcases List.mem_append.1 hp with hp | hp
              · exact hall.out p hp
              · obtain rfl : p = (.slice A1 x.g.length cap1, x) := by simpa using hp
                exact ⟨hv0, hr0, hr1⟩
          case measure => simp [intOf]; omega
        · have HD := Lib.hid (decide_eq_false hpre)
          have HB := Lib.hid (show ¬ behB h x = true by unfold behB pre; rw [decide_eq_false hpre]; simp)
          have HS := Lib.hid (HF.out.trans (if_neg HB.out))
          clear hpre
          go_wp2_with fail
          refine HCALL.out.mono ?_
          rintro e w1 ⟨rfl, hb1⟩
          rw [HD.out]
          go_wp2
          go_roundw
          case rel => exact ⟨k + 1, xs, by omega, by go_num, owns_below hown hb1, Lib.hid (hxs.out.trans HS.out.symm), by omega, hall, hres.below hb1 hres.lt, hb.trans (hb1.mono hb.size)⟩
          case measure => simp [intOf]; omega
      · have hq : ((x.g.length : Int) == (h.length : Int) + 1) = false := by rw [beq_eq_false_iff_ne]; omega
        have HB := Lib.hid (show ¬ behB h x = true by unfold behB; rw [decide_eq_false hlen]; simp)
        have HS := Lib.hid (HF.out.trans (if_neg HB.out))
        go_wp2
        go_roundw
        case rel => exact ⟨k + 1, xs, by omega, by go_num, hown, Lib.hid (hxs.out.trans HS.out.symm), by omega, hall, hres, hb⟩
        case measure => simp [intOf]; omega
    · have HT := Lib.hid (show xs.map Prod.snd = after L h by rw [hxs.out, List.take_of_length_le (by omega)]; rfl)
      have hsum : posSum (xs.map Prod.snd) ≤ 4611686018427387904 := by
        have := posSum_filter L (behB h)
        rw [HT.out]
        unfold after
        omega
      have hlm : (xs.map Prod.snd).length = xs.length := by simp
      have hcall : Calls Try.prog 15 #[u5] wr fun e w' => e = .returned (.agg (cenOf (xs.map Prod.snd)).row) ∧ Below wr.heap.size wr w' := by
        rcases hown.2 with ⟨rfl, h0⟩ | ⟨g, cp, cur, rfl, _⟩
        · have h1 : xs.map Prod.snd = [] := List.eq_nil_of_length_eq_zero (by omega)
          have := rof_any none [] 0 wr (by simp) (fun i hi => absurd hi (by simp)) (by decide)
          rw [h1]
          exact this
        · have := rof_any (some ⟨g, 0, none⟩) (xs.map Prod.snd) cp wr (by omega) (cnts_of_row hown hb hall.out) hsum
          rw [hlm] at this
          exact this
      rw [HT.out] at hcall
      have HCALL := Lib.hid hcall
      clear hcall hc hsum hlm
      have hrf := hres.frozen
      have f0 := hrf 0
      have f1 := hrf 1
      have f2 := hrf 2
      have f3 := hrf 3
      have f4 := hrf 4
      have f5 := hrf 5
      clear hrf
      go_wp2_with fail
      refine HCALL.out.mono ?_
      rintro e w1 ⟨rfl, hb1⟩
      have hres1 : Blk w1 w.heap.size 30 Cen.zero.row := hres.below hb1 hres.lt
      have r0 : w1.cell? ⟨w.heap.size, 0, none⟩ = some (.int .i64 0) := hres1.cell 0
      have r1 : w1.cell? ⟨w.heap.size, 1, none⟩ = some (.int .i64 0) := hres1.cell 1
      have r2 : w1.cell? ⟨w.heap.size, 2, none⟩ = some (.int .i64 0) := hres1.cell 2
      have r3 : w1.cell? ⟨w.heap.size, 3, none⟩ = some (.int .i64 0) := hres1.cell 3
      have r4 : w1.cell? ⟨w.heap.size, 4, none⟩ = some (.int .i64 0) := hres1.cell 4
      have r5 : w1.cell? ⟨w.heap.size, 5, none⟩ = some (.int .i64 0) := hres1.cell 5
      have q0 := hres1.frozen 0
      have q1 := hres1.frozen 1
      have q2 := hres1.frozen 2
      have q3 := hres1.frozen 3
      have q4 := hres1.frozen 4
      have q5 := hres1.frozen 5
      clear f0 f1 f2 f3 f4 f5
      unfold Cen.row
      go_wp2
      have hbw : Below w.heap.size w w1 := hb.trans (hb1.mono hb.size)
      exact bodyPost_ret (v := .agg (cenOf (after L h)).row) (by simp [results, Try.results25, go_sem, r0, r1, r2, r3, r4, r5, Cen.row]) rfl ⟨rfl, (((((hbw.setCell (Nat.le_refl _) _).setCell (Nat.le_refl _) _).setCell (Nat.le_refl _) _).setCell (Nat.le_refl _) _).setCell (Nat.le_refl _) _).setCell (Nat.le_refl _) _⟩
end Go.Proofs.Ytokcnblonbcpeaa
