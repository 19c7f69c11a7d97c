/- The walk of the law CensusAdds: true at every input. -/
import Derived.Test.YtokcnblonbcpeaaCLive
import Derived.Test.YtokcnblonbcpeaaLawC
import Derived.Test.YtokcnblonbcpeaaAfter
import Derived.Test.YtokcnblonbcpeaaSeen
import Derived.Test.YtokcnblonbcpeaaOpen
namespace Go.Proofs.Ytokcnblonbcpeaa
open Go.RowKit

theorem cells7 {w : World} {g : Nat} {s : Cen} (h : Blk w g 28 s.cells) : w.cell? ⟨g, 0, none⟩ = some (.int .i64 s.ty) ∧ w.cell? ⟨g, 1, none⟩ = some (.int .i64 s.tot) ∧ w.cell? ⟨g, 2, none⟩ = some (.int .i64 0) ∧ w.cell? ⟨g, 3, none⟩ = some (.int .i64 s.n1) ∧ w.cell? ⟨g, 4, none⟩ = some (.int .i64 s.n2) ∧ w.cell? ⟨g, 5, none⟩ = some (.int .i64 s.n3) ∧ w.cell? ⟨g, 6, none⟩ = some (.int .i64 s.n4) :=
  ⟨h.cell 0, h.cell 1, h.cell 2, h.cell 3, h.cell 4, h.cell 5, h.cell 6⟩
theorem frozen7 {w : World} {g : Nat} {s : Cen} (h : Blk w g 28 s.cells) : w.frozen? ⟨g, 0, none⟩ = false ∧ w.frozen? ⟨g, 1, none⟩ = false ∧ w.frozen? ⟨g, 2, none⟩ = false ∧ w.frozen? ⟨g, 3, none⟩ = false ∧ w.frozen? ⟨g, 4, none⟩ = false ∧ w.frozen? ⟨g, 5, none⟩ = false ∧ w.frozen? ⟨g, 6, none⟩ = false :=
  ⟨h.frozen 0, h.frozen 1, h.frozen 2, h.frozen 3, h.frozen 4, h.frozen 5, h.frozen 6⟩
theorem set7 {w : World} {g : Nat} {s : Cen} (h : Blk w g 28 s.cells) (r : Cen) : Blk (((((((w.setCell ⟨g, 0, none⟩ (.int .i64 r.ty)).setCell ⟨g, 1, none⟩ (.int .i64 r.tot)).setCell ⟨g, 2, none⟩ (.int .i64 0)).setCell ⟨g, 3, none⟩ (.int .i64 r.n1)).setCell ⟨g, 4, none⟩ (.int .i64 r.n2)).setCell ⟨g, 5, none⟩ (.int .i64 r.n3)).setCell ⟨g, 6, none⟩ (.int .i64 r.n4)) g 28 r.cells := by
  have hR := (((((((h.set_ 0 (.int .i64 r.ty)).set_ 1 (.int .i64 r.tot)).set_ 2 (.int .i64 0)).set_ 3 (.int .i64 r.n1)).set_ 4 (.int .i64 r.n2)).set_ 5 (.int .i64 r.n3)).set_ 6 (.int .i64 r.n4))
  simpa [Cen.cells] using hR
theorem below7 {B : Nat} {a w : World} {g : Nat} (h : Below B a w) (hg : B ≤ g) (v0 v1 v2 v3 v4 v5 v6 : Value) : Below B a (((((((w.setCell ⟨g, 0, none⟩ v0).setCell ⟨g, 1, none⟩ v1).setCell ⟨g, 2, none⟩ v2).setCell ⟨g, 3, none⟩ v3).setCell ⟨g, 4, none⟩ v4).setCell ⟨g, 5, none⟩ v5).setCell ⟨g, 6, none⟩ v6) :=
  ((((((h.setCell (p := ⟨g, 0, none⟩) hg v0).setCell (p := ⟨g, 1, none⟩) hg v1).setCell (p := ⟨g, 2, none⟩) hg v2).setCell (p := ⟨g, 3, none⟩) hg v3).setCell (p := ⟨g, 4, none⟩) hg v4).setCell (p := ⟨g, 5, none⟩) hg v5).setCell (p := ⟨g, 6, none⟩) hg v6
theorem blk_below {w w' : World} {g : Nat} {t : TypeId} {cs : Array Value} (h : Blk w g t cs) (hb : Below w.heap.size w w') : Blk w' g t cs := h.below hb h.lt

set_option maxHeartbeats 4000000 in
theorem censusAdds_walk (A : Option Addr) (L : List Cnt) (cap m : Nat) (w : World) (hcap : L.length ≤ cap) (hn : L.length ≤ 9223372036854775807) (hm0 : m + 1 ≤ 9223372036854775807) (hc : CntsAt w A L) (hs : smallB L 60 8 = true) (hm : mayB L = true) (hr : risesB L = true) :
    Calls Try.prog 9 #[.slice A L.length cap, .int .i64 ((m : Int) + 1)] w fun e w' => e = .returned (.bool true) ∧ Below w.heap.size w w' := by
  have Hc := Lib.hid hc
  have Hs := Lib.hid hs
  have Hm := Lib.hid hm
  have Hr := Lib.hid hr
  have Hsrt := Lib.hid (sorted_of_rises L hr)
  have hlen := small_len hs
  have hsum := may_sum hm
  have hm1 : decide ((m : Int) + 1 < 1) = false := by rw [decide_eq_false_iff_not]; omega
  clear hc hs hm hr
  go_enter Try.func9, Try.ntmps9
  go_wp2_with fail
  refine (small_any A L cap _ _ _ hn Hc.out).mono ?_
  rintro e w1 ⟨rfl, rfl⟩
  rw [Hs.out]
  go_wp2_with fail
  refine (may_any A L cap _ hn Hc.out).mono ?_
  rintro e w1 ⟨rfl, rfl⟩
  rw [Hm.out]
  go_wp2_with fail
  refine (rises_any A L cap _ (by omega) Hc.out).mono ?_
  rintro e w1 ⟨rfl, hb1⟩
  rw [Hr.out]
  have hw1 := hb1.size
  go_wp2_with fail
  go_loopw [6] (fun v6 wr => ∃ k : Nat, k ≤ L.length ∧ v6 = .int .i64 k ∧ Blk wr w1.heap.size 28 (cenOf (L.filter (seen L m k))).cells ∧ Hid (∀ i (hi : i < L.length), i < k → L[i].g.length = m + 1) ∧ Below w.heap.size w wr) (fun v6 _ => L.length - (intOf v6).toNat)
  case atStart =>
    have e0 := Blk.new w1 28 Cen.zero.cells
    exact ⟨0, Nat.zero_le _, rfl, by rw [seen_zero]; exact e0, Lib.hid (fun i _ h => absurd h (by omega)), hb1.alloc hb1.size _⟩
  case round =>
    obtain ⟨k, hk, rfl, hblk, hall, hb⟩ := hrel
    by_cases hlt : k < L.length
    · obtain ⟨b, o, v, rfl, hbl, hc0, hc1, hv, hr0, hr1⟩ := Hc.out k hlt
      have hv0 := hv
      obtain ⟨A1, cap1, rfl, hl1, hm1, hA1⟩ := hv
      unfold maxLen at hm1
      have g0 : wr.cell? ⟨b, o + k * 2, none⟩ = some (.slice A1 L[k].g.length cap1) := (hb.cell (p := ⟨b, o + k * 2, none⟩) hbl).trans hc0
      clear hc0 hc1
      by_cases hlen1 : L[k].g.length = m + 1
      · have hlong := small_long Hs.out k hlt
        have HALL := Lib.hid (show ∀ i (hi : i < L.length), i < k + 1 → L[i].g.length = m + 1 from fun i hi hik => by
          by_cases he : i = k
          · subst he; exact hlen1
          · exact hall.out i hi (by omega))
        have HX := Lib.hid (show ∀ x, L[k] = x → x = L[k] from fun x e => e.symm)
        obtain ⟨x, hx⟩ : ∃ x, L[k] = x := ⟨_, rfl⟩
        have HX := Lib.hid hx
        rw [hx] at g0 hlong hlen1 hA1 hl1
        clear hx hv0 hr0 hr1
        have hq : ((x.g.length : Int) != (m : Int) + 1) = false := by rw [bne_eq_false_iff_eq]; omega
        have hm7 : m ≤ 7 := by omega
        have hmx : (m : Int) ≤ (x.g.length : Int) := by omega
        have hmc : (m : Int) ≤ (cap1 : Int) := by omega
        have hxm : x.g.length ≤ 8 := by omega
        have hmn : (x.g.take m).length = m := by rw [List.length_take]; omega
        have HMN := Lib.hid hmn
        have HLEN := Lib.hid hlen1
        clear hlen1 hmn
        rcases Nat.eq_zero_or_pos k with hk0 | hk0
        · subst hk0
          rw [Nat.zero_mul, Nat.add_zero] at g0
          have HNEW := Lib.hid (show cenOf (L.filter (seen L m 1)) = (cenOf (L.filter (seen L m 0))).plus (cenOf (after L (x.g.take m))) by
            have := seen_first L m hlt
            rwa [HX.out] at this)
          go_wp2_with fail
          have hcal := Lib.hid (show ∀ W, Below w.heap.size w W → Calls Try.prog 24 #[.slice (some ⟨b, o, none⟩) L.length cap, .slice A1 m cap1] W fun e w' => e = .returned (.agg (cenOf (after L (x.g.take m))).cells) ∧ Below W.heap.size W w' from fun W hW => by
            have := after_any (some ⟨b, o, none⟩) A1 L (x.g.take m) cap cap1 W (by omega) (by have := HMN.out; omega) hcap Hsrt.out (Hc.out.below hW) ((hA1.below hW).take m)
            rw [HMN.out, cenW_eq (after L (x.g.take m)) (Int.le_trans (posSum_filter L (behB (x.g.take m))) hsum)] at this
            exact this)
          have hf1 := fits_filter L (seen L m 0) (by omega) hsum
          have hf2 := fits_filter L (behB (x.g.take m)) (by omega) hsum
          have hadd := Lib.hid (show ∀ W, Calls Try.prog 27 #[.agg (cenOf (L.filter (seen L m 0))).cells, .agg (cenOf (after L (x.g.take m))).cells] W fun e w' => e = .returned (.agg (cenOf (L.filter (seen L m (1)))).cells) ∧ Below W.heap.size W w' from fun W => by
            rw [HNEW.out]
            exact plus_any _ _ W hf1 hf2 (plus_tot _ _ _ HNEW.out _ (fits_filter L (seen L m (1)) (by omega) hsum).2.2.2.2.2.2.2.2.2.2.2))
          clear hf1 hf2
          obtain ⟨S, hS⟩ : ∃ S, cenOf (L.filter (seen L m 0)) = S := ⟨_, rfl⟩
          obtain ⟨N, hN⟩ : ∃ N, cenOf (L.filter (seen L m (1))) = N := ⟨_, rfl⟩
          obtain ⟨E, hE⟩ : ∃ E, cenOf (after L (x.g.take m)) = E := ⟨_, rfl⟩
          rw [hS] at hblk hadd
          rw [hN] at hadd
          rw [hE] at hcal hadd
          have HN := Lib.hid hN
          clear hS hN hE
          have c0 : wr.cell? ⟨w1.heap.size, 0, none⟩ = some (.int .i64 S.ty) := hblk.cell 0
          have c1 : wr.cell? ⟨w1.heap.size, 1, none⟩ = some (.int .i64 S.tot) := hblk.cell 1
          have c2 : wr.cell? ⟨w1.heap.size, 2, none⟩ = some (.int .i64 0) := hblk.cell 2
          have c3 : wr.cell? ⟨w1.heap.size, 3, none⟩ = some (.int .i64 S.n1) := hblk.cell 3
          have c4 : wr.cell? ⟨w1.heap.size, 4, none⟩ = some (.int .i64 S.n2) := hblk.cell 4
          have c5 : wr.cell? ⟨w1.heap.size, 5, none⟩ = some (.int .i64 S.n3) := hblk.cell 5
          have c6 : wr.cell? ⟨w1.heap.size, 6, none⟩ = some (.int .i64 S.n4) := hblk.cell 6
          have HB := Lib.hid hblk
          have hlb := hblk.lt
          clear hblk
          unfold Cen.cells at hcal hadd
          go_region_with (first | (go_at_call 24; refine (hcal.out _ ?_).mono ?_; (exact hb.drew); rintro e w2 ⟨rfl, hb2⟩; have hB2 := blk_below HB.out.drew hb2; obtain ⟨l0, l1, l2, l3, l4, l5, l6⟩ := cells7 hB2) | (go_at_call 27; refine (hadd.out _).mono ?_; rintro e w3 ⟨rfl, hb3⟩; have hB3 := blk_below hB2 hb3; obtain ⟨k0, k1, k2, k3, k4, k5, k6⟩ := cells7 hB3; obtain ⟨f0, f1, f2, f3, f4, f5, f6⟩ := frozen7 hB3))
          all_goals
            have hbb := (hb.drew.trans (hb2.mono hb.size)).trans (hb3.mono (Nat.le_trans hb.size hb2.size))
            go_wp2
            go_roundw
            case rel => exact ⟨0 + 1, by omega, by go_num, by rw [HN.out]; exact set7 hB3 N, HALL, below7 hbb hw1 _ _ _ _ _ _ _⟩
            case measure => simp [intOf]; omega
        · obtain ⟨j, hj⟩ : ∃ j, k = j + 1 := ⟨k - 1, by omega⟩
          subst hj
          obtain ⟨b', o', v', hA', hbl', hd0, hd1, hv', hs0, hs1⟩ := Hc.out j (by omega)
          cases hA'
          obtain ⟨A0, cap0, rfl, hl0, hm0, hA0⟩ := hv'
          unfold maxLen at hm0
          have g1 : wr.cell? ⟨b, o + j * 2, none⟩ = some (.slice A0 L[j].g.length cap0) := (hb.cell (p := ⟨b, o + j * 2, none⟩) hbl).trans hd0
          have hlenj := hall.out j (by omega) (by omega)
          have hlongj := small_long Hs.out j (by omega)
          obtain ⟨y, hy⟩ : ∃ y, L[j] = y := ⟨_, rfl⟩
          have HY := Lib.hid hy
          rw [hy] at g1 hlenj hlongj hA0 hl0
          clear hy hd0 hd1 hs0 hs1
          have hmy : (m : Int) ≤ (y.g.length : Int) := by omega
          have hmc0 : (m : Int) ≤ (cap0 : Int) := by omega
          have hyn : (y.g.take m).length = m := by rw [List.length_take]; omega
          have HYN := Lib.hid hyn
          clear hlenj hyn
          have hk1 : (((j + 1 : Nat) : Int) == 0) = false := by rw [beq_eq_false_iff_ne]; omega
          have hcmp := rcompare_any A0 A1 (y.g.take m) (x.g.take m) cap0 cap1 wr (by have := HYN.out; omega) ((hA0.below hb).take m) ((hA1.below hb).take m)
          rw [HYN.out, HMN.out] at hcmp
          have HCMP := Lib.hid hcmp
          clear hcmp
          by_cases hcz : cmpL (y.g.take m) (x.g.take m) = 0
          · have hsame := seen_same L m j hlt (by rw [HX.out, HY.out]; exact cmpL_eq _ _ hcz)
            rw [← hsame] at hblk
            have HCZ := Lib.hid hcz
            clear hcz hsame
            go_wp2_with fail
            refine HCMP.out.mono ?_
            rintro e w2 ⟨rfl, nd, rfl⟩
            rw [HCZ.out]
            go_wp2
            go_roundw
            case rel => exact ⟨j + 1 + 1, by omega, by go_num, hblk.drewN _, HALL, below_drewN hb _⟩
            case measure => simp [intOf]; omega
          · have HNEW := Lib.hid (show cenOf (L.filter (seen L m (j + 1 + 1))) = (cenOf (L.filter (seen L m (j + 1)))).plus (cenOf (after L (x.g.take m))) by
              have := seen_new L m j Hsrt.out hlt HALL.out (by rw [HX.out, HY.out]; intro e; rw [e, cmpL_self] at hcz; exact hcz rfl)
              rwa [HX.out] at this)
            have hcz' : (cmpL (y.g.take m) (x.g.take m) != 0) = true := by rw [bne_iff_ne]; exact hcz
            obtain ⟨z, hz⟩ : ∃ z, cmpL (y.g.take m) (x.g.take m) = z := ⟨_, rfl⟩
            rw [hz] at hcz' HCMP
            clear hcz hz
            go_wp2_with fail
            refine HCMP.out.mono ?_
            rintro e w2 ⟨rfl, nd, rfl⟩
            go_wp2_with fail
            have hbW := below_drewN hb nd
            have hblkW := hblk.drewN nd
            obtain ⟨W2, hW2⟩ : ∃ W2, wr.drewN nd = W2 := ⟨_, rfl⟩
            rw [hW2] at hbW hblkW ⊢
            clear hW2 hblk
            have hblk := hblkW
            clear hblkW g0 g1
            have hcal := Lib.hid (show ∀ W, Below w.heap.size w W → Calls Try.prog 24 #[.slice (some ⟨b, o, none⟩) L.length cap, .slice A1 m cap1] W fun e w' => e = .returned (.agg (cenOf (after L (x.g.take m))).cells) ∧ Below W.heap.size W w' from fun W hW => by
              have := after_any (some ⟨b, o, none⟩) A1 L (x.g.take m) cap cap1 W (by omega) (by have := HMN.out; omega) hcap Hsrt.out (Hc.out.below hW) ((hA1.below hW).take m)
              rw [HMN.out, cenW_eq (after L (x.g.take m)) (Int.le_trans (posSum_filter L (behB (x.g.take m))) hsum)] at this
              exact this)
            have hf1 := fits_filter L (seen L m (j + 1)) (by omega) hsum
            have hf2 := fits_filter L (behB (x.g.take m)) (by omega) hsum
            have hadd := Lib.hid (show ∀ W, Calls Try.prog 27 #[.agg (cenOf (L.filter (seen L m (j + 1)))).cells, .agg (cenOf (after L (x.g.take m))).cells] W fun e w' => e = .returned (.agg (cenOf (L.filter (seen L m (j + 1 + 1)))).cells) ∧ Below W.heap.size W w' from fun W => by
              rw [HNEW.out]
              exact plus_any _ _ W hf1 hf2 (plus_tot _ _ _ HNEW.out _ (fits_filter L (seen L m (j + 1 + 1)) (by omega) hsum).2.2.2.2.2.2.2.2.2.2.2))
            clear hf1 hf2
            obtain ⟨S, hS⟩ : ∃ S, cenOf (L.filter (seen L m (j + 1))) = S := ⟨_, rfl⟩
            obtain ⟨N, hN⟩ : ∃ N, cenOf (L.filter (seen L m (j + 1 + 1))) = N := ⟨_, rfl⟩
            obtain ⟨E, hE⟩ : ∃ E, cenOf (after L (x.g.take m)) = E := ⟨_, rfl⟩
            rw [hS] at hblk hadd
            rw [hN] at hadd
            rw [hE] at hcal hadd
            have HN := Lib.hid hN
            clear hS hN hE
            have c0 : W2.cell? ⟨w1.heap.size, 0, none⟩ = some (.int .i64 S.ty) := hblk.cell 0
            have c1 : W2.cell? ⟨w1.heap.size, 1, none⟩ = some (.int .i64 S.tot) := hblk.cell 1
            have c2 : W2.cell? ⟨w1.heap.size, 2, none⟩ = some (.int .i64 0) := hblk.cell 2
            have c3 : W2.cell? ⟨w1.heap.size, 3, none⟩ = some (.int .i64 S.n1) := hblk.cell 3
            have c4 : W2.cell? ⟨w1.heap.size, 4, none⟩ = some (.int .i64 S.n2) := hblk.cell 4
            have c5 : W2.cell? ⟨w1.heap.size, 5, none⟩ = some (.int .i64 S.n3) := hblk.cell 5
            have c6 : W2.cell? ⟨w1.heap.size, 6, none⟩ = some (.int .i64 S.n4) := hblk.cell 6
            have HB := Lib.hid hblk
            have hlb := hblk.lt
            clear hblk
            unfold Cen.cells at hcal hadd
            go_region_with (first | (go_at_call 24; refine (hcal.out _ ?_).mono ?_; (exact hbW.drew); rintro e w2 ⟨rfl, hb2⟩; have hB2 := blk_below HB.out.drew hb2; obtain ⟨l0, l1, l2, l3, l4, l5, l6⟩ := cells7 hB2) | (go_at_call 27; refine (hadd.out _).mono ?_; rintro e w3 ⟨rfl, hb3⟩; have hB3 := blk_below hB2 hb3; obtain ⟨k0, k1, k2, k3, k4, k5, k6⟩ := cells7 hB3; obtain ⟨f0, f1, f2, f3, f4, f5, f6⟩ := frozen7 hB3))
            all_goals
              have hbb := (hbW.drew.trans (hb2.mono hbW.size)).trans (hb3.mono (Nat.le_trans hbW.size hb2.size))
              go_wp2
              go_roundw
              case rel => exact ⟨j + 1 + 1, by omega, by go_num, by rw [HN.out]; exact set7 hB3 N, HALL, below7 hbb hw1 _ _ _ _ _ _ _⟩
              case measure => simp [intOf]; omega
      · have hq : ((L[k].g.length : Int) != (m : Int) + 1) = true := by rw [bne_iff_ne]; omega
        obtain ⟨x, hx⟩ : ∃ x, L[k] = x := ⟨_, rfl⟩
        rw [hx] at g0 hq
        clear hx hlen1
        go_wp2_with fail
        refine (clive_any _).mono ?_
        rintro e w2 ⟨rfl, hb2⟩
        go_wp2
        go_ret
        exact ⟨rfl, hb.trans (hb2.mono hb.size)⟩
    · obtain rfl : k = L.length := by omega
      rw [seen_all L m (fun i hi => hall.out i hi (by omega))] at hblk
      have hcof := Lib.hid (show ∀ W, Below w.heap.size w W → Calls Try.prog 13 #[.slice A L.length cap] W fun e w' => e = .returned (.agg (cenOf L).cells) ∧ Below W.heap.size W w' from fun W hW => cof_any A L cap W (by omega) (Hc.out.below hW) hsum)
      have he := fun W => eql_cells (cenOf L) W
      obtain ⟨S, hS⟩ : ∃ S, cenOf L = S := ⟨_, rfl⟩
      rw [hS] at hblk hcof he
      clear hS
      obtain ⟨c0, c1, c2, c3, c4, c5, c6⟩ := cells7 hblk
      have HB := Lib.hid hblk
      clear hblk
      unfold Cen.cells at hcof he
      go_wp2_with fail
      go_region_held3 (fun w' => w'.cell? ⟨w1.heap.size, 0, none⟩ = some (.int .i64 S.ty) ∧ w'.cell? ⟨w1.heap.size, 1, none⟩ = some (.int .i64 S.tot) ∧ w'.cell? ⟨w1.heap.size, 2, none⟩ = some (.int .i64 0) ∧ w'.cell? ⟨w1.heap.size, 3, none⟩ = some (.int .i64 S.n1) ∧ w'.cell? ⟨w1.heap.size, 4, none⟩ = some (.int .i64 S.n2) ∧ w'.cell? ⟨w1.heap.size, 5, none⟩ = some (.int .i64 S.n3) ∧ w'.cell? ⟨w1.heap.size, 6, none⟩ = some (.int .i64 S.n4)) ((refine cells7 ?_; with_reducible (first | exact HB.out.drew | exact hB2 | exact hB3))) (first | (go_at_call 13; refine (hcof.out _ ?_).mono ?_; (exact hb.drew); rintro e w2 ⟨rfl, hb2⟩; have hB2 := blk_below HB.out.drew hb2) | (go_at_call 12; refine (clive_any _).mono ?_; rintro e w3 ⟨rfl, hb3⟩; have hB3 := blk_below hB2 hb3))
      go_wp2
      go_ret
      exact ⟨rfl, (hb.drew.trans (hb2.mono hb.size)).trans (hb3.mono (Nat.le_trans hb.size hb2.size))⟩

end Go.Proofs.Ytokcnblonbcpeaa
