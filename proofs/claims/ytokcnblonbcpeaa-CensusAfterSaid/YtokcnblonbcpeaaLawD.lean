/- The walk of the law CensusAfter: true at every input. -/
import Derived.Test.YtokcnblonbcpeaaCLive
import Derived.Test.YtokcnblonbcpeaaLawC
import Derived.Test.YtokcnblonbcpeaaAfter
namespace Go.Proofs.Ytokcnblonbcpeaa
open Go.RowKit

set_option maxHeartbeats 2000000 in
theorem censusAfter_walk (A B : Option Addr) (L : List Cnt) (h : List Int) (cap caph : Nat) (w : World) (hcap : L.length ≤ cap) (hn : L.length ≤ 9223372036854775807) (hhn : h.length ≤ 9223372036854775807) (hc : CntsAt w A L) (hh : IntsAt w B h) :
    Calls Try.prog 8 #[.slice A L.length cap, .slice B h.length caph] w fun e w' => e = .returned (.bool true) ∧ Below w.heap.size w w' := by
  have Hc := Lib.hid hc
  have Hh := Lib.hid hh
  clear hc hh
  cases hs : smallB L 100 100
  · go_enter Try.func8, Try.ntmps8
    go_wp2_with fail
    refine (small_any A L cap _ _ _ hn Hc.out).mono ?_
    rintro e w1 ⟨rfl, rfl⟩
    rw [hs]
    clear hs
    go_wp2_with fail
    refine (clive_any _).mono ?_
    rintro e w1 ⟨rfl, hb1⟩
    go_wp2
    go_ret
    exact ⟨rfl, hb1⟩
  · have hlen := small_len hs
    have Hs := Lib.hid hs
    clear hs
    cases hm : mayB L
    · go_enter Try.func8, Try.ntmps8
      go_wp2_with fail
      refine (small_any A L cap _ _ _ hn Hc.out).mono ?_
      rintro e w1 ⟨rfl, rfl⟩
      rw [Hs.out]
      go_wp2_with fail
      refine (may_any A L cap _ hn Hc.out).mono ?_
      rintro e w1 ⟨rfl, rfl⟩
      rw [hm]
      clear hm
      go_wp2_with fail
      refine (clive_any _).mono ?_
      rintro e w1 ⟨rfl, hb1⟩
      go_wp2
      go_ret
      exact ⟨rfl, hb1⟩
    · have hsum := may_sum hm
      have Hm := Lib.hid hm
      clear hm
      cases hr : risesB L
      · go_enter Try.func8, Try.ntmps8
        go_wp2_with fail
        refine (small_any A L cap _ _ _ hn Hc.out).mono ?_
        rintro e w1 ⟨rfl, rfl⟩
        rw [Hs.out]
        go_wp2_with fail
        refine (may_any A L cap _ hn Hc.out).mono ?_
        rintro e w1 ⟨rfl, rfl⟩
        rw [Hm.out]
        go_wp2_with fail
        refine (rises_any A L cap _ (by omega) Hc.out).mono ?_
        rintro e w1 ⟨rfl, hb1⟩
        rw [hr]
        clear hr
        go_wp2_with fail
        refine (clive_any _).mono ?_
        rintro e w2 ⟨rfl, hb2⟩
        go_wp2
        go_ret
        exact ⟨rfl, cbt hb1 hb2⟩
      · have Hr := Lib.hid hr
        have hsrt := sorted_of_rises L hr
        clear hr
        have Hsrt := Lib.hid hsrt
        clear hsrt
        by_cases hl : h.length ≤ 100
        · have hlb : decide (100 < (h.length : Int)) = false := by rw [decide_eq_false_iff_not]; omega
          have hlb' : decide (100 < h.length) = false := by rw [decide_eq_false_iff_not]; omega
          have he := fun W => eql_row (cenOf (after L h)) W
          have hce := Lib.hid (cenW_eq (after L h) (Int.le_trans (posSum_filter L (behB h)) hsum))
          go_enter Try.func8, Try.ntmps8
          go_wp2_with fail
          refine (small_any A L cap _ _ _ hn Hc.out).mono ?_
          rintro e w1 ⟨rfl, rfl⟩
          rw [Hs.out]
          go_wp2_with fail
          refine (may_any A L cap _ hn Hc.out).mono ?_
          rintro e w1 ⟨rfl, rfl⟩
          rw [Hm.out]
          go_wp2_with fail
          refine (rises_any A L cap _ (by omega) Hc.out).mono ?_
          rintro e w1 ⟨rfl, hb1⟩
          rw [Hr.out]
          go_wp2_with fail
          refine (after_any A B L h cap caph _ (by omega) (by omega) hcap Hsrt.out (Hc.out.below hb1) (Hh.out.below hb1)).mono ?_
          rintro e w2 ⟨rfl, hb2⟩
          rw [hce.out]
          unfold Cen.cells
          go_wp2_with fail
          refine (row_any (cenOf (after L h)) _).mono ?_
          rintro e w3 ⟨rfl, hb3⟩
          have hb3' : Below w.heap.size w w3 := cbt (cbt hb1 hb2) hb3
          go_wp2_with fail
          refine (rafter_any A B L h cap caph _ (by omega) (by omega) (Hc.out.below hb3') (Hh.out.below hb3') hsum).mono ?_
          rintro e w4 ⟨rfl, hb4⟩
          go_wp2_with fail
          refine (clive_any _).mono ?_
          rintro e w5 ⟨rfl, hb5⟩
          go_wp2
          go_ret
          exact ⟨rfl, cbt (cbt hb3' hb4) hb5⟩
        · have hlb : decide (100 < (h.length : Int)) = true := by rw [decide_eq_true_iff]; omega
          have hlb' : decide (100 < h.length) = true := by rw [decide_eq_true_iff]; omega
          go_enter Try.func8, Try.ntmps8
          go_wp2_with fail
          refine (small_any A L cap _ _ _ hn Hc.out).mono ?_
          rintro e w1 ⟨rfl, rfl⟩
          rw [Hs.out]
          go_wp2_with fail
          refine (may_any A L cap _ hn Hc.out).mono ?_
          rintro e w1 ⟨rfl, rfl⟩
          rw [Hm.out]
          go_wp2_with fail
          refine (rises_any A L cap _ (by omega) Hc.out).mono ?_
          rintro e w1 ⟨rfl, hb1⟩
          rw [Hr.out]
          go_wp2_with fail
          refine (clive_any _).mono ?_
          rintro e w2 ⟨rfl, hb2⟩
          go_wp2
          go_ret
          exact ⟨rfl, cbt hb1 hb2⟩
theorem censusAfter_args (A : Option Addr) (L : List Cnt) (cap : Nat) (v : Value) (h : List Int) (w : World) (hb : L.length ≤ cap) (hm : cap ≤ maxLen) (hc : CntsAt w A L) (hh : IsInts w v h) :
    Calls Try.prog 8 #[.slice A L.length cap, v] w fun e w' => e = .returned (.bool true) ∧ Below w.heap.size w w' := by
  obtain ⟨B, caph, rfl, hl, hm2, hB⟩ := hh
  unfold maxLen at hm hm2
  exact censusAfter_walk A B L h cap caph w hb (by omega) (by omega) hc hB
end Go.Proofs.Ytokcnblonbcpeaa
