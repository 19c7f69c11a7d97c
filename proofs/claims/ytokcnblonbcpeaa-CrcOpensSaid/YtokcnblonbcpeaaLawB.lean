/- The walk of the law CrcOpens: true at every input. -/
import Derived.Test.YtokcnblonbcpeaaLive
namespace Go.Proofs.Ytokcnblonbcpeaa
open Go.RowKit

theorem body_size (s : ByteArray) : (bodyOf s).size ≤ s.size := by unfold bodyOf; simp
theorem seal_body (s : ByteArray) (h : tailOf s = laidI (moreI 0 (bodyOf s).data.toList)) : sealV (bodyOf s) = s := by
  conv => rhs; rw [← body_tail s, h, moreI_zero]
  rfl
theorem seal_body_not (s : ByteArray) (h : ¬ tailOf s = laidI (moreI 0 (bodyOf s).data.toList)) : ¬ sealV (bodyOf s) = s := by
  intro e
  apply h
  conv => lhs; rw [← e]
  rw [tail_seal, moreI_zero]

set_option maxHeartbeats 400000 in
theorem crcOpens_walk (s : ByteArray) (w : World) (hs : s.size ≤ maxLen) :
    Calls Try.prog 6 #[.string s] w fun e w' => e = .returned (.bool true) ∧ Below w.heap.size w w' := by
  unfold maxLen at hs
  by_cases h3 : 200 < s.size
  · go_enter Try.func6, Try.ntmps6
    go_wp2_with fail
    refine (live_any _).mono ?_
    rintro e w1 ⟨rfl, hb1⟩
    go_wp2
    go_ret
    exact ⟨rfl, hb1⟩
  · go_enter Try.func6, Try.ntmps6
    go_wp2_with fail
    refine (seal_bv s _ (by omega)).mono ?_
    rintro e w1 ⟨rfl, hb1⟩
    go_wp2_with fail
    refine (open_any _ _ (by rw [sealV_size]; omega)).mono ?_
    rintro e w2 ⟨rfl, hb2⟩
    rw [open_seal]
    go_wp2_with fail
    refine (rseal_any s _ (by omega)).mono ?_
    rintro e w3 ⟨rfl, hb3⟩
    generalize hS : sealV s = S1
    clear hS
    go_wp2_with fail
    refine (open_any s _ (by omega)).mono ?_
    rintro e w4 ⟨rfl, hb4⟩
    by_cases h4 : s.size < 4
    · rw [show openV s = (⟨#[]⟩, 2) from if_pos h4]
      go_wp2_with fail
      refine (live_any _).mono ?_
      rintro e w5 ⟨rfl, hb5⟩
      go_wp2
      go_ret
      exact ⟨rfl, bt (bt (bt (bt hb1 hb2) hb3) hb4) hb5⟩
    · by_cases ht : tailOf s = laidI (moreI 0 (bodyOf s).data.toList)
      · rw [show openV s = (bodyOf s, 0) by unfold openV; rw [if_neg h4, if_pos ht]]
        have hq := seal_body s ht
        clear ht
        go_wp2_with fail
        rw [show s.extract 0 (s.size - 4) = bodyOf s from rfl]
        refine (rseal_any (bodyOf s) _ (by have := body_size s; omega)).mono ?_
        rintro e w5 ⟨rfl, hb5⟩
        rw [hq]
        clear hq
        generalize bodyOf s = B
        go_wp2_with fail
        refine (live_any _).mono ?_
        rintro e w6 ⟨rfl, hb6⟩
        go_wp2
        go_ret
        exact ⟨rfl, bt (bt (bt (bt (bt hb1 hb2) hb3) hb4) hb5) hb6⟩
      · rw [show openV s = (⟨#[]⟩, 4) by unfold openV; rw [if_neg h4, if_neg ht]]
        have hq := seal_body_not s ht
        clear ht
        go_wp2_with fail
        rw [show s.extract 0 (s.size - 4) = bodyOf s from rfl]
        refine (rseal_any (bodyOf s) _ (by have := body_size s; omega)).mono ?_
        rintro e w5 ⟨rfl, hb5⟩
        generalize hSB : sealV (bodyOf s) = SB at *
        clear hSB
        have hne : (SB.toList == s.toList) = false := by
          rw [Bool.eq_false_iff, Ne, bytes_beq]
          exact hq
        clear hq
        go_wp2_with fail
        refine (live_any _).mono ?_
        rintro e w6 ⟨rfl, hb6⟩
        go_wp2
        go_ret
        exact ⟨rfl, bt (bt (bt (bt (bt hb1 hb2) hb3) hb4) hb5) hb6⟩
end Go.Proofs.Ytokcnblonbcpeaa
