/- The walks of the laws CrcTells and CrcGoes: true at every input. -/
import Derived.Test.YtokcnblonbcpeaaLive
namespace Go.Proofs.Ytokcnblonbcpeaa
open Go.RowKit

set_option maxHeartbeats 400000 in
theorem crcTells_walk (c : BitVec 32) (s : ByteArray) (w : World) (hs : s.size ≤ maxLen) :
    Calls Try.prog 4 #[.int .u32 (toI c), .string s] w fun e w' => e = .returned (.bool true) ∧ Below w.heap.size w w' := by
  unfold maxLen at hs
  by_cases h3 : 300 < s.size
  · go_enter Try.func4, Try.ntmps4
    go_wp2_with fail
    refine (live_any _).mono ?_
    rintro e w1 ⟨rfl, hb1⟩
    go_wp2
    go_ret
    exact ⟨rfl, hb1⟩
  · go_enter Try.func4, Try.ntmps4
    go_wp2_with fail
    refine (more_bv c s _ (by omega)).mono ?_
    rintro e w1 ⟨rfl, hb1⟩
    go_wp2_with fail
    refine (rmore_any c s _ (by unfold maxLen; omega)).mono ?_
    rintro e w2 ⟨rfl, rfl⟩
    go_wp2_with fail
    refine (of_1 s _ w1.heap.size (by simp) (by omega) (by simp)).mono ?_
    rintro e w3 ⟨rfl, hb3⟩
    go_wp2_with fail
    refine (rmore_0 s _ (by omega)).mono ?_
    rintro e w4 ⟨rfl, rfl⟩
    go_wp2_with fail
    refine (live_any _).mono ?_
    rintro e w5 ⟨rfl, hb5⟩
    go_wp2
    go_ret
    exact ⟨rfl, bt (bt (ba hb1 _) hb3) hb5⟩

set_option maxHeartbeats 400000 in
theorem crcGoes_walk (s t : ByteArray) (w : World) (hs : s.size ≤ maxLen) (ht : t.size ≤ maxLen) :
    Calls Try.prog 5 #[.string s, .string t] w fun e w' => e = .returned (.bool true) ∧ Below w.heap.size w w' := by
  unfold maxLen at hs ht
  by_cases h3 : 500 < s.size ∨ 500 < t.size
  · have hd : (decide (500 < (s.size : Int)) || decide (500 < (t.size : Int))) = true := by
      rw [Bool.or_eq_true, decide_eq_true_iff, decide_eq_true_iff]
      omega
    clear h3
    by_cases h4 : 500 < s.size
    all_goals
      go_enter Try.func5, Try.ntmps5
      go_wp2_with fail
      refine (live_any _).mono ?_
      rintro e w1 ⟨rfl, hb1⟩
      go_wp2
      go_ret
      exact ⟨rfl, hb1⟩
  · have h4 : s.size ≤ 500 := by omega
    have h5 : t.size ≤ 500 := by omega
    clear h3
    have hst : (s ++ t).size ≤ 1000 := by rw [ByteArray.size_append]; omega
    have HL := Lib.hid (show (s ++ t).data.toList = s.data.toList ++ t.data.toList by rw [ByteArray.data_append]; simp)
    go_enter Try.func5, Try.ntmps5
    go_wp2_with fail
    refine (of_1 s _ w.heap.size (by simp) (by omega) (by simp)).mono ?_
    rintro e w1 ⟨rfl, hb1⟩
    go_wp2_with fail
    refine (more_bv _ t _ (by omega)).mono ?_
    rintro e w2 ⟨rfl, hb2⟩
    rw [← crcB_append]
    go_wp2_with fail
    refine (of_2 s t _ w2.heap.size (by simp) (by omega) (by omega) (by simp) (by simp)).mono ?_
    rintro e w3 ⟨rfl, hb3⟩
    go_wp2_with fail
    refine (of_2 s t _ w3.heap.size (by simp) (by omega) (by omega) (by simp) (by simp)).mono ?_
    rintro e w4 ⟨rfl, hb4⟩
    go_wp2_with fail
    refine (of_1 (s ++ t) _ w4.heap.size (by simp) (by omega) (by simp)).mono ?_
    rintro e w5 ⟨rfl, hb5⟩
    rw [HL.out]
    go_wp2_with fail
    refine (of_0 _).mono ?_
    rintro e w6 ⟨rfl, hb6⟩
    go_wp2_with fail
    refine (live_any _).mono ?_
    rintro e w7 ⟨rfl, hb7⟩
    go_wp2
    go_ret
    refine ⟨rfl, ?_⟩
    exact bt (bt (bt (bt (bt (bt (bt (ba (Below.refl _ _) _) hb1) hb2) (ba (Below.refl _ _) _)) hb3) (bt (ba (Below.refl _ _) _) hb4)) (bt (ba (Below.refl _ _) _) hb5)) (bt hb6 hb7)

theorem wf_u32 {a : Int} (h : (Lit.int .u32 a).wf = true) : 0 ≤ a ∧ a < 4294967296 := by
  unfold Lit.wf at h
  rw [Bool.and_eq_true, decide_eq_true_iff, decide_eq_true_iff] at h
  have h1 : IntKind.u32.min = 0 := by decide
  have h2 : IntKind.u32.max = 4294967295 := by decide
  rw [h1, h2] at h
  omega
theorem crcTells_int (a : Int) (s : ByteArray) (w : World) (ha : (Lit.int .u32 a).wf = true) (hs : s.size ≤ maxLen) :
    Calls Try.prog 4 #[.int .u32 a, .string s] w fun e w' => e = .returned (.bool true) ∧ Below w.heap.size w w' := by
  have h := wf_u32 ha
  rw [← toI_ofInt h.1 h.2]
  exact crcTells_walk _ s w hs
end Go.Proofs.Ytokcnblonbcpeaa
