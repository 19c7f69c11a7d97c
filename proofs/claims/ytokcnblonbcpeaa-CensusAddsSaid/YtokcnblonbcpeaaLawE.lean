/- The law CensusAdds: every way through it. -/
import Derived.Test.YtokcnblonbcpeaaAddsA
namespace Go.Proofs.Ytokcnblonbcpeaa
open Go.RowKit

set_option maxHeartbeats 2000000 in
theorem censusAdds_all (A : Option Addr) (L : List Cnt) (cap : Nat) (n : Int) (w : World) (hcap : L.length ≤ cap) (hn : L.length ≤ 9223372036854775807) (hn0 : -9223372036854775808 ≤ n) (hn1 : n ≤ 9223372036854775807) (hc : CntsAt w A L) :
    Calls Try.prog 9 #[.slice A L.length cap, .int .i64 n] w fun e w' => e = .returned (.bool true) ∧ Below w.heap.size w w' := by
  have Hc := Lib.hid hc
  clear hc
  cases hs : smallB L 60 8
  · go_enter Try.func9, Try.ntmps9
    go_wp2_with fail
    refine (small_any A L cap _ _ _ hn Hc.out).mono ?_
    rintro e w1 ⟨rfl, rfl⟩
    rw [hs]
    clear hs
    go_wp2_with fail
    refine (clive_any _).mono ?_
    rintro e w1 ⟨rfl, hb1⟩
    go_wp2
    go_ret
    exact ⟨rfl, hb1⟩
  · have hlen := small_len hs
    have Hs := Lib.hid hs
    clear hs
    cases hm : mayB L
    · go_enter Try.func9, Try.ntmps9
      go_wp2_with fail
      refine (small_any A L cap _ _ _ hn Hc.out).mono ?_
      rintro e w1 ⟨rfl, rfl⟩
      rw [Hs.out]
      go_wp2_with fail
      refine (may_any A L cap _ hn Hc.out).mono ?_
      rintro e w1 ⟨rfl, rfl⟩
      rw [hm]
      clear hm
      go_wp2_with fail
      refine (clive_any _).mono ?_
      rintro e w1 ⟨rfl, hb1⟩
      go_wp2
      go_ret
      exact ⟨rfl, hb1⟩
    · have Hm := Lib.hid hm
      clear hm
      cases hr : risesB L
      · go_enter Try.func9, Try.ntmps9
        go_wp2_with fail
        refine (small_any A L cap _ _ _ hn Hc.out).mono ?_
        rintro e w1 ⟨rfl, rfl⟩
        rw [Hs.out]
        go_wp2_with fail
        refine (may_any A L cap _ hn Hc.out).mono ?_
        rintro e w1 ⟨rfl, rfl⟩
        rw [Hm.out]
        go_wp2_with fail
        refine (rises_any A L cap _ (by omega) Hc.out).mono ?_
        rintro e w1 ⟨rfl, hb1⟩
        rw [hr]
        clear hr
        go_wp2_with fail
        refine (clive_any _).mono ?_
        rintro e w2 ⟨rfl, hb2⟩
        go_wp2
        go_ret
        exact ⟨rfl, cbt hb1 hb2⟩
      · by_cases h1 : 1 ≤ n
        · obtain ⟨m, rfl⟩ : ∃ m : Nat, n = (m : Int) + 1 := ⟨(n - 1).toNat, by omega⟩
          exact censusAdds_walk A L cap m w hcap hn (by omega) Hc.out Hs.out Hm.out hr
        · have Hr := Lib.hid hr
          clear hr
          have hb : decide (n < 1) = true := by rw [decide_eq_true_iff]; omega
          clear h1
          go_enter Try.func9, Try.ntmps9
          go_wp2_with fail
          refine (small_any A L cap _ _ _ hn Hc.out).mono ?_
          rintro e w1 ⟨rfl, rfl⟩
          rw [Hs.out]
          go_wp2_with fail
          refine (may_any A L cap _ hn Hc.out).mono ?_
          rintro e w1 ⟨rfl, rfl⟩
          rw [Hm.out]
          go_wp2_with fail
          refine (rises_any A L cap _ (by omega) Hc.out).mono ?_
          rintro e w1 ⟨rfl, hb1⟩
          rw [Hr.out]
          go_wp2_with fail
          refine (clive_any _).mono ?_
          rintro e w2 ⟨rfl, hb2⟩
          go_wp2
          go_ret
          exact ⟨rfl, cbt hb1 hb2⟩
theorem censusAdds_args (A : Option Addr) (L : List Cnt) (cap : Nat) (n : Int) (w : World) (hb : L.length ≤ cap) (hm : cap ≤ maxLen) (hc : CntsAt w A L) (hw : (Lit.int .i64 n).wf = true) :
    Calls Try.prog 9 #[.slice A L.length cap, .int .i64 n] w fun e w' => e = .returned (.bool true) ∧ Below w.heap.size w w' := by
  unfold maxLen at hm
  unfold Lit.wf at hw
  rw [Bool.and_eq_true, decide_eq_true_iff, decide_eq_true_iff] at hw
  have hmin : IntKind.i64.min = -9223372036854775808 := by decide
  have hmax : IntKind.i64.max = 9223372036854775807 := by decide
  rw [hmin, hmax] at hw
  exact censusAdds_all A L cap n w hb (by omega) hw.1 hw.2 hc
end Go.Proofs.Ytokcnblonbcpeaa
