/- The walk of the law CensusOf: true at every input. -/
import Derived.Test.YtokcnblonbcpeaaCLive
namespace Go.Proofs.Ytokcnblonbcpeaa
open Go.RowKit

theorem small_len {L : List Cnt} {most long : Int} (h : smallB L most long = true) : (L.length : Int) ≤ most := by
  unfold smallB at h
  rw [Bool.and_eq_true, decide_eq_true_iff] at h
  exact h.1
theorem may_sum {L : List Cnt} (h : mayB L = true) : posSum L ≤ 4611686018427387904 := mayL_sum L _ (by omega) h

set_option maxHeartbeats 1000000 in
theorem censusOf_walk (A : Option Addr) (L : List Cnt) (cap : Nat) (w : World) (hn : L.length ≤ 9223372036854775807) (hc : CntsAt w A L) :
    Calls Try.prog 3 #[.slice A L.length cap] w fun e w' => e = .returned (.bool true) ∧ Below w.heap.size w w' := by
  have Hc := Lib.hid hc
  clear hc
  cases hs : smallB L 100 100
  · go_enter Try.func3, Try.ntmps3
    go_wp2_with fail
    refine (small_any A L cap _ _ _ hn Hc.out).mono ?_
    rintro e w1 ⟨rfl, rfl⟩
    rw [hs]
    clear hs
    go_wp2_with fail
    refine (clive_any _).mono ?_
    rintro e w1 ⟨rfl, hb1⟩
    go_wp2
    go_ret
    exact ⟨rfl, hb1⟩
  · have hlen := small_len hs
    have Hs := Lib.hid hs
    clear hs
    cases hm : mayB L
    · go_enter Try.func3, Try.ntmps3
      go_wp2_with fail
      refine (small_any A L cap _ _ _ hn Hc.out).mono ?_
      rintro e w1 ⟨rfl, rfl⟩
      rw [Hs.out]
      go_wp2_with fail
      refine (may_any A L cap _ hn Hc.out).mono ?_
      rintro e w1 ⟨rfl, rfl⟩
      rw [hm]
      clear hm
      go_wp2_with fail
      refine (clive_any _).mono ?_
      rintro e w1 ⟨rfl, hb1⟩
      go_wp2
      go_ret
      exact ⟨rfl, hb1⟩
    · have hsum := may_sum hm
      have Hm := Lib.hid hm
      clear hm
      have he := fun W => eql_row (cenOf L) W
      go_enter Try.func3, Try.ntmps3
      go_wp2_with fail
      refine (small_any A L cap _ _ _ hn Hc.out).mono ?_
      rintro e w1 ⟨rfl, rfl⟩
      rw [Hs.out]
      go_wp2_with fail
      refine (may_any A L cap _ hn Hc.out).mono ?_
      rintro e w1 ⟨rfl, rfl⟩
      rw [Hm.out]
      go_wp2_with fail
      refine (cof_any A L cap _ (by omega) Hc.out hsum).mono ?_
      rintro e w1 ⟨rfl, hb1⟩
      unfold Cen.cells
      go_wp2_with fail
      refine (row_any (cenOf L) _).mono ?_
      rintro e w2 ⟨rfl, hb2⟩
      have hb2' : Below w.heap.size w w2 := cbt (cba hb1 _) hb2
      have k0 : w2.cell? ⟨w1.heap.size, 2, none⟩ = some (.int .i64 0) := (hb2.cell (p := ⟨w1.heap.size, 2, none⟩) (by simp)).trans (by simp)
      go_wp2_with fail
      refine (rof_any A L cap _ (by omega) (Hc.out.below hb2') hsum).mono ?_
      rintro e w3 ⟨rfl, hb3⟩
      have k1 : w3.cell? ⟨w1.heap.size, 2, none⟩ = some (.int .i64 0) := (hb3.cell (p := ⟨w1.heap.size, 2, none⟩) (by have := hb2.size; simp at this; simp; omega)).trans k0
      clear k0
      go_wp2_with fail
      refine (clive_any _).mono ?_
      rintro e w4 ⟨rfl, hb4⟩
      go_wp2
      go_ret
      exact ⟨rfl, cbt (cbt hb2' hb3) hb4⟩
theorem censusOf_args (A : Option Addr) (L : List Cnt) (cap : Nat) (w : World) (hb : L.length ≤ cap) (hm : cap ≤ maxLen) (hc : CntsAt w A L) :
    Calls Try.prog 3 #[.slice A L.length cap] w fun e w' => e = .returned (.bool true) ∧ Below w.heap.size w w' :=
  censusOf_walk A L cap w (by unfold maxLen at hm; omega) hc
end Go.Proofs.Ytokcnblonbcpeaa

