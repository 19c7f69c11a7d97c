/- The walks of the reference's Small and May. -/
import Derived.Test.YtokcnblonbcpeaaROf
namespace Go.Proofs.Ytokcnblonbcpeaa
open Go.RowKit

/-- are there few n-grams, and short ones? -/
def smallB (L : List Cnt) (most long : Int) : Bool := decide ((L.length : Int) ≤ most) && L.all (fun x => decide ((x.g.length : Int) ≤ long))
theorem all_take (L : List Cnt) (p : Cnt → Bool) (k : Nat) (h : k < L.length) : (L.take (k + 1)).all p = ((L.take k).all p && p L[k]) := by
  rw [List.take_succ_eq_append_getElem h, List.all_append]; simp
theorem all_not (L : List Cnt) (p : Cnt → Bool) (k : Nat) (h : k < L.length) (hp : p L[k] = false) : L.all p = false := by
  rw [List.all_eq_false]
  exact ⟨L[k], List.getElem_mem h, by simp [hp]⟩
set_option maxHeartbeats 1000000 in
theorem small_any (A : Option Addr) (L : List Cnt) (cap : Nat) (most long : Int) (w : World) (hn : L.length ≤ 9223372036854775807) (hc : CntsAt w A L) :
    Calls Try.prog 10 #[.slice A L.length cap, .int .i64 most, .int .i64 long] w fun e w' => e = .returned (.bool (smallB L most long)) ∧ w = w' := by
  by_cases hm : most < (L.length : Int)
  · have HF := Lib.hid (show smallB L most long = false by unfold smallB; rw [decide_eq_false (by omega)]; rfl)
    go_enter Try.func10, Try.ntmps10
    go_wp2
    go_ret
    exact ⟨by rw [HF.out]; rfl, rfl⟩
  · have hm' : (L.length : Int) ≤ most := by omega
    clear hm
    have HF := Lib.hid (show smallB L most long = L.all (fun x => decide ((x.g.length : Int) ≤ long)) by unfold smallB; rw [decide_eq_true hm']; rfl)
    go_enter Try.func10, Try.ntmps10
    go_wp2
    go_loop [7] (fun v7 => ∃ k : Nat, k ≤ L.length ∧ v7 = .int .i64 k ∧ Hid ((L.take k).all (fun x => decide ((x.g.length : Int) ≤ long)) = true)) (fun v7 => L.length - (intOf v7).toNat)
    case atStart => exact ⟨0, Nat.zero_le _, rfl, Lib.hid rfl⟩
    case round =>
      obtain ⟨k, hk, rfl, hall⟩ := hrel
      by_cases hlt : k < L.length
      · obtain ⟨b, o, v, rfl, hbl, hc0, hc1, hv, hr0, hr1⟩ := hc k hlt
        obtain ⟨A', cap', rfl, hla, hma, hA'⟩ := hv
        unfold maxLen at hma
        have HS := Lib.hid (all_take L (fun x => decide ((x.g.length : Int) ≤ long)) k hlt)
        have HNo := Lib.hid (all_not L (fun x => decide ((x.g.length : Int) ≤ long)) k hlt)
        clear hc
        by_cases hx : long < (L[k].g.length : Int)
        · have hF := HNo.out (decide_eq_false (by omega))
          have HF2 := Lib.hid hF
          clear hF HNo
          obtain ⟨n, hn'⟩ : ∃ n, L[k].g.length = n := ⟨_, rfl⟩
          rw [hn'] at hx hc0
          clear hn'
          go_wp2
          go_ret
          exact ⟨by rw [HF.out, HF2.out]; rfl, rfl⟩
        · have HT := Lib.hid (show (L.take (k + 1)).all (fun x => decide ((x.g.length : Int) ≤ long)) = true by rw [HS.out, hall.out, decide_eq_true (show ((L[k].g.length : Int) ≤ long) by omega)]; rfl)
          obtain ⟨n, hn'⟩ : ∃ n, L[k].g.length = n := ⟨_, rfl⟩
          rw [hn'] at hx hc0
          clear hn' HS HNo
          have hx' : (n : Int) ≤ long := by omega
          clear hx
          go_wp2
          go_round
          case rel => exact ⟨k + 1, by omega, by go_num, HT⟩
          case measure => simp [intOf]; omega
      · have HT := Lib.hid (List.take_of_length_le (show L.length ≤ k by omega))
        go_wp2
        go_ret
        exact ⟨by rw [HF.out, ← HT.out, hall.out]; rfl, rfl⟩

theorem mayL_drop (L : List Cnt) (k : Nat) (h : k < L.length) (left : Int) : mayL (L.drop k) left = if left < L[k].n then false else mayL (L.drop (k + 1)) (left - max L[k].n 0) := by
  rw [List.drop_eq_getElem_cons h, mayL]
set_option maxHeartbeats 1000000 in
theorem may_any (A : Option Addr) (L : List Cnt) (cap : Nat) (w : World) (hn : L.length ≤ 9223372036854775807) (hc : CntsAt w A L) :
    Calls Try.prog 11 #[.slice A L.length cap] w fun e w' => e = .returned (.bool (mayB L)) ∧ w = w' := by
  go_enter Try.func11, Try.ntmps11
  go_wp2
  go_loop [3, 4] (fun v3 v4 => ∃ (k : Nat) (left : Int), k ≤ L.length ∧ v4 = .int .i64 k ∧ v3 = .int .i64 left ∧ 0 ≤ left ∧ left ≤ 4611686018427387904 ∧ Hid (mayB L = mayL (L.drop k) left)) (fun _ v4 => L.length - (intOf v4).toNat)
  case atStart => exact ⟨0, _, Nat.zero_le _, rfl, rfl, by omega, by omega, Lib.hid rfl⟩
  case round =>
    obtain ⟨k, left, hk, rfl, rfl, hl0, hl1, hm⟩ := hrel
    by_cases hlt : k < L.length
    · obtain ⟨b, o, v, rfl, hbl, hc0, hc1, hv, hr0, hr1⟩ := hc k hlt
      have HS := Lib.hid (mayL_drop L k hlt left)
      clear hc hc0 hv
      generalize L[k].n = N at *
      by_cases hx : left < N
      · have HF := Lib.hid (show mayB L = false by rw [hm.out, HS.out, if_pos hx])
        go_wp2
        go_ret
        exact ⟨by rw [HF.out]; rfl, rfl⟩
      · have HF := Lib.hid (show mayB L = mayL (L.drop (k + 1)) (left - max N 0) by rw [hm.out, HS.out, if_neg hx])
        have hx' : N ≤ left := by omega
        have HM := Lib.hid (show left - max N 0 = left - if N < 0 then 0 else N by split <;> omega)
        have hmx0 : 0 ≤ left - max N 0 := by omega
        have hmx1 : left - max N 0 ≤ left := by omega
        clear hx
        go_wp2
        go_round
        case rel => exact ⟨k + 1, _, by omega, by go_num, rfl, by rw [← HM.out]; omega, by rw [← HM.out]; omega, Lib.hid (by rw [← HM.out]; exact HF.out)⟩
        case measure => simp [intOf]; omega
    · have HT := Lib.hid (show mayB L = true by rw [hm.out, List.drop_of_length_le (by omega)]; rfl)
      go_wp2
      go_ret
      exact ⟨by rw [HT.out]; rfl, rfl⟩
end Go.Proofs.Ytokcnblonbcpeaa
