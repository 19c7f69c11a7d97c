/- The walks of the comparisons of rows of numbers. -/
import Derived.Test.YtokcnblonbcpeaaLex
import Derived.Test.YtokcnblonbcpeaaCOf
namespace Go.Proofs.Ytokcnblonbcpeaa
open Go.RowKit

/-- nothing but draws lies between two worlds. -/
def Drew (a b : World) : Prop := ∃ m, b = a.drewN m
theorem Drew.refl (a : World) : Drew a a := ⟨0, rfl⟩
theorem Drew.more {a b : World} (h : Drew a b) (n : Nat) : Drew a (b.drewN n) := by
  obtain ⟨m, rfl⟩ := h
  exact ⟨m + n, World.drewN_drewN _ _ _⟩
theorem Drew.cell {a b : World} (h : Drew a b) (p : Addr) : b.cell? p = a.cell? p := by
  obtain ⟨m, rfl⟩ := h
  rfl
theorem Drew.below {a b : World} (h : Drew a b) : Below a.heap.size a b := by
  obtain ⟨m, rfl⟩ := h
  exact below_drewN (Below.refl _ _) m

set_option maxHeartbeats 1000000 in
theorem cmp_any (a b : Int) (w : World) :
    Calls Try.prog 41 #[.int .i64 a, .int .i64 b] w fun e w' => e = .returned (.int .i64 (cmpI a b)) ∧ w = w' := by
  by_cases h1 : a < b
  · have HC := Lib.hid (show cmpI a b = -1 from if_pos h1)
    go_enter Try.func41, Try.ntmps41
    go_wp2
    go_ret
    exact ⟨by rw [HC.out]; rfl, rfl⟩
  · by_cases h2 : b < a
    · have HC := Lib.hid (show cmpI a b = 1 by unfold cmpI; rw [if_neg h1, if_pos h2])
      go_enter Try.func41, Try.ntmps41
      go_wp2
      go_ret
      exact ⟨by rw [HC.out]; rfl, rfl⟩
    · have HC := Lib.hid (show cmpI a b = 0 by unfold cmpI; rw [if_neg h1, if_neg h2])
      have h1' : b ≤ a := by omega
      have h2' : a ≤ b := by omega
      clear h1 h2
      go_enter Try.func41, Try.ntmps41
      go_wp2
      go_ret
      exact ⟨by rw [HC.out]; rfl, rfl⟩

theorem cmpL_drop (a b : List Int) (k : Nat) (ha : k < a.length) (hb : k < b.length) : cmpL (a.drop k) (b.drop k) = if a[k] < b[k] then -1 else if b[k] < a[k] then 1 else cmpL (a.drop (k + 1)) (b.drop (k + 1)) := by
  rw [List.drop_eq_getElem_cons ha, List.drop_eq_getElem_cons hb, cmpL]
theorem cmpL_drop_b (a b : List Int) (k : Nat) (ha : k < a.length) (hb : b.length ≤ k) : cmpL (a.drop k) (b.drop k) = 1 := by
  rw [List.drop_eq_getElem_cons ha, List.drop_of_length_le hb, cmpL]
theorem cmpL_drop_a (a b : List Int) (k : Nat) (ha : a.length ≤ k) (hb : k < b.length) : cmpL (a.drop k) (b.drop k) = -1 := by
  rw [List.drop_eq_getElem_cons hb, List.drop_of_length_le ha, cmpL]
theorem cmpL_drop_0 (a b : List Int) (k : Nat) (ha : a.length ≤ k) (hb : b.length ≤ k) : cmpL (a.drop k) (b.drop k) = 0 := by
  rw [List.drop_of_length_le hb, List.drop_of_length_le ha, cmpL]

set_option maxHeartbeats 1000000 in
theorem rcompare_any (A B : Option Addr) (a b : List Int) (ca cb : Nat) (w : World) (hla : a.length ≤ 9223372036854775807) (ha : IntsAt w A a) (hb : IntsAt w B b) :
    Calls Try.prog 26 #[.slice A a.length ca, .slice B b.length cb] w fun e w' => e = .returned (.int .i64 (cmpL a b)) ∧ Drew w w' := by
  go_enter Try.func26, Try.ntmps26
  go_wp2
  go_loopw [5] (fun v5 wr => ∃ k : Nat, k ≤ a.length ∧ k ≤ b.length ∧ v5 = .int .i64 k ∧ Hid (cmpL a b = cmpL (a.drop k) (b.drop k)) ∧ Drew w wr) (fun v5 _ => a.length - (intOf v5).toNat)
  case atStart => exact ⟨0, Nat.zero_le _, Nat.zero_le _, rfl, Lib.hid rfl, Drew.refl _⟩
  case round =>
    obtain ⟨k, hk, hkb, rfl, hc, hbr⟩ := hrel
    by_cases hlt : k < a.length
    · by_cases hltb : k < b.length
      · obtain ⟨ba, oa, rfl, _, hca⟩ := ha k hlt
        obtain ⟨bb, ob, rfl, _, hcb⟩ := hb k hltb
        have hca' : wr.cell? ⟨ba, oa + k, none⟩ = some (.int .i64 a[k]) := (hbr.cell _).trans hca
        have hcb' : wr.cell? ⟨bb, ob + k, none⟩ = some (.int .i64 b[k]) := (hbr.cell _).trans hcb
        clear hca hcb ha hb
        have HS := Lib.hid (cmpL_drop a b k hlt hltb)
        generalize a[k] = x at *
        generalize b[k] = y at *
        have i0 : (0 : Int) ≤ (k : Int) := by omega
        have i1 : (k : Int) < (a.length : Int) := by omega
        have i2 : (k : Int) < (b.length : Int) := by omega
        by_cases h1 : x < y
        · have HF := Lib.hid (show cmpL a b = -1 by rw [hc.out, HS.out, if_pos h1])
          go_wp2
          go_quiet (fail)
          go_wp2
          go_ret
          exact ⟨by rw [HF.out]; rfl, by first | exact hbr.more _ | exact (hbr.more _).more _⟩
        · have h1' : y ≤ x := by omega
          by_cases h2 : y < x
          · have HF := Lib.hid (show cmpL a b = 1 by rw [hc.out, HS.out, if_neg h1, if_pos h2])
            clear h1
            go_wp2
            go_quiet (fail)
            go_wp2
            go_quiet (fail)
            go_wp2
            go_ret
            exact ⟨by rw [HF.out]; rfl, by first | exact hbr.more _ | exact (hbr.more _).more _⟩
          · have HF := Lib.hid (show cmpL a b = cmpL (a.drop (k + 1)) (b.drop (k + 1)) by rw [hc.out, HS.out, if_neg h1, if_neg h2])
            have h2' : x ≤ y := by omega
            clear h1 h2
            go_wp2
            go_quiet (fail)
            go_wp2
            go_quiet (fail)
            go_wp2
            go_roundw
            case rel => exact ⟨k + 1, by omega, by omega, by go_num, HF, by first | exact hbr.more _ | exact (hbr.more _).more _⟩
            case measure => simp [intOf]; omega
      · have HF := Lib.hid (show cmpL a b = 1 by rw [hc.out, cmpL_drop_b a b k hlt (by omega)])
        have hbb : b.length < a.length := by omega
        go_wp2
        go_ret
        exact ⟨by rw [HF.out]; rfl, hbr⟩
    · by_cases hltb : a.length < b.length
      · have HF := Lib.hid (show cmpL a b = -1 by rw [hc.out, cmpL_drop_a a b k (by omega) (by omega)])
        go_wp2
        go_ret
        exact ⟨by rw [HF.out]; rfl, hbr⟩
      · have HF := Lib.hid (show cmpL a b = 0 by rw [hc.out, cmpL_drop_0 a b k (by omega) (by omega)])
        have hbb : b.length ≤ a.length := by omega
        go_wp2
        go_ret
        exact ⟨by rw [HF.out]; rfl, hbr⟩
set_option maxHeartbeats 1000000 in
theorem scompare_any (A B : Option Addr) (a b : List Int) (ca cb : Nat) (w : World) (hla : a.length ≤ 9223372036854775807) (ha : IntsAt w A a) (hb : IntsAt w B b) :
    Calls Try.prog 40 #[.slice A a.length ca, .slice B b.length cb] w fun e w' => e = .returned (.int .i64 (cmpL a b)) ∧ w = w' := by
  go_enter Try.func40, Try.ntmps40
  go_wp2
  go_loop [11] (fun v11 => ∃ k : Nat, k ≤ a.length ∧ k ≤ b.length ∧ v11 = .int .i64 k ∧ Hid (cmpL a b = cmpL (a.drop k) (b.drop k))) (fun v11 => a.length - (intOf v11).toNat)
  case atStart => exact ⟨0, Nat.zero_le _, Nat.zero_le _, rfl, Lib.hid rfl⟩
  case round =>
    obtain ⟨k, hk, hkb, rfl, hc⟩ := hrel
    by_cases hlt : k < a.length
    · obtain ⟨ba, oa, rfl, hba, hca⟩ := ha k hlt
      by_cases hltb : k < b.length
      · obtain ⟨bb, ob, rfl, hbb, hcb⟩ := hb k hltb
        have HS := Lib.hid (cmpL_drop a b k hlt hltb)
        clear ha hb
        generalize a[k] = x at *
        generalize b[k] = y at *
        by_cases h1 : x < y
        · have HF := Lib.hid (show cmpL a b = -1 by rw [hc.out, HS.out, if_pos h1])
          have HI := Lib.hid (show cmpI x y = -1 from if_pos h1)
          go_wp2_with fail
          refine (cmp_any _ _ _).mono ?_
          rintro e w1 ⟨rfl, rfl⟩
          rw [HI.out]
          go_wp2
          go_ret
          exact ⟨by rw [HF.out]; rfl, rfl⟩
        · by_cases h2 : y < x
          · have HF := Lib.hid (show cmpL a b = 1 by rw [hc.out, HS.out, if_neg h1, if_pos h2])
            have HI := Lib.hid (show cmpI x y = 1 by unfold cmpI; rw [if_neg h1, if_pos h2])
            go_wp2_with fail
            refine (cmp_any _ _ _).mono ?_
            rintro e w1 ⟨rfl, rfl⟩
            rw [HI.out]
            go_wp2
            go_ret
            exact ⟨by rw [HF.out]; rfl, rfl⟩
          · have HF := Lib.hid (show cmpL a b = cmpL (a.drop (k + 1)) (b.drop (k + 1)) by rw [hc.out, HS.out, if_neg h1, if_neg h2])
            have HI := Lib.hid (show cmpI x y = 0 by unfold cmpI; rw [if_neg h1, if_neg h2])
            clear h1 h2
            go_wp2_with fail
            refine (cmp_any _ _ _).mono ?_
            rintro e w1 ⟨rfl, rfl⟩
            rw [HI.out]
            go_wp2
            go_round
            case rel => exact ⟨k + 1, by omega, by omega, by go_num, HF⟩
            case measure => simp [intOf]; omega
      · have HF := Lib.hid (show cmpL a b = 1 by rw [hc.out, cmpL_drop_b a b k hlt (by omega)])
        go_wp2
        go_ret
        exact ⟨by rw [HF.out]; rfl, rfl⟩
    · have hka : k = a.length := by omega
      by_cases hltb : a.length < b.length
      · have HF := Lib.hid (show cmpL a b = -1 by rw [hc.out, cmpL_drop_a a b k (by omega) (by omega)])
        clear hka
        go_wp2
        go_ret
        exact ⟨by rw [HF.out]; rfl, rfl⟩
      · have HF := Lib.hid (show cmpL a b = 0 by rw [hc.out, cmpL_drop_0 a b k (by omega) (by omega)])
        have hbb : b.length ≤ a.length := by omega
        clear hka
        go_wp2
        go_ret
        exact ⟨by rw [HF.out]; rfl, rfl⟩
set_option maxHeartbeats 1000000 in
theorem sequal_any (A B : Option Addr) (a b : List Int) (ca cb : Nat) (w : World) (hla : a.length ≤ 9223372036854775807) (hlb : b.length ≤ 9223372036854775807) (ha : IntsAt w A a) (hb : IntsAt w B b) :
    Calls Try.prog 39 #[.slice A a.length ca, .slice B b.length cb] w fun e w' => e = .returned (.bool (decide (a = b))) ∧ Drew w w' := by
  by_cases hl : a.length = b.length
  · have hll : ((a.length : Int) != (b.length : Int)) = false := by simp [hl]
    have hlb' : b.length ≤ a.length := by omega
    have HL := Lib.hid hl
    clear hl
    go_enter Try.func39, Try.ntmps39
    go_wp2
    clear hll
    go_loopw [13] (fun v5 wr => ∃ k : Nat, k ≤ a.length ∧ v5 = .int .i64 k ∧ Hid (a.take k = b.take k) ∧ Drew w wr) (fun v5 _ => a.length - (intOf v5).toNat)
    case atStart => exact ⟨0, Nat.zero_le _, rfl, Lib.hid rfl, Drew.refl _⟩
    case round =>
      obtain ⟨k, hk, rfl, htk, hbr⟩ := hrel
      by_cases hlt : k < a.length
      · have hlt' : k < b.length := by have := HL.out; omega
        obtain ⟨ba, oa, rfl, _, hca⟩ := ha k hlt
        obtain ⟨bb, ob, rfl, _, hcb⟩ := hb k hlt'
        have hca' : wr.cell? ⟨ba, oa + k, none⟩ = some (.int .i64 a[k]) := (hbr.cell _).trans hca
        have hcb' : wr.cell? ⟨bb, ob + k, none⟩ = some (.int .i64 b[k]) := (hbr.cell _).trans hcb
        clear hca hcb ha hb
        have HS := Lib.hid (intsB_snoc a b k hlt hlt')
        generalize a[k] = x at *
        generalize b[k] = y at *
        have i0 : (0 : Int) ≤ (k : Int) := by omega
        have i1 : (k : Int) < (a.length : Int) := by omega
        have i2 : (k : Int) < (b.length : Int) := by omega
        by_cases hxy : x = y
        · have hne : (x != y) = false := by simp [hxy]
          have HXY := Lib.hid hxy
          clear hxy
          go_wp2
          go_quiet (fail)
          go_wp2
          go_roundw
          case rel => exact ⟨k + 1, by omega, by go_num, Lib.hid (HS.out.2 ⟨htk.out, HXY.out⟩), hbr.more _⟩
          case measure => simp [intOf]; omega
        · have hne : (x != y) = true := by simp [hxy]
          have HXY := Lib.hid hxy
          have hno : ¬ a = b := fun e => by
            subst e
            exact hxy ((HS.out.1 rfl).2)
          have HN := Lib.hid (decide_eq_false hno)
          clear hxy hno
          go_wp2
          go_quiet (fail)
          go_wp2
          go_ret
          exact ⟨by rw [HN.out]; rfl, hbr.more _⟩
      · have hab : a = b := by
          have h1 := htk.out
          rwa [List.take_of_length_le (by omega), List.take_of_length_le (by omega)] at h1
        have HN := Lib.hid (decide_eq_true hab)
        clear hab
        go_wp2
        go_ret
        exact ⟨by rw [HN.out]; rfl, hbr⟩
  · have hll : ((a.length : Int) != (b.length : Int)) = true := by simp; omega
    have HN := Lib.hid (decide_eq_false (fun e : a = b => hl (by rw [e])))
    clear hl
    go_enter Try.func39, Try.ntmps39
    go_wp2
    go_ret
    exact ⟨by rw [HN.out]; rfl, Drew.refl _⟩
set_option maxHeartbeats 1000000 in
theorem gcompare_any (A B : Option Addr) (a b : List Int) (ca cb : Nat) (w : World) (hla : a.length ≤ 9223372036854775807) (ha : IntsAt w A a) (hb : IntsAt w B b) :
    Calls Try.prog 38 #[.slice A a.length ca, .slice B b.length cb] w fun e w' => e = .returned (.int .i64 (cmpL a b)) ∧ w = w' := by
  go_enter Try.func38, Try.ntmps38
  go_wp2_with fail
  refine (scompare_any A B a b ca cb _ hla ha hb).mono ?_
  rintro e w1 ⟨rfl, rfl⟩
  go_wp2
  go_ret
  exact ⟨rfl, rfl⟩
end Go.Proofs.Ytokcnblonbcpeaa
