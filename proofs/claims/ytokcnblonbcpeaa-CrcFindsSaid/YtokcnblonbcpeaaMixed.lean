/- The walks of the reference's Bit and mixed: a bit of a number, and the exclusive or with the polynomial. -/
import Derived.Test.YtokcnblonbcpeaaLin
namespace Go.Proofs.Ytokcnblonbcpeaa
open Go.RowKit

theorem ret_int {k : IntKind} {a b : Int} (h : a = b) : Ending.returned (.int k a) = .returned (.int k b) := by rw [h]
theorem bit_div (x i : Nat) : x / 2 ^ i % 2 = 1 ↔ x.testBit i = true := by
  rw [Nat.testBit_eq_decide_div_mod_eq]; simp
theorem half_le (x : Nat) (k : Nat) : x / 2 ^ k ≤ x := Nat.div_le_self _ _
theorem half_step (x : Nat) (k : Nat) : x / 2 ^ k / 2 = x / 2 ^ (k + 1) := by rw [Nat.div_div_eq_div_mul, Nat.pow_succ]
theorem bit_beq (x i : Nat) : (((x / 2 ^ i : Nat) : Int) % 2 == 1) = x.testBit i := by
  rw [Bool.eq_iff_iff, ← bit_div]
  simp only [beq_iff_eq]
  omega

set_option maxHeartbeats 400000 in
theorem bit_nat (x i : Nat) (w : World) (hx : x < 18446744073709551616) (hi : i ≤ 63) :
    Calls Try.prog 31 #[.int .u64 (x : Int), .int .i64 (i : Int)] w fun e w' => e = .returned (.bool (x.testBit i)) ∧ w = w' := by
  have h1 : ¬ (i : Int) < 0 := by omega
  have h2 : ¬ (63 : Int) < (i : Int) := by omega
  go_enter Try.func31, Try.ntmps31
  go_wp2
  go_loop [0, 5] (fun v0 v5 => ∃ k : Nat, k ≤ i ∧ v5 = .int .i64 k ∧ v0 = .int .u64 ((x / 2 ^ k : Nat) : Int)) (fun _ v5 => i - (intOf v5).toNat)
  case atStart => exact ⟨0, Nat.zero_le _, rfl, by simp⟩
  case round =>
    obtain ⟨k, hk, rfl, rfl⟩ := hrel
    have hd := half_le x k
    by_cases hlt : k < i
    · have HS := Lib.hid (half_step x k)
      obtain ⟨y, hy⟩ : ∃ y, x / 2 ^ k = y := ⟨_, rfl⟩
      rw [hy] at hd HS ⊢
      clear hy
      go_wp2
      go_round
      case rel => exact ⟨k + 1, by omega, by go_num, by rw [← HS.out]; rfl⟩
      case measure => simp [intOf]; omega
    · obtain rfl : k = i := by omega
      have HB := Lib.hid (bit_beq x k)
      obtain ⟨y, hy⟩ : ∃ y, x / 2 ^ k = y := ⟨_, rfl⟩
      rw [hy] at hd HB ⊢
      clear hy
      go_wp2
      go_ret
      exact ⟨by rw [← HB.out]; rfl, rfl⟩
theorem bit_any (x i : Int) (w : World) (h0 : 0 ≤ x) (hx : x < 18446744073709551616) (hi0 : 0 ≤ i) (hi : i ≤ 63) :
    Calls Try.prog 31 #[.int .u64 x, .int .i64 i] w fun e w' => e = .returned (.bool (x.toNat.testBit i.toNat)) ∧ w = w' := by
  obtain ⟨n, rfl⟩ := Int.eq_ofNat_of_zero_le h0
  obtain ⟨m, rfl⟩ := Int.eq_ofNat_of_zero_le hi0
  exact bit_nat n m w (by omega) (by omega)

def pbit (k : Nat) : Bool := (2168537515 : Nat).testBit k
theorem bit_poly (k : Nat) (w : World) (hi : k ≤ 63) :
    Calls Try.prog 31 #[.int .u64 2168537515, .int .i64 (k : Int)] w fun e w' => e = .returned (.bool (pbit k)) ∧ w = w' :=
  bit_nat 2168537515 k w (by decide) hi
theorem mix_bit (x k : Nat) : (x ^^^ 2168537515) % 2 ^ (k + 1) = (x ^^^ 2168537515) % 2 ^ k + if (x.testBit k != pbit k) = true then 2 ^ k else 0 := by
  unfold pbit
  have h := Nat.mod_pow_succ (x := x ^^^ 2168537515) (b := 2) (k := k)
  have ht := bit_div (x ^^^ 2168537515) k
  rw [Nat.testBit_xor] at ht
  rw [h]
  by_cases hb : (x.testBit k != (2168537515 : Nat).testBit k) = true
  · rw [if_pos hb, ht.2 hb, Nat.mul_one]
  · rw [if_neg hb]
    have h0 : (x ^^^ 2168537515) / 2 ^ k % 2 = 0 := by
      rcases Nat.mod_two_eq_zero_or_one ((x ^^^ 2168537515) / 2 ^ k) with h0 | h1
      · exact h0
      · exact absurd (ht.1 h1) hb
    rw [h0]
    simp

theorem pow_le32 {k : Nat} (h : k ≤ 32) : 2 ^ k ≤ 4294967296 := Nat.pow_le_pow_right (by decide) h
set_option maxHeartbeats 400000 in
theorem mixed_any (x : Nat) (w : World) (hx : x < 4294967296) :
    Calls Try.prog 32 #[.int .u64 (x : Int)] w fun e w' => e = .returned (.int .u64 ((x ^^^ 2168537515 : Nat) : Int)) ∧ w = w' := by
  go_enter Try.func32, Try.ntmps32
  go_wp2
  go_loop [3, 4, 5] (fun v3 v4 v5 => ∃ k : Nat, k ≤ 32 ∧ v5 = .int .i64 k ∧ v4 = .int .u64 ((2 ^ k : Nat) : Int) ∧ v3 = .int .u64 (((x ^^^ 2168537515) % 2 ^ k : Nat) : Int)) (fun _ _ v5 => 32 - (intOf v5).toNat)
  case atStart => exact ⟨0, Nat.zero_le _, rfl, rfl, by simp [Nat.mod_one]⟩
  case round =>
    obtain ⟨k, hk, rfl, rfl, rfl⟩ := hrel
    have hp := pow_le32 hk
    have hm : (x ^^^ 2168537515) % 2 ^ k < 2 ^ k := Nat.mod_lt _ (Nat.two_pow_pos k)
    by_cases hlt : k < 32
    · have HM := Lib.hid (mix_bit x k)
      have HP := Lib.hid (Nat.pow_succ (n := 2) (m := k))
      generalize (x ^^^ 2168537515) % 2 ^ k = y at *
      generalize 2 ^ k = p at *
      go_wp2_with fail
      refine (bit_nat x k _ (by omega) (by omega)).mono ?_
      rintro e w' ⟨rfl, rfl⟩
      go_wp2_with fail
      refine (bit_poly k _ (by omega)).mono ?_
      rintro e w' ⟨rfl, rfl⟩
      generalize x.testBit k = b1 at *
      generalize pbit k = b2 at *
      cases b1 <;> cases b2
      all_goals
        go_wp2
        go_round
        case rel => exact ⟨k + 1, by omega, by go_num, by rw [HP.out]; go_num, by rw [HM.out]; first | rfl | go_num⟩
        case measure => simp [intOf]; omega
    · obtain rfl : k = 32 := by omega
      have hlt : x ^^^ 2168537515 < 2 ^ 32 := Nat.xor_lt_two_pow (by omega) (by decide)
      have hlt' : ((x ^^^ 2168537515 : Nat) : Int) < 4294967296 := by omega
      have hmod := Lib.hid (show ((x ^^^ 2168537515 : Nat) : Int) % 4294967296 = ((x ^^^ 2168537515 : Nat) : Int) by omega)
      clear hlt hm hlt'
      go_wp2
      go_ret
      exact ⟨ret_int hmod.out, rfl⟩
end Go.Proofs.Ytokcnblonbcpeaa
