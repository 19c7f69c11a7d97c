/- The walk of the reference's More: the same linear map. -/
import Derived.Test.YtokcnblonbcpeaaMixed
namespace Go.Proofs.Ytokcnblonbcpeaa
open Go.RowKit

theorem msb_beq (c : BitVec 32) : (toI c / 2147483648 == 1) = c.msb := by
  rw [Bool.eq_iff_iff, beq_iff_eq, msb_toI]
theorem not_toI (c : BitVec 32) : 4294967295 - toI c = toI (~~~c) := by
  unfold toI
  rw [BitVec.toNat_not]
  have := c.isLt
  omega
theorem mixed_toI (c : BitVec 32) (w : World) :
    Calls Try.prog 32 #[.int .u64 (toI c)] w fun e w' => e = .returned (.int .u64 (toI (c ^^^ poly))) ∧ w = w' :=
  (mixed_any c.toNat w c.isLt).mono fun e w' ⟨he, hw⟩ => ⟨by rw [he]; exact ret_int (by unfold toI; rw [BitVec.toNat_xor]; rfl), hw⟩
theorem step_same (c : BitVec 32) : c <<< 1 = S (c ^^^ bt1 c.msb) := by
  unfold bt1
  cases h : c.msb
  · rw [if_neg Bool.false_ne_true, BitVec.xor_zero]; unfold S; rw [h]; simp
  · rw [if_pos rfl, S_xor, S_top]; unfold S; rw [h, if_pos rfl, BitVec.xor_assoc]; simp
theorem step_other (c : BitVec 32) (b : Bool) (hb : b = !c.msb) : c <<< 1 ^^^ poly = S (c ^^^ bt1 b) := by
  subst hb
  unfold bt1
  cases h : c.msb
  · rw [Bool.not_false, if_pos rfl, S_xor, S_top]; unfold S; rw [h]; simp
  · rw [Bool.not_true, if_neg Bool.false_ne_true, BitVec.xor_zero]; unfold S; rw [h]; simp
def bitAt (b : UInt8) (j : Nat) : Bool := b.toNat.testBit (7 - j)
theorem bitsB_take (b : UInt8) (j : Nat) (hj : j < 8) : (bitsB b).take (j + 1) = (bitsB b).take j ++ [bitAt b j] := by
  match j, hj with
  | 0, _ => rfl
  | 1, _ => rfl
  | 2, _ => rfl
  | 3, _ => rfl
  | 4, _ => rfl
  | 5, _ => rfl
  | 6, _ => rfl
  | 7, _ => rfl
theorem M_snoc (c : BitVec 32) (l : List Bool) (b : Bool) : M c (l ++ [b]) = S (M c l ^^^ bt1 b) := by rw [M_append]; rfl
theorem bitAt_any (b : UInt8) (j : Nat) (w : World) (hj : j < 8) :
    Calls Try.prog 31 #[.int .u64 (b.toNat : Int), .int .i64 (7 - (j : Int))] w fun e w' => e = .returned (.bool (bitAt b j)) ∧ w = w' := by
  have h := bit_any (b.toNat : Int) (7 - (j : Int)) w (by omega) (by have := b.toNat_lt; omega) (by omega) (by omega)
  rw [Int.toNat_natCast, show (7 - (j : Int)).toNat = 7 - j by omega] at h
  exact h

theorem bitAt_wrap (b : UInt8) (j : Nat) (w : World) (hj : j < 8) :
    Calls Try.prog 31 #[.int .u64 (IntKind.u64.wrap (b.toNat : Int)), .int .i64 (7 - (j : Int))] w fun e w' => e = .returned (.bool (bitAt b j)) ∧ w = w' := by
  rw [show IntKind.u64.wrap (b.toNat : Int) = (b.toNat : Int) by rw [IntKind.wrap_u64]; have := b.toNat_lt; omega]
  exact bitAt_any b j w hj

set_option maxHeartbeats 400000 in
theorem rmore_any (c : BitVec 32) (s : ByteArray) (w : World) (hs : s.size ≤ maxLen) :
    Calls Try.prog 18 #[.int .u32 (toI c), .string s] w fun e w' => e = .returned (.int .u32 (toI (crcB c s.data.toList))) ∧ w = w' := by
  unfold maxLen at hs
  have hc := toI_lt c
  have hn := not_toI c
  go_enter Try.func18, Try.ntmps18
  go_wp2
  clear hn hc
  go_loop [5, 6, 7] (fun v5 v6 v7 => ∃ k : Nat, k ≤ s.size ∧ v6 = .int .i64 k ∧ v5 = .int .u64 (toI (M (~~~c) (bitsOf (s.data.toList.take k))))) (fun _ v6 _ => s.size - (intOf v6).toNat)
  case atStart => exact ⟨0, Nat.zero_le _, rfl, rfl⟩
  case round =>
    obtain ⟨k, hk, rfl, rfl⟩ := hrel
    by_cases hlt : k < s.size
    · have HS := Lib.hid (show M (~~~c) (bitsOf (s.data.toList.take (k + 1))) = M (M (~~~c) (bitsOf (s.data.toList.take k))) (bitsB s[k]) by rw [take_snoc s k hlt, bitsOf_append, M_append]; simp [bitsOf])
      obtain ⟨C, hC⟩ : ∃ C, M (~~~c) (bitsOf (s.data.toList.take k)) = C := ⟨_, rfl⟩
      rw [hC] at HS ⊢
      clear hC
      go_wp2
      go_loop [5, 7] (fun v5 v7 => ∃ j : Nat, j ≤ 8 ∧ v7 = .int .i64 (7 - (j : Int)) ∧ v5 = .int .u64 (toI (M C ((bitsB s[k]).take j)))) (fun _ v7 => ((intOf v7) + 1).toNat)
      case atStart => exact ⟨0, by omega, rfl, rfl⟩
      case round =>
        obtain ⟨j, hj, rfl, rfl⟩ := hrel
        by_cases hjl : j < 8
        · have HJ := Lib.hid (show M C ((bitsB s[k]).take (j + 1)) = S (M C ((bitsB s[k]).take j) ^^^ bt1 (bitAt s[k] j)) by rw [bitsB_take _ _ hjl, M_snoc])
          obtain ⟨D, hD⟩ : ∃ D, M C ((bitsB s[k]).take j) = D := ⟨_, rfl⟩
          rw [hD] at HJ ⊢
          clear hD
          have hx := toI_lt D
          have hsh := shl_toI D 1 2 rfl
          have hmb := msb_beq D
          go_wp2_with fail
          refine (bitAt_wrap s[k] j _ hjl).mono ?_
          rintro e w' ⟨rfl, rfl⟩
          clear hsh hmb
          have HA := Lib.hid (step_same D)
          have HO := Lib.hid (step_other D (bitAt s[k] j))
          generalize bitAt s[k] j = b at *
          generalize hm : D.msb = m at *
          clear hm
          cases m <;> cases b
          · go_wp2
            go_round
            case rel => exact ⟨j + 1, by omega, by go_num, by rw [HJ.out, HA.out]⟩
            case measure => simp [intOf]; omega
          · go_wp2_with fail
            refine (mixed_toI _ _).mono ?_
            rintro e w' ⟨rfl, rfl⟩
            go_wp2
            go_round
            case rel => exact ⟨j + 1, by omega, by go_num, by rw [HJ.out, ← HO.out rfl]⟩
            case measure => simp [intOf]; omega
          · go_wp2_with fail
            refine (mixed_toI _ _).mono ?_
            rintro e w' ⟨rfl, rfl⟩
            go_wp2
            go_round
            case rel => exact ⟨j + 1, by omega, by go_num, by rw [HJ.out, ← HO.out rfl]⟩
            case measure => simp [intOf]; omega
          · go_wp2
            go_round
            case rel => exact ⟨j + 1, by omega, by go_num, by rw [HJ.out, HA.out]⟩
            case measure => simp [intOf]; omega
        · obtain rfl : j = 8 := by omega
          go_wp2
          go_round
          case rel => exact ⟨k + 1, by omega, by go_num, by rw [HS.out]; rfl⟩
          case measure => simp [intOf]; omega
    · obtain rfl : k = s.size := by omega
      have HT := Lib.hid (show s.data.toList.take s.size = s.data.toList from List.take_of_length_le (by simp))
      have hn := not_toI (M (~~~c) (bitsOf (s.data.toList.take s.size)))
      have hx := toI_lt (M (~~~c) (bitsOf (s.data.toList.take s.size)))
      have hx := toI_lt (~~~ M (~~~c) (bitsOf (s.data.toList.take s.size)))
      go_wp2
      go_ret
      exact ⟨by rw [HT.out]; rfl, rfl⟩
end Go.Proofs.Ytokcnblonbcpeaa
