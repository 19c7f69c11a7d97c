/- Bits turned within 32 in a row change the word that a row of bits comes to; what that says of Open. Plain laws. -/
import Derived.Test.YtokcnblonbcpeaaLive
namespace Go.Proofs.Ytokcnblonbcpeaa
open Go.RowKit

theorem top_bit (i : Nat) : top.getLsbD i = decide (i = 31) := by
  by_cases h : i = 31
  · subst h; rfl
  · rw [decide_eq_false h]
    by_cases h2 : i < 32
    · have hlt : i < 31 := by omega
      have : ∀ i : Nat, i < 31 → (0x80000000#32).getLsbD i = false := by decide
      exact this i hlt
    · exact BitVec.getLsbD_of_ge _ _ (by omega)
theorem bt1_bit (b : Bool) (i : Nat) : (bt1 b).getLsbD i = (b && decide (i = 31)) := by
  cases b
  · simp [bt1]
  · simp only [bt1, if_true, top_bit, Bool.true_and]
theorem W_at (m : List Bool) (hm : m.length ≤ 32) (i : Nat) (hi : i < m.length) : (W m).getLsbD (31 - i) = m[i] := by
  induction m generalizing i with
  | nil => simp at hi
  | cons b l ih =>
    simp only [List.length_cons] at hm hi
    simp only [W, BitVec.getLsbD_xor, BitVec.getLsbD_ushiftRight, bt1_bit]
    cases i with
    | zero =>
      rw [BitVec.getLsbD_of_ge _ _ (by omega)]
      simp
    | succ i =>
      rw [show 1 + (31 - (i + 1)) = 31 - i by omega, ih (by omega) i (by omega), decide_eq_false (by omega)]
      simp

/-- TWO ROWS OF BITS THAT DIFFER WITHIN 32 IN A ROW COME TO DIFFERENT WORDS. -/
theorem detect (c : BitVec 32) (l l' : List Bool) (n mask : Nat) (hl : l'.length = l.length) (hn : n + 32 ≤ l.length) (h0 : mask ≠ 0) (h32 : mask < 4294967296)
    (h : ∀ j (hj : j < l.length), l'[j]'(by omega) = (l[j] ^^ (decide (n ≤ j ∧ j < n + 32) && mask.testBit (j - n)))) : M c l ≠ M c l' := by
  intro e
  have hz : List.zipWith xor l l' = List.replicate n false ++ ((List.range 32).map mask.testBit ++ List.replicate (l.length - n - 32) false) := by
    apply List.ext_getElem
    · simp [hl]; omega
    · intro j h1 h2
      have hj : j < l.length := by simp [hl] at h1; omega
      rw [List.getElem_zipWith, h j hj, ← Bool.xor_assoc, Bool.xor_self, Bool.false_xor]
      by_cases ha : j < n
      · rw [List.getElem_append_left (by simpa using ha)]
        rw [decide_eq_false (by omega)]
        simp
      · rw [List.getElem_append_right (by simp; omega)]
        by_cases hb : j < n + 32
        · rw [List.getElem_append_left (by simp; omega)]
          rw [decide_eq_true (by omega)]
          simp
        · rw [List.getElem_append_right (by simp; omega)]
          rw [decide_eq_false (by omega)]
          simp
  have hx := M_lin l l' hl.symm c c
  rw [e, BitVec.xor_self, BitVec.xor_self, hz, M_append, M_append, M_zeros, M_zeros, Sn_zero, M_word _ (by simp)] at hx
  have hw : W ((List.range 32).map mask.testBit) = 0#32 := by
    have h1 := Sn_inj (hx.symm.trans (Sn_zero _).symm)
    have h2 := Sn_inj (h1.trans (Sn_zero _).symm)
    simpa using h2
  apply h0
  apply Nat.eq_of_testBit_eq
  intro i
  rw [Nat.zero_testBit]
  by_cases hi : i < 32
  · have h3 := W_at ((List.range 32).map mask.testBit) (by simp) i (by simpa using hi)
    rw [hw] at h3
    simpa using h3.symm
  · exact Nat.testBit_lt_two_pow (Nat.lt_of_lt_of_le h32 (Nat.pow_le_pow_right (by decide) (by omega : 32 ≤ i) : 2 ^ 32 ≤ 2 ^ i))

theorem byteBits (C : BitVec 32) (s : Nat) : bitsB (UInt8.ofNat (C.toNat / 2 ^ s % 256)) = [C.getLsbD (s + 7), C.getLsbD (s + 6), C.getLsbD (s + 5), C.getLsbD (s + 4), C.getLsbD (s + 3), C.getLsbD (s + 2), C.getLsbD (s + 1), C.getLsbD s] := by
  have h : ∀ k, k < 8 → (UInt8.ofNat (C.toNat / 2 ^ s % 256)).toNat.testBit k = C.getLsbD (s + k) := by
    intro k hk
    rw [UInt8.toNat_ofNat', Nat.mod_mod, show (256 : Nat) = 2 ^ 8 from rfl, Nat.testBit_mod_two_pow, decide_eq_true hk, Bool.true_and, Nat.testBit_div_two_pow, BitVec.testBit_toNat, Nat.add_comm]
  unfold bitsB
  rw [h 7 (by omega), h 6 (by omega), h 5 (by omega), h 4 (by omega), h 3 (by omega), h 2 (by omega), h 1 (by omega), h 0 (by omega)]
  rfl
def bitL (l : List UInt8) (j : Nat) : Bool := (l.getD (j / 8) 0).toNat.testBit (7 - j % 8)
theorem bitsB_at (b : UInt8) (k : Nat) (hk : k < 8) : (bitsB b)[k]'(hk) = b.toNat.testBit (7 - k) := by
  match k, hk with
  | 0, _ => rfl
  | 1, _ => rfl
  | 2, _ => rfl
  | 3, _ => rfl
  | 4, _ => rfl
  | 5, _ => rfl
  | 6, _ => rfl
  | 7, _ => rfl
theorem bitsOf_at (l : List UInt8) (j : Nat) (hj : j < (bitsOf l).length) : (bitsOf l)[j] = bitL l j := by
  induction l generalizing j with
  | nil => simp [bitsOf] at hj
  | cons b l ih =>
    have hc : bitsOf (b :: l) = bitsB b ++ bitsOf l := rfl
    have h8 : (bitsB b).length = 8 := rfl
    by_cases h : j < 8
    · rw [List.getElem_of_eq hc, List.getElem_append_left (by omega), show (bitsB b)[j]'(by omega) = _ from bitsB_at b j h]
      unfold bitL
      rw [show j / 8 = 0 by omega, show j % 8 = j by omega]
      rfl
    · rw [hc, List.length_append, h8] at hj
      rw [List.getElem_of_eq hc, List.getElem_append_right (by omega)]
      rw [ih _ (by omega), h8]
      unfold bitL
      rw [show (j - 8) / 8 = j / 8 - 1 by omega, show (j - 8) % 8 = j % 8 by omega]
      obtain ⟨q, hq⟩ : ∃ q, j / 8 = q + 1 := ⟨j / 8 - 1, by omega⟩
      rw [hq]
      rfl
theorem bitL_set (l : List UInt8) (i j : Nat) (hi : i / 8 < l.length) (u : UInt8) (hu : u = UInt8.ofNat (2 ^ (7 - i % 8))) :
    bitL (l.set (i / 8) (l.getD (i / 8) 0 ^^^ u)) j = (bitL l j ^^ decide (j = i)) := by
  unfold bitL
  by_cases h : j / 8 = i / 8
  · rw [h]
    have hg : (l.set (i / 8) (l.getD (i / 8) 0 ^^^ u)).getD (i / 8) 0 = l.getD (i / 8) 0 ^^^ u := by
      simp [List.getD, hi]
    rw [hg, UInt8.toNat_xor, Nat.testBit_xor, hu]
    congr 1
    have hlt : 2 ^ (7 - i % 8) < 256 := (Nat.pow_lt_pow_right (by decide : 1 < 2) (by omega : 7 - i % 8 < 8) : 2 ^ (7 - i % 8) < 2 ^ 8)
    rw [UInt8.toNat_ofNat', Nat.mod_eq_of_lt hlt, Nat.testBit_two_pow]
    rw [Bool.eq_iff_iff, decide_eq_true_iff, decide_eq_true_iff]
    omega
  · have hg : (l.set (i / 8) (l.getD (i / 8) 0 ^^^ u)).getD (j / 8) 0 = l.getD (j / 8) 0 := by
      simp only [List.getD, List.getElem?_set]
      rw [if_neg (fun e => h e.symm)]
    rw [hg, decide_eq_false (by omega), Bool.xor_false]

theorem laid_list (C : BitVec 32) : (laidI (toI C)).data.toList = [UInt8.ofNat (C.toNat / 2 ^ 24 % 256), UInt8.ofNat (C.toNat / 2 ^ 16 % 256), UInt8.ofNat (C.toNat / 2 ^ 8 % 256), UInt8.ofNat (C.toNat / 2 ^ 0 % 256)] := by
  unfold laidI toI
  rw [strOfNums_data]
  have hC := C.isLt
  simp only [List.map_cons, List.map_nil]
  rw [show ((C.toNat : Int) / 16777216).toNat = C.toNat / 2 ^ 24 % 256 by omega, show ((C.toNat : Int) / 65536 % 256).toNat = C.toNat / 2 ^ 16 % 256 by omega,
    show ((C.toNat : Int) / 256 % 256).toNat = C.toNat / 2 ^ 8 % 256 by omega, show ((C.toNat : Int) % 256).toNat = C.toNat / 2 ^ 0 % 256 by omega]
theorem laid_bits (C : BitVec 32) : bitsOf (laidI (toI C)).data.toList = (List.range 32).map (fun i => C.getLsbD (31 - i)) := by
  rw [laid_list]
  unfold bitsOf
  simp only [List.flatMap_cons, List.flatMap_nil, byteBits]
  rfl
theorem laid_W (C : BitVec 32) : W (bitsOf (laidI (toI C)).data.toList) = C := by
  rw [laid_bits]
  apply BitVec.eq_of_getLsbD_eq
  intro i hi
  have h := W_at ((List.range 32).map (fun i => C.getLsbD (31 - i))) (by simp) (31 - i) (by simp; omega)
  rw [show 31 - (31 - i) = i by omega] at h
  rw [h]
  simp [show 31 - (31 - i) = i by omega]
theorem xor_not (x : BitVec 32) : x ^^^ ~~~x = BitVec.allOnes 32 := by
  apply BitVec.eq_of_getLsbD_eq
  intro i hi
  rw [BitVec.getLsbD_xor, BitVec.getLsbD_not, BitVec.getLsbD_allOnes, decide_eq_true hi, Bool.true_and]
  cases x.getLsbD i <;> rfl
/-- what sealed bytes come to, always. -/
theorem residue (s : ByteArray) (h : tailOf s = laidI (moreI 0 (bodyOf s).data.toList)) : M (~~~0#32) (bitsOf s.data.toList) = Sn 32 (BitVec.allOnes 32) := by
  have hs : s.data.toList = (bodyOf s).data.toList ++ (laidI (toI (crcB 0#32 (bodyOf s).data.toList))).data.toList := by
    conv => lhs; rw [← body_tail s, h, moreI_zero]
    rw [ByteArray.data_append, Array.toList_append]
  rw [hs, bitsOf_append, M_append, M_word _ (by rw [laid_bits]; simp), laid_W, laid_bits, List.length_map, List.length_range]
  unfold crcB
  rw [xor_not]
theorem residue_seal (s : ByteArray) : M (~~~0#32) (bitsOf (sealV s).data.toList) = Sn 32 (BitVec.allOnes 32) :=
  residue _ (by rw [tail_seal, body_seal, moreI_zero])
/-- SEALED BYTES, OF WHICH BITS ARE TURNED WITHIN 32 IN A ROW, ARE NOT OPENED. -/
theorem open_spoilt (s t : ByteArray) (n mask : Nat) (hl : t.data.toList.length = (sealV s).data.toList.length) (hn : n + 32 ≤ 8 * (sealV s).data.toList.length) (h0 : mask ≠ 0) (h32 : mask < 4294967296)
    (h : ∀ j, j < 8 * (sealV s).data.toList.length → bitL t.data.toList j = (bitL (sealV s).data.toList j ^^ (decide (n ≤ j ∧ j < n + 32) && mask.testBit (j - n)))) : openV t = (⟨#[]⟩, 4) := by
  have hsz : t.size = (sealV s).size := by simpa using hl
  have h4 : ¬ t.size < 4 := by rw [hsz, sealV_size]; omega
  unfold openV
  rw [if_neg h4, if_neg]
  intro ht
  refine detect (~~~0#32) (bitsOf (sealV s).data.toList) (bitsOf t.data.toList) n mask ?_ (by rw [bitsOf_length]; exact hn) h0 h32 ?_ ((residue_seal s).trans (residue t ht).symm)
  · rw [bitsOf_length, bitsOf_length, hl]
  · intro j hj
    rw [bitsOf_at, bitsOf_at]
    rw [bitsOf_length] at hj
    exact h j hj
end Go.Proofs.Ytokcnblonbcpeaa
