/- The program's sums as that linear map: plain laws. -/
import Derived.Test.YtokcnblonbcpeaaOpen
import Derived.Test.YtokcnblonbcpeaaBits
namespace Go.Proofs.Ytokcnblonbcpeaa
open Go.RowKit

def toI (c : BitVec 32) : Int := (c.toNat : Int)
theorem toI_lt (c : BitVec 32) : 0 ≤ toI c ∧ toI c < 4294967296 := by unfold toI; have := c.isLt; omega
theorem toI_inj {a b : BitVec 32} (h : toI a = toI b) : a = b := by
  unfold toI at h
  exact BitVec.eq_of_toNat_eq (by omega)
theorem ofInt_toI (c : BitVec 32) : BitVec.ofInt 32 (toI c) = c := by
  unfold toI
  rw [BitVec.ofInt_natCast]
  simp
theorem toI_ofInt {c : Int} (h0 : 0 ≤ c) (h1 : c < 4294967296) : toI (BitVec.ofInt 32 c) = c := by
  obtain ⟨n, rfl⟩ := Int.eq_ofNat_of_zero_le h0
  unfold toI
  rw [BitVec.ofInt_natCast, BitVec.toNat_ofNat]
  omega
theorem xor_toI (a b : BitVec 32) : bits BinOp.xor IntKind.u32 (toI a) (toI b) = toI (a ^^^ b) := by
  show IntKind.u32.wrap ((BitVec.ofInt 32 (toI a) ^^^ BitVec.ofInt 32 (toI b)).toNat : Int) = _
  rw [ofInt_toI, ofInt_toI, IntKind.wrap_u32]
  have := (a ^^^ b).isLt
  unfold toI
  omega
theorem inv_toI (c : BitVec 32) : inv32 (toI c) = toI (~~~c) := by
  have h : IntKind.u32.max = toI (BitVec.allOnes 32) := by decide
  unfold inv32
  rw [h, xor_toI, BitVec.allOnes_xor]
theorem shl_toI (c : BitVec 32) (k : Nat) (m : Int) (hm : m = ((2 ^ k : Nat) : Int)) : toI c * m % 4294967296 = toI (c <<< k) := by
  unfold toI
  subst hm
  rw [BitVec.toNat_shiftLeft, Nat.shiftLeft_eq]
  omega
theorem msb_toI (c : BitVec 32) : toI c / 2147483648 = 1 ↔ c.msb = true := by
  unfold toI
  rw [BitVec.msb_eq_decide]
  have := c.isLt
  simp only [decide_eq_true_eq]
  omega
theorem stp_toI (c : BitVec 32) : stp (toI c) = toI (S c) := by
  have hp : (2168537515 : Int) = toI poly := by decide
  unfold stp S
  rw [shl_toI c 1 2 rfl, hp, xor_toI]
  by_cases h : c.msb = true
  · rw [if_pos ((msb_toI c).2 h), if_pos h]
  · rw [if_neg (fun e => h ((msb_toI c).1 e)), if_neg h, BitVec.xor_zero]
theorem Sn_succ' (n : Nat) (c : BitVec 32) : Sn (n + 1) c = S (Sn n c) := Sn_add n 1 c
theorem stpN_toI (n : Nat) (c : BitVec 32) : stpN n (toI c) = toI (Sn n c) := by
  induction n with
  | zero => rfl
  | succ n ih => show stp (stpN n (toI c)) = _; rw [ih, stp_toI, Sn_succ']
theorem low4 (z : BitVec 32) (h : ∀ i, i < 4 → z.getLsbD i = false) : Sn 4 (z >>> 4) = z := by
  show S (S (S (S (z >>> 4)))) = z
  have h4 : z >>> 4 = (z >>> 3) >>> 1 := by rw [← BitVec.shiftRight_add]
  have h3 : z >>> 3 = (z >>> 2) >>> 1 := by rw [← BitVec.shiftRight_add]
  have h2 : z >>> 2 = (z >>> 1) >>> 1 := by rw [← BitVec.shiftRight_add]
  have e : ∀ k, k < 4 → (z >>> k).getLsbD 0 = false := fun k hk => by rw [BitVec.getLsbD_ushiftRight]; exact h _ (by omega)
  rw [h4, S_shift _ (e 3 (by omega)), h3, S_shift _ (e 2 (by omega)), h2, S_shift _ (e 1 (by omega)), S_shift _ (h 0 (by omega))]
theorem nib_toI (c : BitVec 32) : nib (toI c) = toI (Sn 4 c) := by
  have hsplit : c = ((c <<< 4) >>> 4) ^^^ ((c >>> 28) <<< 28) := by
    apply BitVec.eq_of_getLsbD_eq
    intro i hi
    rw [BitVec.getLsbD_xor, BitVec.getLsbD_ushiftRight, BitVec.getLsbD_shiftLeft, BitVec.getLsbD_shiftLeft, BitVec.getLsbD_ushiftRight]
    by_cases h : i < 28
    · simp [h, show 4 + i < 32 by omega, hi]
    · simp [h, show ¬ 4 + i < 32 by omega, hi, show 28 + (i - 28) = i by omega]
  have hlow : Sn 4 ((c <<< 4) >>> 4) = c <<< 4 := low4 _ (fun i hi => by rw [BitVec.getLsbD_shiftLeft]; simp [hi])
  have he : ((toI c / 268435456).toNat : Int) * (268435456 : Int) = toI ((c >>> 28) <<< 28) := by
    unfold toI
    rw [BitVec.toNat_shiftLeft, BitVec.toNat_ushiftRight, Nat.shiftLeft_eq, Nat.shiftRight_eq_div_pow]
    have := c.isLt
    omega
  have hhi : tabv (toI c / 268435456).toNat = toI (Sn 4 ((c >>> 28) <<< 28)) := by
    unfold tabv
    rw [he, stpN_toI]
  have h5 : Sn 4 c = c <<< 4 ^^^ Sn 4 ((c >>> 28) <<< 28) := by
    conv => lhs; rw [hsplit]
    rw [Sn_xor, hlow]
  unfold nib
  rw [hhi, shl_toI c 4 16 rfl, xor_toI, h5]

def bitsB (b : UInt8) : List Bool := [b.toNat.testBit 7, b.toNat.testBit 6, b.toNat.testBit 5, b.toNat.testBit 4, b.toNat.testBit 3, b.toNat.testBit 2, b.toNat.testBit 1, b.toNat.testBit 0]
def bitsOf (l : List UInt8) : List Bool := l.flatMap bitsB
theorem bitsOf_length (l : List UInt8) : (bitsOf l).length = 8 * l.length := by
  induction l with
  | nil => rfl
  | cons b l ih =>
    show (bitsB b ++ bitsOf l).length = _
    rw [List.length_append, ih, List.length_cons]
    show 8 + _ = _
    omega
theorem bitsOf_append (l m : List UInt8) : bitsOf (l ++ m) = bitsOf l ++ bitsOf m := by simp [bitsOf]
theorem W_fin : ∀ n : Fin 256, W (bitsB (UInt8.ofNat n.val)) = BitVec.ofNat 32 (n.val * 16777216) := by decide +kernel
theorem W_byte (b : UInt8) : W (bitsB b) = BitVec.ofNat 32 (b.toNat * 16777216) := by
  have h := W_fin ⟨b.toNat, b.toNat_lt⟩
  simpa using h
theorem byteStep_toI (c : BitVec 32) (b : UInt8) : byteStep (toI c) b = toI (M c (bitsB b)) := by
  have hb : (b.toNat : Int) * 16777216 = toI (W (bitsB b)) := by
    rw [W_byte]
    unfold toI
    rw [BitVec.toNat_ofNat]
    have := b.toNat_lt
    omega
  unfold byteStep
  rw [hb, xor_toI, nib_toI, nib_toI, M_word (bitsB b) (show 8 ≤ 32 by decide), ← Sn_add]
  rfl
theorem foldB_toI (l : List UInt8) (c : BitVec 32) : foldB (toI c) l = toI (M c (bitsOf l)) := by
  induction l generalizing c with
  | nil => rfl
  | cons b l ih =>
    show foldB (byteStep (toI c) b) l = toI (M c (bitsB b ++ bitsOf l))
    rw [byteStep_toI, ih, M_append]
/-- the sum behind another sum. -/
def crcB (c : BitVec 32) (l : List UInt8) : BitVec 32 := ~~~ M (~~~c) (bitsOf l)
theorem moreI_toI (c : BitVec 32) (l : List UInt8) : moreI (toI c) l = toI (crcB c l) := by
  unfold moreI crcB
  rw [inv_toI, foldB_toI, inv_toI]
theorem moreI_of {c : Int} (h0 : 0 ≤ c) (h1 : c < 4294967296) (l : List UInt8) : moreI c l = toI (crcB (BitVec.ofInt 32 c) l) := by
  rw [← moreI_toI, toI_ofInt h0 h1]
theorem crcB_append (c : BitVec 32) (l m : List UInt8) : crcB c (l ++ m) = crcB (crcB c l) m := by
  unfold crcB
  rw [bitsOf_append, M_append, BitVec.not_not]
theorem moreI_append {c : Int} (h0 : 0 ≤ c) (h1 : c < 4294967296) (l m : List UInt8) : moreI c (l ++ m) = moreI (moreI c l) m := by
  rw [moreI_of h0 h1, moreI_of h0 h1, moreI_toI, crcB_append]
end Go.Proofs.Ytokcnblonbcpeaa
