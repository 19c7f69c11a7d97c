/- The sum of bytes as a linear map of 32 bits: plain laws, no program in sight. -/
namespace Go.Proofs.Ytokcnblonbcpeaa

/-! The sum of bytes as a linear map of 32 bits. -/
def poly : BitVec 32 := 0x814141AB#32
def top : BitVec 32 := 0x80000000#32
def S (c : BitVec 32) : BitVec 32 := (c <<< 1) ^^^ (if c.msb then poly else 0#32)
theorem S_xor (a b : BitVec 32) : S (a ^^^ b) = S a ^^^ S b := by
  unfold S
  rw [BitVec.shiftLeft_xor_distrib, BitVec.msb_xor]
  have hpp : poly ^^^ poly = 0#32 := BitVec.xor_self
  cases a.msb <;> cases b.msb <;> simp
  · ac_rfl
  · ac_rfl
  · rw [show a <<< 1 ^^^ poly ^^^ (b <<< 1 ^^^ poly) = (a <<< 1 ^^^ b <<< 1) ^^^ (poly ^^^ poly) by ac_rfl, hpp, BitVec.xor_zero]
theorem S_zero : S 0#32 = 0#32 := by decide
theorem S_top : S top = poly := by decide
theorem S_inj0 (c : BitVec 32) (h : S c = 0#32) : c = 0#32 := by
  have h0 : (S c).getLsbD 0 = false := by rw [h]; rfl
  cases hm : c.msb with
  | true => 
    unfold S at h0
    rw [hm] at h0
    simp at h0
    exact absurd h0 (by decide)
  | false =>
    unfold S at h
    rw [hm] at h
    simp at h
    apply BitVec.eq_of_getLsbD_eq
    intro i hi
    by_cases h31 : i = 31
    · subst h31
      rw [BitVec.msb_eq_getLsbD_last] at hm
      simpa using hm
    · have := congrArg (fun x => BitVec.getLsbD x (i + 1)) h
      simp only [BitVec.getLsbD_shiftLeft, BitVec.getLsbD_zero, show i + 1 < 32 by omega, decide_true, Bool.true_and, show ¬ i + 1 < 1 by omega, decide_false, Bool.not_false, Nat.add_sub_cancel] at this
      rw [this, BitVec.getLsbD_zero]
theorem S_inj {a b : BitVec 32} (h : S a = S b) : a = b := by
  have h1 : S (a ^^^ b) = 0#32 := by rw [S_xor, h]; simp
  have h2 := S_inj0 _ h1
  have h3 : (a ^^^ b) ^^^ b = b := by rw [h2]; simp
  rw [BitVec.xor_assoc] at h3
  simpa using h3
def Sn : Nat → BitVec 32 → BitVec 32
  | 0, c => c
  | n + 1, c => Sn n (S c)
theorem Sn_inj {n : Nat} {a b : BitVec 32} (h : Sn n a = Sn n b) : a = b := by
  induction n generalizing a b with
  | zero => exact h
  | succ n ih => exact S_inj (ih h)
theorem Sn_xor (n : Nat) (a b : BitVec 32) : Sn n (a ^^^ b) = Sn n a ^^^ Sn n b := by
  induction n generalizing a b with
  | zero => rfl
  | succ n ih => show Sn n (S (a ^^^ b)) = Sn n (S a) ^^^ Sn n (S b); rw [S_xor, ih]
theorem Sn_add (m n : Nat) (c : BitVec 32) : Sn (m + n) c = Sn n (Sn m c) := by
  induction m generalizing c with
  | zero => rw [Nat.zero_add]; rfl
  | succ m ih => rw [Nat.succ_add]; exact ih _

/-! Bit by bit. -/
def bt1 (b : Bool) : BitVec 32 := if b then top else 0#32
def M (c : BitVec 32) (l : List Bool) : BitVec 32 := l.foldl (fun c b => S (c ^^^ bt1 b)) c
theorem M_nil (c : BitVec 32) : M c [] = c := rfl
theorem M_cons (c : BitVec 32) (b : Bool) (l : List Bool) : M c (b :: l) = M (S (c ^^^ bt1 b)) l := rfl
theorem M_append (c : BitVec 32) (l m : List Bool) : M c (l ++ m) = M (M c l) m := by simp [M, List.foldl_append]
/-- the first bits as a word, the first one the highest. -/
def W : List Bool → BitVec 32
  | [] => 0#32
  | b :: l => bt1 b ^^^ (W l >>> 1)
theorem W_low (l : List Bool) (i : Nat) (hi : i + l.length < 32) : (W l).getLsbD i = false := by
  induction l generalizing i with
  | nil => simp [W]
  | cons b l ih =>
    have h1 := ih (i + 1) (by simp at hi; omega)
    simp only [W, BitVec.getLsbD_xor, BitVec.getLsbD_ushiftRight]
    rw [Nat.add_comm 1 i, h1]
    cases b
    · simp [bt1]
    · simp only [bt1, if_true, top]
      have : i ≠ 31 := by simp at hi; omega
      rw [Bool.xor_false]
      have hlt : i < 31 := by simp at hi; omega
      have : ∀ i : Nat, i < 31 → (0x80000000#32).getLsbD i = false := by decide
      exact this i hlt
theorem S_shift (x : BitVec 32) (h : x.getLsbD 0 = false) : S (x >>> 1) = x := by
  have hm : (x >>> 1).msb = false := by
    rw [BitVec.msb_eq_getLsbD_last]
    simp
  unfold S
  rw [hm]
  simp only [Bool.false_eq_true, if_false, BitVec.xor_zero]
  apply BitVec.eq_of_getLsbD_eq
  intro i hi
  rcases Nat.eq_zero_or_pos i with rfl | hp
  · simp only [BitVec.getLsbD_shiftLeft, h]; simp
  · simp only [BitVec.getLsbD_shiftLeft, BitVec.getLsbD_ushiftRight, hi, decide_true, Bool.true_and, show ¬ i < 1 by omega, decide_false, Bool.not_false, show 1 + (i - 1) = i by omega]
/-- at most 32 bits, taken in at once. -/
theorem M_word (l : List Bool) (h : l.length ≤ 32) (c : BitVec 32) : M c l = Sn l.length (c ^^^ W l) := by
  induction l generalizing c with
  | nil => simp [M_nil, W, Sn]
  | cons b l ih =>
    have hl : l.length ≤ 31 := by simpa using h
    have hlow := W_low l 0 (by omega)
    rw [M_cons, ih (by omega)]
    show Sn l.length (S (c ^^^ bt1 b) ^^^ W l) = Sn l.length (S (c ^^^ (bt1 b ^^^ (W l >>> 1))))
    rw [← BitVec.xor_assoc, S_xor (c ^^^ bt1 b), S_shift _ hlow]
/-- two rows of bits of one length. -/
theorem M_lin (l m : List Bool) (h : l.length = m.length) (c d : BitVec 32) : M c l ^^^ M d m = M (c ^^^ d) (List.zipWith xor l m) := by
  induction l generalizing m c d with
  | nil =>
    cases m with
    | nil => rfl
    | cons _ _ => simp at h
  | cons b l ih =>
    cases m with
    | nil => simp at h
    | cons b' m =>
      rw [M_cons, M_cons, ih m (by simpa using h), List.zipWith_cons_cons, M_cons]
      congr 1
      rw [← S_xor]
      congr 1
      have : bt1 (xor b b') = bt1 b ^^^ bt1 b' := by cases b <;> cases b' <;> decide
      rw [this]
      simp only [BitVec.xor_assoc]
      congr 1
      simp only [← BitVec.xor_assoc]
      rw [BitVec.xor_comm (bt1 b) d]
theorem M_zeros (n : Nat) (c : BitVec 32) : M c (List.replicate n false) = Sn n c := by
  induction n generalizing c with
  | zero => rfl
  | succ n ih => rw [List.replicate_succ, M_cons, ih]; simp [bt1, Sn]
theorem Sn_zero (n : Nat) : Sn n 0#32 = 0#32 := by
  induction n with
  | zero => rfl
  | succ n ih => show Sn n (S 0#32) = _; rw [S_zero, ih]
end Go.Proofs.Ytokcnblonbcpeaa
