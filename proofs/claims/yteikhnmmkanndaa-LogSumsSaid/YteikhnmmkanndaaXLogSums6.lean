/- Laid together by prune.py out of the texts that the row needs: the declarations that its theorem uses. -/
import Derived.Test.YteikhnmmkanndaaXLogSums5
import Derived.WalkMore
import Derived.ChangeSlices
import Derived.ChangeSame
import Derived.OpenShut
import Derived.ChangeOld
namespace Go.Proofs.Yteikhnmmkanndaa
open Go.RowKit Go.Proofs.YteikhnmmkanndaaW.PrintWords
theorem rn_mul (n d : Nat) : rn n d * d = n * rd n d := by
  obtain ⟨x, hx⟩ := Nat.gcd_dvd_left n d
  obtain ⟨y, hy⟩ := Nat.gcd_dvd_right n d
  unfold rn rd
  rcases Nat.eq_zero_or_pos (Nat.gcd n d) with h0 | h0
  · rw [h0, Nat.div_zero, Nat.div_zero, Nat.zero_mul, Nat.mul_zero]
  · have h1 : n / Nat.gcd n d = x := Nat.div_eq_of_eq_mul_right h0 hx
    have h2 : d / Nat.gcd n d = y := Nat.div_eq_of_eq_mul_right h0 hy
    rw [h1, h2]
    calc x * d = x * (Nat.gcd n d * y) := by rw [← hy]
      _ = Nat.gcd n d * x * y := by rw [Nat.mul_left_comm, Nat.mul_assoc]
      _ = n * y := by rw [← hx]
def Red (a : Nat × Nat) : Prop := Nat.gcd a.1 a.2 = 1 ∧ 0 < a.2
theorem Red.rn {a : Nat × Nat} (h : Red a) : rn a.1 a.2 = a.1 := by unfold Yteikhnmmkanndaa.rn; rw [h.1, Nat.div_one]
theorem Red.rd {a : Nat × Nat} (h : Red a) : rd a.1 a.2 = a.2 := by unfold Yteikhnmmkanndaa.rd; rw [h.1, Nat.div_one]
theorem red_of {n d : Nat} (h : 0 < d) : Red (Yteikhnmmkanndaa.rn n d, Yteikhnmmkanndaa.rd n d) := ⟨Nat.coprime_div_gcd_div_gcd (Nat.gcd_pos_of_pos_right n h), rd_pos h⟩
def lessR (a b : Nat × Nat) : Nat × Nat := if a.1 * b.2 < b.1 * a.2 then (0, 1) else (rn (a.1 * b.2 - b.1 * a.2) (a.2 * b.2), rd (a.1 * b.2 - b.1 * a.2) (a.2 * b.2))
def mulR (a b : Nat × Nat) : Nat × Nat := (rn (a.1 * b.1) (a.2 * b.2), rd (a.1 * b.1) (a.2 * b.2))
def divR (a b : Nat × Nat) : Nat × Nat := (rn (a.1 * b.2) (a.2 * b.1), rd (a.1 * b.2) (a.2 * b.1))
theorem mulR_red {a b : Nat × Nat} (ha : Red a) (hb : Red b) : Red (mulR a b) := red_of (Nat.mul_pos ha.2 hb.2)
def Sz (B : Nat) (a : Nat × Nat) : Prop := wl 8 a.1 ≤ B ∧ wl 8 a.2 ≤ B
theorem wl64_le (x : Nat) : wl 64 x ≤ wl 8 x := by
  rw [wl_le (by decide)]
  exact Nat.lt_of_lt_of_le (wl_lt (k := 8) (by decide) x) (Nat.pow_le_pow_right (by decide) (by omega))
theorem Sz.mono {B C : Nat} {a : Nat × Nat} (h : Sz B a) (hc : B ≤ C) : Sz C a := ⟨Nat.le_trans h.1 hc, Nat.le_trans h.2 hc⟩
theorem Sz.add {B C : Nat} {a b : Nat × Nat} (ha : Sz B a) (hb : Sz C b) : Sz (B + C + 1) (addR a b) := by
  have h1 := wl_mul_le (k := 8) (by decide) ha.1 hb.2
  have h2 := wl_mul_le (k := 8) (by decide) hb.1 ha.2
  have h3 := wl_mul_le (k := 8) (by decide) ha.2 hb.2
  have h4 := wl_add_le (k := 8) (x := a.1 * b.2) (y := b.1 * a.2) (a := B + C) (by decide) h1 (by omega)
  exact ⟨wl_rn (by decide) h4, wl_rd (by decide) (by omega)⟩
theorem Sz.less {B C : Nat} {a b : Nat × Nat} (ha : Sz B a) (hb : Sz C b) : Sz (B + C + 1) (lessR a b) := by
  have h1 := wl_mul_le (k := 8) (by decide) ha.1 hb.2
  have h3 := wl_mul_le (k := 8) (by decide) ha.2 hb.2
  have h4 := wl_mono (k := 8) (by decide) (Nat.sub_le (a.1 * b.2) (b.1 * a.2))
  unfold lessR
  split
  · refine ⟨?_, ?_⟩
    · show wl 8 0 ≤ _
      rw [wl_zero (by decide)]; omega
    · show wl 8 1 ≤ _
      rw [show wl 8 1 = 1 by decide +kernel]; omega
  · exact ⟨wl_rn (by decide) (by omega), wl_rd (by decide) (by omega)⟩
theorem Sz.mul {B C : Nat} {a b : Nat × Nat} (ha : Sz B a) (hb : Sz C b) : Sz (B + C) (mulR a b) :=
  ⟨wl_rn (by decide) (wl_mul_le (k := 8) (by decide) ha.1 hb.1), wl_rd (by decide) (wl_mul_le (k := 8) (by decide) ha.2 hb.2)⟩
theorem Sz.div {B C : Nat} {a b : Nat × Nat} (ha : Sz B a) (hb : Sz C b) : Sz (B + C) (divR a b) :=
  ⟨wl_rn (by decide) (wl_mul_le (k := 8) (by decide) ha.1 hb.2), wl_rd (by decide) (wl_mul_le (k := 8) (by decide) ha.2 hb.1)⟩
theorem Sz.w1 {B : Nat} {a : Nat × Nat} (h : Sz B a) : wl 64 a.1 ≤ B := Nat.le_trans (wl64_le _) h.1
theorem Sz.w2 {B : Nat} {a : Nat × Nat} (h : Sz B a) : wl 64 a.2 ≤ B := Nat.le_trans (wl64_le _) h.2
theorem Sz.zero : Sz 1 (0, 1) := ⟨by decide +kernel, by decide +kernel⟩
section
variable {a b c : Nat × Nat} {va vb v : Value} {W : World} {B : Nat}
theorem c_less (hB : B ≤ 100000) (sa : Sz B a) (sb : Sz B b) (h1 : F64 W va a.1 a.2) (h2 : F64 W vb b.1 b.2) : Calls Try.prog 62 #[va, vb] W (MkF W (lessR a b).1 (lessR a b).2) := by
  have q1 := sa.w1; have q2 := sa.w2; have q3 := sb.w1; have q4 := sb.w2
  unfold lessR
  split
  · rename_i h
    exact rlessF_no va vb a.1 a.2 b.1 b.2 W h1 h2 (by omega) (by omega) (by omega) (by omega) h
  · rename_i h
    exact rlessF_any va vb a.1 a.2 b.1 b.2 W h1 h2 (by omega) (by omega) (by omega) (by omega) (by omega)
theorem c_mul (hB : B ≤ 100000) (sa : Sz B a) (sb : Sz B b) (h1 : F64 W va a.1 a.2) (h2 : F64 W vb b.1 b.2) : Calls Try.prog 43 #[va, vb] W (MkF W (mulR a b).1 (mulR a b).2) := by
  have q1 := sa.w1; have q2 := sa.w2; have q3 := sb.w1; have q4 := sb.w2
  exact rmulF_any va vb a.1 a.2 b.1 b.2 W h1 h2 (by omega) (by omega) (by omega) (by omega)
theorem c_cmp (hB : B ≤ 100000) (sa : Sz B a) (sb : Sz B b) (h1 : F64 W va a.1 a.2) (h2 : F64 W vb b.1 b.2) : Calls Try.prog 44 #[va, vb] W fun x w' => x = .returned (.int .i64 (cmpN (a.1 * b.2) (b.1 * a.2))) ∧ Below W.heap.size W w' := by
  have q1 := sa.w1; have q2 := sa.w2; have q3 := sb.w1; have q4 := sb.w2
  exact rcmpF_any va vb a.1 a.2 b.1 b.2 W h1 h2 (by omega) (by omega) (by omega) (by omega)
end
def frcR (l m : List Int) : Nat × Nat := (rn (be l) (den1 (be m)), rd (be l) (den1 (be m)))
theorem frcR_red (l m : List Int) : Red (frcR l m) := red_of (den1_pos _)
theorem frcR_sz {l m : List Int} {B : Nat} (hl : Bys l) (hm : Bys m) (h1 : l.length ≤ B) (h2 : m.length ≤ B) : Sz (B + 1) (frcR l m) :=
  ⟨wl_rn (by decide) (Nat.le_trans (be_wl hl) (by omega)), wl_rd (by decide) (Nat.le_trans (den1_wl (b := B) (by decide) (Nat.le_trans (be_wl hm) h2)) (Nat.le_refl _))⟩
theorem c_to {v : Value} {l m : List Int} {W : World} (h : Frc W v l m) (hl : Bys l) (hm : Bys m) (h1 : l.length ≤ 10000) (h2 : m.length ≤ 10000) : Calls Try.prog 36 #[v] W (MkF W (frcR l m).1 (frcR l m).2) := to_any v l m W h hl hm h1 h2
theorem c_ref {v : Value} {l m : List Int} {W : World} (h : Frc W v l m) (hl : Bys l) (hm : Bys m) (h1 : l.length ≤ 10000) (h2 : m.length ≤ 10000) : Calls Try.prog 38 #[v] W (MkR W (frcR l m).1 (frcR l m).2) := ref_any v l m W h hl hm h1 h2
end Go.Proofs.Yteikhnmmkanndaa
namespace Go.Proofs.Yteikhnmmkanndaa
def LogW (n d : Nat) (k : Int) : Prop := d * 2 ^ k.toNat ≤ n * 2 ^ (-k).toNat ∧ n * 2 ^ (-k).toNat < 2 * (d * 2 ^ k.toNat)
theorem pow_cross {k k' : Int} (h : k < k') : 2 ^ k.toNat * 2 * 2 ^ (-k').toNat ≤ 2 ^ k'.toNat * 2 ^ (-k).toNat := by
  rw [← Nat.pow_succ, ← Nat.pow_add, ← Nat.pow_add]
  exact Nat.pow_le_pow_right (by decide) (by omega)
theorem LogW.le {n d : Nat} {k k' : Int} (h : LogW n d k) (h' : LogW n d k') : k' ≤ k := by
  rcases (show k < k' ∨ k' ≤ k by omega) with hlt | hge
  · exfalso
    have hc := pow_cross hlt
    have h1 := Nat.mul_lt_mul_of_pos_right h.2 (Nat.two_pow_pos (-k').toNat)
    have h2 := Nat.mul_le_mul_right (2 ^ (-k).toNat) h'.1
    have h3 := Nat.mul_le_mul_left d hc
    have e1 : 2 * (d * 2 ^ k.toNat) * 2 ^ (-k').toNat = d * (2 ^ k.toNat * 2 * 2 ^ (-k').toNat) := by
      rw [Nat.mul_left_comm 2 d, Nat.mul_comm 2 (2 ^ k.toNat), Nat.mul_assoc, Nat.mul_assoc]
    have e2 : d * (2 ^ k'.toNat * 2 ^ (-k).toNat) = d * 2 ^ k'.toNat * 2 ^ (-k).toNat := by rw [Nat.mul_assoc]
    have e3 : n * 2 ^ (-k).toNat * 2 ^ (-k').toNat = n * 2 ^ (-k').toNat * 2 ^ (-k).toNat := Nat.mul_right_comm _ _ _
    rw [e1] at h1
    rw [e2] at h3
    omega
  · exact hge
theorem LogW.unique {n d : Nat} {k k' : Int} (h : LogW n d k) (h' : LogW n d k') : k = k' := Int.le_antisymm (h'.le h) (h.le h')
theorem bl_shift {x : Nat} (hx : 0 < x) (j : Nat) : bl (x * 2 ^ j) = bl x + j := by
  have key : ∀ n, n < bl (x * 2 ^ j) ↔ n < bl x + j := by
    intro n
    rw [lt_bl]
    rcases Nat.lt_or_ge n j with h | h
    · constructor
      · intro _; omega
      · intro _
        exact Nat.le_trans (Nat.pow_le_pow_right (by decide) (Nat.le_of_lt h)) (Nat.le_mul_of_pos_left (2 ^ j) hx)
    · obtain ⟨i, rfl⟩ : ∃ i, n = i + j := ⟨n - j, by omega⟩
      rw [Nat.pow_add, Nat.mul_le_mul_right_iff (Nat.two_pow_pos j), ← lt_bl]
      omega
  have h1 := key (bl x + j)
  have h2 := key (bl (x * 2 ^ j))
  omega
theorem bl_pos {x : Nat} (h : 0 < x) : 0 < bl x := by rw [lt_bl]; exact h
theorem bl_lo {x : Nat} (h : 0 < x) : 2 ^ (bl x - 1) ≤ x := (lt_bl x _).1 (by have := bl_pos h; omega)
theorem bl_hi (x : Nat) : x < 2 ^ bl x := (bl_le x _).1 (Nat.le_refl _)
theorem near_of_bl {x y : Nat} (hy : 0 < y) (h : bl x = bl y) : x < 2 * y := by
  have h1 := bl_hi x
  have h2 := bl_lo hy
  have h3 := bl_pos hy
  rw [h] at h1
  have : 2 ^ bl y = 2 * 2 ^ (bl y - 1) := by
    rw [show bl y = (bl y - 1) + 1 by omega, Nat.pow_succ, Nat.mul_comm]
    rfl
  omega
theorem step_up (n d : Nat) (k : Int) (P Q : Nat) : (P * (d * 2 ^ (k + 1).toNat) = n * 2 ^ (-(k + 1)).toNat * (2 * Q)) ↔ (P * (d * 2 ^ k.toNat) = n * 2 ^ (-k).toNat * Q) := by
  rcases (show k < 0 ∨ 0 ≤ k by omega) with h | h
  · have e1 : (k + 1).toNat = 0 := by omega
    have e2 : k.toNat = 0 := by omega
    have e3 : (-k).toNat = (-(k + 1)).toNat + 1 := by omega
    rw [e1, e2, e3, Nat.pow_succ]
    have : n * (2 ^ (-(k + 1)).toNat * 2) * Q = n * 2 ^ (-(k + 1)).toNat * (2 * Q) := by rw [← Nat.mul_assoc n, Nat.mul_assoc _ 2 Q]
    rw [this]
  · have e1 : (-(k + 1)).toNat = 0 := by omega
    have e2 : (-k).toNat = 0 := by omega
    have e3 : (k + 1).toNat = k.toNat + 1 := by omega
    rw [e1, e2, e3, Nat.pow_succ]
    have e4 : P * (d * (2 ^ k.toNat * 2)) = 2 * (P * (d * 2 ^ k.toNat)) := by
      rw [← Nat.mul_assoc d, ← Nat.mul_assoc P, Nat.mul_comm _ 2]
    have e5 : n * 2 ^ 0 * (2 * Q) = 2 * (n * 2 ^ 0 * Q) := Nat.mul_left_comm _ _ _
    rw [e4, e5]
    omega
def wholeN (n d : Nat) : Int := if n * 2 ^ (-((bl n : Int) - (bl d : Int))).toNat < d * 2 ^ ((bl n : Int) - (bl d : Int)).toNat then (bl n : Int) - (bl d : Int) - 1 else (bl n : Int) - (bl d : Int)
theorem wholeN_W {n d : Nat} (hn : 0 < n) (hd : 0 < d) : LogW n d (wholeN n d) := by
  obtain ⟨k, hk⟩ : ∃ k : Int, (bl n : Int) - (bl d : Int) = k := ⟨_, rfl⟩
  have hpn : 0 < n * 2 ^ (-k).toNat := Nat.mul_pos hn (Nat.two_pow_pos _)
  have hpd : 0 < d * 2 ^ k.toNat := Nat.mul_pos hd (Nat.two_pow_pos _)
  have hb : bl (n * 2 ^ (-k).toNat) = bl (d * 2 ^ k.toNat) := by
    rw [bl_shift hn, bl_shift hd]
    omega
  have h1 := near_of_bl hpd hb
  have h2 := near_of_bl hpn hb.symm
  unfold wholeN
  rw [hk]
  split
  · rename_i hlt
    unfold LogW
    rcases (show 0 < k ∨ k ≤ 0 by omega) with h | h
    · have e1 : (-(k - 1)).toNat = 0 := by omega
      have e2 : (-k).toNat = 0 := by omega
      have e3 : k.toNat = (k - 1).toNat + 1 := by omega
      rw [e2, e3, Nat.pow_succ, ← Nat.mul_assoc] at h1 h2 hlt
      rw [e1]
      omega
    · have e1 : (k - 1).toNat = 0 := by omega
      have e2 : k.toNat = 0 := by omega
      have e3 : (-(k - 1)).toNat = (-k).toNat + 1 := by omega
      rw [e2] at h1 h2 hlt
      rw [e1, e3, Nat.pow_succ, ← Nat.mul_assoc]
      omega
  · rename_i hge
    exact ⟨by omega, h1⟩
theorem wholeN_le {n d m : Nat} (hn : 0 < n) (hd : 0 < d) (h1 : n < 2 ^ m) (h2 : d < 2 ^ m) : -(m : Int) ≤ wholeN n d ∧ wholeN n d ≤ (m : Int) := by
  have a := (bl_le n m).2 h1
  have b := (bl_le d m).2 h2
  have c := bl_pos hn
  have e := bl_pos hd
  unfold wholeN
  split <;> omega
def LogE (n d : Nat) (k : Int) (P Q : Nat) : Prop := P * (d * 2 ^ k.toNat) = n * 2 ^ (-k).toNat * Q
theorem LogE.start (n d : Nat) (k : Int) : LogE n d k (n * 2 ^ (-k).toNat) (d * 2 ^ k.toNat) := rfl
theorem two_toNat (k : Int) : (2 * k).toNat = k.toNat + k.toNat := by omega
theorem LogE.sq {n d : Nat} {k : Int} {P Q : Nat} (h : LogE n d k P Q) : LogE (n * n) (d * d) (2 * k) (P * P) (Q * Q) := by
  unfold LogE at *
  rw [two_toNat, show -(2 * k) = 2 * -k by omega, two_toNat, Nat.pow_add, Nat.pow_add]
  calc P * P * (d * d * (2 ^ k.toNat * 2 ^ k.toNat)) = (P * (d * 2 ^ k.toNat)) * (P * (d * 2 ^ k.toNat)) := by
        rw [Nat.mul_mul_mul_comm d d, Nat.mul_mul_mul_comm P P]
    _ = (n * 2 ^ (-k).toNat * Q) * (n * 2 ^ (-k).toNat * Q) := by rw [h]
    _ = n * n * (2 ^ (-k).toNat * 2 ^ (-k).toNat) * (Q * Q) := by
        rw [Nat.mul_mul_mul_comm n n, Nat.mul_mul_mul_comm (n * 2 ^ (-k).toNat) (n * 2 ^ (-k).toNat)]
theorem LogE.bit {n d : Nat} {k : Int} {P Q : Nat} (h : LogE n d k P Q) : LogE n d (k + 1) P (2 * Q) := (step_up n d k P Q).2 h
theorem LogE.w {n d : Nat} {k : Int} {P Q : Nat} (h : LogE n d k P Q) (hQ : 0 < Q) (h1 : Q ≤ P) (h2 : P < 2 * Q) (hd : 0 < d) : LogW n d k := by
  unfold LogE at h
  have hp : 0 < d * 2 ^ k.toNat := Nat.mul_pos hd (Nat.two_pow_pos _)
  constructor
  · refine Nat.le_of_mul_le_mul_right ?_ hQ
    rw [← h, Nat.mul_comm P]
    exact Nat.mul_le_mul_left _ h1
  · refine Nat.lt_of_mul_lt_mul_right (a := Q) ?_
    rw [← h]
    calc P * (d * 2 ^ k.toNat) < 2 * Q * (d * 2 ^ k.toNat) := Nat.mul_lt_mul_of_pos_right h2 hp
      _ = 2 * (d * 2 ^ k.toNat) * Q := by rw [Nat.mul_right_comm]
theorem odd_part : ∀ n : Nat, 0 < n → ∃ p x, n = 2 ^ p * x ∧ x % 2 = 1 := by
  intro n
  induction n using Nat.strongRecOn with
  | ind n ih =>
    intro h0
    rcases Nat.mod_two_eq_zero_or_one n with h | h
    · obtain ⟨p, x, hx, ho⟩ := ih (n / 2) (by omega) (by omega)
      refine ⟨p + 1, x, ?_, ho⟩
      rw [Nat.pow_succ, Nat.mul_right_comm, ← hx]
      omega
    · exact ⟨0, n, by rw [Nat.pow_zero, Nat.one_mul], h⟩
theorem odd_part_eq : ∀ (p q x y : Nat), x % 2 = 1 → y % 2 = 1 → 2 ^ p * x = 2 ^ q * y → p = q ∧ x = y := by
  intro p
  induction p with
  | zero =>
    intro q x y hx hy h
    cases q with
    | zero => simpa using h
    | succ q =>
      rw [Nat.pow_zero, Nat.one_mul, Nat.pow_succ, Nat.mul_right_comm] at h
      omega
  | succ p ih =>
    intro q x y hx hy h
    cases q with
    | zero =>
      rw [Nat.pow_zero, Nat.one_mul, Nat.pow_succ, Nat.mul_right_comm] at h
      omega
    | succ q =>
      rw [Nat.pow_succ, Nat.pow_succ, Nat.mul_right_comm, Nat.mul_right_comm (2 ^ q)] at h
      obtain ⟨h1, h2⟩ := ih q x y hx hy (by omega)
      exact ⟨by omega, h2⟩
def NoPow (n d : Nat) : Prop := ∀ k : Int, n * 2 ^ (-k).toNat ≠ d * 2 ^ k.toNat
theorem sq_inj {x y : Nat} (h : x * x = y * y) : x = y := by
  rcases Nat.lt_trichotomy x y with h1 | h1 | h1
  · have := Nat.mul_lt_mul'' h1 h1
    omega
  · exact h1
  · have := Nat.mul_lt_mul'' h1 h1
    omega
theorem NoPow.sq {n d : Nat} (hn : 0 < n) (hd : 0 < d) (h : NoPow n d) : NoPow (n * n) (d * d) := by
  intro k he
  obtain ⟨p, x, hx, ox⟩ := odd_part n hn
  obtain ⟨q, y, hy, oy⟩ := odd_part d hd
  have oxx : (x * x) % 2 = 1 := by rw [Nat.mul_mod, ox]
  have oyy : (y * y) % 2 = 1 := by rw [Nat.mul_mod, oy]
  have e1 : n * n * 2 ^ (-k).toNat = 2 ^ (p + p + (-k).toNat) * (x * x) := by
    rw [hx, Nat.pow_add, Nat.pow_add, Nat.mul_mul_mul_comm, Nat.mul_right_comm]
  have e2 : d * d * 2 ^ k.toNat = 2 ^ (q + q + k.toNat) * (y * y) := by
    rw [hy, Nat.pow_add, Nat.pow_add, Nat.mul_mul_mul_comm, Nat.mul_right_comm]
  rw [e1, e2] at he
  obtain ⟨h1, h2⟩ := odd_part_eq _ _ _ _ oxx oyy he
  have hxy := sq_inj h2
  refine h ((p : Int) - (q : Int)) ?_
  rw [hx, hy, hxy, Nat.mul_right_comm, ← Nat.pow_add, Nat.mul_right_comm, ← Nat.pow_add]
  congr 2
  omega
theorem NoPow.ne {n d : Nat} (h : NoPow n d) {k : Int} {P Q : Nat} (he : LogE n d k P Q) (hQ : 0 < Q) : P ≠ 2 * Q := by
  intro hp
  refine h (k + 1) ?_
  have h1 := (step_up n d k P Q).2 he
  rw [hp] at h1
  have : 0 < 2 * Q := by omega
  exact (Nat.eq_of_mul_eq_mul_right this (by rw [← h1, Nat.mul_comm])).symm
structure LogI (n d D m i : Nat) (low high : Nat) (out : Int) (P Q : Nat) : Prop where
  e : LogE (n ^ 2 ^ i) (d ^ 2 ^ i) out P Q
  pos : 0 < Q
  le : Q ≤ P
  lt : P < 2 * Q
  lo : low * Q ≤ P * 2 ^ D
  hi : P * 2 ^ D ≤ high * Q
  top : high ≤ 2 ^ (D + 1)
  err : high + 1 ≤ low + 2 * 4 ^ i
  small : 2 * Q ≤ 2 ^ ((m + 1) * 2 ^ i)
theorem pow_sq (n i : Nat) : n ^ 2 ^ i * n ^ 2 ^ i = n ^ 2 ^ (i + 1) := by rw [← Nat.pow_add, Nat.pow_succ, Nat.mul_two]
def ceilD (a j : Nat) : Nat := if a / 2 ^ j * 2 ^ j < a then a / 2 ^ j + 1 else a / 2 ^ j
theorem ceilD_ge (a j : Nat) : a ≤ ceilD a j * 2 ^ j := by
  have h := Nat.div_add_mod a (2 ^ j)
  have h2 := Nat.mod_lt a (Nat.two_pow_pos j)
  unfold ceilD
  rw [Nat.mul_comm] at h
  split
  · rw [Nat.add_mul, Nat.one_mul]; omega
  · omega
theorem ceilD_lt (a j : Nat) : ceilD a j * 2 ^ j < a + 2 ^ j := by
  have h := Nat.div_mul_le_self a (2 ^ j)
  have h2 := Nat.two_pow_pos j
  unfold ceilD
  split
  · rw [Nat.add_mul, Nat.one_mul]; omega
  · omega
theorem ceilD_le {a b j : Nat} (h : a ≤ b * 2 ^ j) : ceilD a j ≤ b := by
  have h1 := ceilD_lt a j
  rcases Nat.lt_or_ge b (ceilD a j) with hlt | hge
  · exfalso
    have := Nat.mul_le_mul_right (2 ^ j) (Nat.succ_le_of_lt hlt)
    rw [Nat.succ_mul] at this
    omega
  · exact hge
section
variable {n d D m i low high P Q : Nat} {out : Int}
theorem LogI.p2 (h : LogI n d D m i low high out P Q) : Q * Q ≤ P * P := Nat.mul_le_mul h.le h.le
theorem LogI.sqlo (h : LogI n d D m i low high out P Q) : low * low / 2 ^ D * (Q * Q) ≤ P * P * 2 ^ D := by
  refine Nat.le_of_mul_le_mul_right ?_ (Nat.two_pow_pos D)
  calc low * low / 2 ^ D * (Q * Q) * 2 ^ D = low * low / 2 ^ D * 2 ^ D * (Q * Q) := by rw [Nat.mul_right_comm]
    _ ≤ low * low * (Q * Q) := Nat.mul_le_mul_right _ (Nat.div_mul_le_self _ _)
    _ = low * Q * (low * Q) := by rw [Nat.mul_mul_mul_comm]
    _ ≤ P * 2 ^ D * (P * 2 ^ D) := Nat.mul_le_mul h.lo h.lo
    _ = P * P * 2 ^ D * 2 ^ D := by rw [Nat.mul_mul_mul_comm, ← Nat.mul_assoc (P * P)]
theorem LogI.sqhi (h : LogI n d D m i low high out P Q) : P * P * 2 ^ D ≤ ceilD (high * high) D * (Q * Q) := by
  refine Nat.le_of_mul_le_mul_right ?_ (Nat.two_pow_pos D)
  calc P * P * 2 ^ D * 2 ^ D = P * 2 ^ D * (P * 2 ^ D) := by rw [Nat.mul_mul_mul_comm, ← Nat.mul_assoc (P * P)]
    _ ≤ high * Q * (high * Q) := Nat.mul_le_mul h.hi h.hi
    _ = high * high * (Q * Q) := by rw [Nat.mul_mul_mul_comm]
    _ ≤ ceilD (high * high) D * 2 ^ D * (Q * Q) := Nat.mul_le_mul_right _ (ceilD_ge _ _)
    _ = ceilD (high * high) D * (Q * Q) * 2 ^ D := by rw [Nat.mul_right_comm]
theorem LogI.lohi (h : LogI n d D m i low high out P Q) : low ≤ high := Nat.le_of_mul_le_mul_right (Nat.le_trans h.lo h.hi) h.pos
theorem LogI.gap (h : LogI n d D m i low high out P Q) : ceilD (high * high) D + 3 ≤ low * low / 2 ^ D + 2 * 4 ^ (i + 1) := by
  have hlh := h.lohi
  obtain ⟨e, he⟩ : ∃ e, high = low + e := ⟨high - low, by omega⟩
  have he2 := h.err
  have ht := h.top
  have h1 := ceilD_lt (high * high) D
  have h2 := Nat.div_add_mod (low * low) (2 ^ D)
  have h3 := Nat.mod_lt (low * low) (Nat.two_pow_pos D)
  rw [Nat.mul_comm] at h2
  have hs : high * high ≤ low * low + e * 2 ^ (D + 2) := by
    have : high * high = low * low + e * (low + high) := by
      rw [he]
      simp only [Nat.add_mul, Nat.mul_add, Nat.mul_comm low e]
      omega
    rw [this]
    refine Nat.add_le_add_left (Nat.mul_le_mul_left e ?_) _
    rw [Nat.pow_succ] at ht ⊢
    rw [Nat.pow_succ] at ⊢
    omega
  have he3 : e * 2 ^ (D + 2) = 4 * e * 2 ^ D := by
    rw [Nat.pow_add, ← Nat.mul_assoc, Nat.mul_right_comm, Nat.mul_comm e]
  rw [he3] at hs
  have hx : ceilD (high * high) D * 2 ^ D < (low * low / 2 ^ D + 4 * e + 2) * 2 ^ D := by
    rw [Nat.add_mul, Nat.add_mul]
    omega
  have hy := Nat.lt_of_mul_lt_mul_right hx
  rw [Nat.pow_succ]
  omega
theorem LogI.top2 (h : LogI n d D m i low high out P Q) : ceilD (high * high) D ≤ 2 ^ (D + 2) := by
  refine ceilD_le ?_
  calc high * high ≤ 2 ^ (D + 1) * 2 ^ (D + 1) := Nat.mul_le_mul h.top h.top
    _ = 2 ^ (D + 2) * 2 ^ D := by rw [← Nat.pow_add, ← Nat.pow_add]; congr 1; omega
theorem LogI.small2 (h : LogI n d D m i low high out P Q) : 2 * (2 * (Q * Q)) ≤ 2 ^ ((m + 1) * 2 ^ (i + 1)) := by
  have := Nat.mul_le_mul h.small h.small
  rw [Nat.mul_mul_mul_comm, ← Nat.pow_add, ← Nat.mul_two] at this
  have e : (m + 1) * 2 ^ (i + 1) = (m + 1) * 2 ^ i * 2 := by rw [Nat.pow_succ, Nat.mul_assoc]
  rw [e]
  omega
theorem LogI.start {n d D m : Nat} {k : Int} (hd : 0 < d) (hw : LogW n d k) (h1 : n < 2 ^ m) (h2 : d < 2 ^ m) {low high : Nat} (hl : low = n * 2 ^ (-k).toNat * 2 ^ D / (d * 2 ^ k.toNat))
    (hh : high = low + (if n * 2 ^ (-k).toNat * 2 ^ D % (d * 2 ^ k.toNat) = 0 then 0 else 1)) : LogI n d D m 0 low high k (n * 2 ^ (-k).toNat) (d * 2 ^ k.toNat) := by
  have hq : 0 < d * 2 ^ k.toNat := Nat.mul_pos hd (Nat.two_pow_pos _)
  have hdm := Nat.div_add_mod (n * 2 ^ (-k).toNat * 2 ^ D) (d * 2 ^ k.toNat)
  have hml := Nat.mod_lt (n * 2 ^ (-k).toNat * 2 ^ D) hq
  have hqs : 2 * (d * 2 ^ k.toNat) ≤ 2 ^ (m + 1) := by
    have : d * 2 ^ k.toNat < 2 ^ m := by
      rcases (show k < 0 ∨ 0 ≤ k by omega) with hk | hk
      · rw [show k.toNat = 0 by omega, Nat.pow_zero, Nat.mul_one]; exact h2
      · have := hw.1
        rw [show (-k).toNat = 0 by omega, Nat.pow_zero, Nat.mul_one] at this
        omega
    rw [Nat.pow_succ]
    omega
  have htop : n * 2 ^ (-k).toNat * 2 ^ D / (d * 2 ^ k.toNat) < 2 ^ (D + 1) := by
    rw [Nat.div_lt_iff_lt_mul hq]
    calc n * 2 ^ (-k).toNat * 2 ^ D < 2 * (d * 2 ^ k.toNat) * 2 ^ D := Nat.mul_lt_mul_of_pos_right hw.2 (Nat.two_pow_pos D)
      _ = 2 ^ (D + 1) * (d * 2 ^ k.toNat) := by rw [Nat.pow_succ, Nat.mul_comm 2, Nat.mul_assoc, Nat.mul_comm 2, Nat.mul_comm]
  subst hl
  refine ⟨by rw [Nat.pow_zero, Nat.pow_one, Nat.pow_one]; exact LogE.start n d k, hq, hw.1, hw.2, Nat.div_mul_le_self _ _, ?_, ?_, ?_, by rw [Nat.pow_zero, Nat.mul_one]; exact hqs⟩
  · rw [hh, Nat.add_mul, Nat.mul_comm _ (d * 2 ^ k.toNat)]
    split
    · omega
    · rw [Nat.one_mul]; omega
  · rw [hh]
    split <;> omega
  · rw [hh, Nat.pow_zero]
    split <;> omega
theorem LogI.one {n d D m i low high P Q : Nat} {out : Int} (h : LogI n d D m i low high out P Q) (hge : 2 ^ (D + 1) ≤ low * low / 2 ^ D) :
    LogI n d D m (i + 1) (low * low / 2 ^ D / 2 ^ 1) (ceilD (ceilD (high * high) D) 1) (2 * out + 1) (P * P) (2 * (Q * Q)) := by
  have hlo := h.sqlo
  have hhi := h.sqhi
  have hQQ : 0 < Q * Q := Nat.mul_pos h.pos h.pos
  have hp2 : P * P < 2 * (2 * (Q * Q)) := by
    have := Nat.mul_lt_mul'' h.lt h.lt
    rw [Nat.mul_mul_mul_comm] at this
    omega
  have hge2 : 2 * (Q * Q) ≤ P * P := by
    refine Nat.le_of_mul_le_mul_right ?_ (Nat.two_pow_pos D)
    calc 2 * (Q * Q) * 2 ^ D = 2 ^ (D + 1) * (Q * Q) := by rw [Nat.pow_succ, Nat.mul_comm (2 ^ D) 2, Nat.mul_right_comm]
      _ ≤ low * low / 2 ^ D * (Q * Q) := Nat.mul_le_mul_right _ hge
      _ ≤ P * P * 2 ^ D := hlo
  have hg := h.gap
  have hc1 := ceilD_lt (ceilD (high * high) D) 1
  have hc2 := ceilD_ge (ceilD (high * high) D) 1
  have ht2 := h.top2
  rw [Nat.pow_one] at hc1 hc2 ⊢
  refine ⟨?_, by omega, hge2, hp2, ?_, ?_, ?_, ?_, h.small2⟩
  · have := (h.e.sq).bit
    rwa [pow_sq, pow_sq] at this
  · calc low * low / 2 ^ D / 2 * (2 * (Q * Q)) = low * low / 2 ^ D / 2 * 2 * (Q * Q) := by rw [← Nat.mul_assoc]
      _ ≤ low * low / 2 ^ D * (Q * Q) := Nat.mul_le_mul_right _ (Nat.div_mul_le_self _ _)
      _ ≤ P * P * 2 ^ D := hlo
  · calc P * P * 2 ^ D ≤ ceilD (high * high) D * (Q * Q) := hhi
      _ ≤ ceilD (ceilD (high * high) D) 1 * 2 * (Q * Q) := Nat.mul_le_mul_right _ hc2
      _ = ceilD (ceilD (high * high) D) 1 * (2 * (Q * Q)) := by rw [Nat.mul_assoc]
  · refine ceilD_le ?_
    rw [Nat.pow_one, ← Nat.pow_succ]
    exact ht2
  · omega
theorem LogI.none {n d D m i low high P Q : Nat} {out : Int} (h : LogI n d D m i low high out P Q) (hn : NoPow (n ^ 2 ^ (i + 1)) (d ^ 2 ^ (i + 1))) (hle : ceilD (high * high) D ≤ 2 ^ (D + 1)) :
    LogI n d D m (i + 1) (low * low / 2 ^ D) (ceilD (high * high) D) (2 * out) (P * P) (Q * Q) := by
  have hlo := h.sqlo
  have hhi := h.sqhi
  have hQQ : 0 < Q * Q := Nat.mul_pos h.pos h.pos
  have he := h.e.sq
  rw [pow_sq, pow_sq] at he
  have hne := hn.ne he hQQ
  have hlt : P * P ≤ 2 * (Q * Q) := by
    refine Nat.le_of_mul_le_mul_right ?_ (Nat.two_pow_pos D)
    calc P * P * 2 ^ D ≤ ceilD (high * high) D * (Q * Q) := hhi
      _ ≤ 2 ^ (D + 1) * (Q * Q) := Nat.mul_le_mul_right _ hle
      _ = 2 * (Q * Q) * 2 ^ D := by rw [Nat.pow_succ, Nat.mul_comm (2 ^ D) 2, Nat.mul_right_comm]
  have hg := h.gap
  have hs := h.small2
  exact ⟨he, hQQ, h.p2, by omega, hlo, hhi, hle, by omega, by omega⟩
theorem LogI.few {n d D m i low high P Q : Nat} {out : Int} (h : LogI n d D m i low high out P Q) (hn : NoPow (n ^ 2 ^ (i + 1)) (d ^ 2 ^ (i + 1))) (h1 : low * low / 2 ^ D < 2 ^ (D + 1)) (h2 : 2 ^ (D + 1) < ceilD (high * high) D) :
    D ≤ 2 * i + 4 + (m + 1) * 2 ^ (i + 1) := by
  have hlo := h.sqlo
  have hhi := h.sqhi
  have hQQ : 0 < Q * Q := Nat.mul_pos h.pos h.pos
  have he := h.e.sq
  rw [pow_sq, pow_sq] at he
  have hne := hn.ne he hQQ
  have hg := h.gap
  have hs := h.small2
  -- 2 ^ D is at most the gap times Q * Q
  have hk : 2 ^ D ≤ 2 * 4 ^ (i + 1) * (Q * Q) := by
    have e1 : 2 ^ (D + 1) * (Q * Q) = 2 * (Q * Q) * 2 ^ D := by rw [Nat.pow_succ, Nat.mul_comm (2 ^ D) 2, Nat.mul_right_comm]
    have a1 : low * low / 2 ^ D * (Q * Q) ≤ 2 ^ (D + 1) * (Q * Q) := Nat.mul_le_mul_right _ (Nat.le_of_lt h1)
    have a2 : 2 ^ (D + 1) * (Q * Q) ≤ ceilD (high * high) D * (Q * Q) := Nat.mul_le_mul_right _ (Nat.le_of_lt h2)
    have a3 : ceilD (high * high) D * (Q * Q) ≤ (low * low / 2 ^ D + 2 * 4 ^ (i + 1)) * (Q * Q) := Nat.mul_le_mul_right _ (by omega)
    rw [Nat.add_mul] at a3
    rcases Nat.lt_or_gt_of_ne hne with hl | hl
    · have := Nat.mul_le_mul_right (2 ^ D) (Nat.succ_le_of_lt hl)
      rw [Nat.succ_mul] at this
      omega
    · have := Nat.mul_le_mul_right (2 ^ D) (Nat.succ_le_of_lt hl)
      rw [Nat.succ_mul] at this
      omega
  have h4 : 2 * 4 ^ (i + 1) = 2 ^ (2 * i + 3) := by
    rw [show (4 : Nat) = 2 ^ 2 from rfl, ← Nat.pow_mul, Nat.mul_comm 2, ← Nat.pow_succ]
    rfl
  rw [h4] at hk
  have h5 : 2 ^ (2 * i + 3) * (Q * Q) ≤ 2 ^ (2 * i + 3) * 2 ^ ((m + 1) * 2 ^ (i + 1)) := Nat.mul_le_mul_left _ (by omega)
  rw [← Nat.pow_add] at h5
  have := (Nat.pow_le_pow_iff_right (a := 2) (by decide)).1 (Nat.le_trans hk h5)
  omega
end
end Go.Proofs.Yteikhnmmkanndaa
namespace Go.Proofs.Yteikhnmmkanndaa
open Go.RowKit Go.Proofs.YteikhnmmkanndaaW.PrintWords
set_option linter.unusedSimpArgs false
set_option linter.unusedVariables false
theorem wl_bits {x m : Nat} (h : x < 2 ^ m) : wl 64 x ≤ m := Nat.le_trans (wl_le_bl (by decide) x) ((bl_le x m).2 h)
theorem wl_shl {x m j : Nat} (h : x < 2 ^ m) : wl 64 (x * 2 ^ j) ≤ m + j := wl_bits (by rw [Nat.pow_add]; exact Nat.mul_lt_mul_of_pos_right h (Nat.two_pow_pos j))
set_option maxRecDepth 100000 in
set_option maxHeartbeats 4000000 in
theorem lwhole_any (va : Value) (n d m : Nat) (w : World) (ha : F64 w va n d) (hn0 : 0 < n) (hd0 : 0 < d) (hn : n < 2 ^ m) (hd : d < 2 ^ m) (hm : m ≤ 20000) : Calls Try.prog 39 #[va] w fun x w' => x = .returned (.tuple #[.int .i64 (wholeN n d), .int .i64 0]) ∧ Below w.heap.size w w' := by
  have Ha := Lib.hid ha
  obtain ⟨Pa, pa, ca, Qa, qa, ea, xa, rfl, _, _, _⟩ := ha
  have HZ := Lib.hid (fun v W h => rzero_no v n d W h hn0)
  have HNU := Lib.hid num_any
  have HDE := Lib.hid den_any
  have hbn := (bl_le n m).2 hn
  have hbd := (bl_le d m).2 hd
  have hwn := wl_bits hn
  have hwd := wl_bits hd
  have HBN := Lib.hid (fun v W h => bits_any v n W h (by omega))
  have HBD := Lib.hid (fun v W h => bits_any v d W h (by omega))
  obtain ⟨kk, hkk⟩ : ∃ k : Int, (bl n : Int) - (bl d : Int) = k := ⟨_, rfl⟩
  have HWN : Hid (wholeN n d = if n * 2 ^ (-kk).toNat < d * 2 ^ kk.toNat then kk - 1 else kk) := Lib.hid (by unfold wholeN; rw [hkk])
  have hs1 := wl_shl (j := (-kk).toNat) hn
  have hs2 := wl_shl (j := kk.toNat) hd
  have HU1 := Lib.hid (fun v W h => nup_any v n W h (by omega) (-kk) (by omega))
  have HU2 := Lib.hid (fun v W h => nup_any v d W h (by omega) kk (by omega))
  have HCM := Lib.hid (fun va vb W h1 h2 => ncmp_any va vb (n * 2 ^ (-kk).toNat) (d * 2 ^ kk.toNat) W h1 h2)
  obtain ⟨p, hp⟩ : ∃ p, bl n = p := ⟨_, rfl⟩
  obtain ⟨q, hq⟩ : ∃ p, bl d = p := ⟨_, rfl⟩
  rw [hp] at HBN hbn hkk
  rw [hq] at HBD hbd hkk
  have hk1 : -1000000 ≤ kk := by omega
  have hk2 : kk ≤ 1000000 := by omega
  obtain ⟨N', hN'⟩ : ∃ p, n * 2 ^ (-kk).toNat = p := ⟨_, rfl⟩
  obtain ⟨D', hD'⟩ : ∃ p, d * 2 ^ kk.toNat = p := ⟨_, rfl⟩
  rw [hN'] at HU1 HCM HWN
  rw [hD'] at HU2 HCM HWN
  clear hn0 hd0 hn hd hm hwn hwd hs1 hs2 hp hq hN' hD'
  by_cases hlt : N' < D'
  · have HW2 := Lib.hid (show wholeN n d = kk - 1 by rw [HWN.out, if_pos hlt])
    rw [cmpN_lt hlt] at HCM
    clear hlt HWN
    have e0 := Blk.new (w) 47 #[(.slice Pa pa ca), (.slice Qa qa ea)]
    have hb := cba (Below.refl _ w) (.cells #[(.slice Pa pa ca), (.slice Qa qa ea)] 47)
    have hsz : w.heap.size ≤ w.heap.size := Nat.le_refl _
    go_enter Try.func39, Try.ntmps39
    go_upto_region 1 with (fail)
    obtain ⟨S, hS⟩ : ∃ S, (w).alloc (.cells #[(.slice Pa pa ca), (.slice Qa qa ea)] 47) = S := ⟨_, rfl⟩
    rw [hS] at e0 hb ⊢
    replace Ha := Lib.hid (Ha.out.below hb)
    have HB0 := Lib.hid hb
    have E0 := Lib.hid e0
    clear hS hb hsz e0
    have k_E0_0 := E0.out.cell 0
    have k_E0_1 := E0.out.cell 1
    go_wp2_with fail
    with_reducible refine (HZ.out _ _ Ha.out).mono ?_
    rintro e w1 ⟨rfl, hb⟩
    clear k_E0_0 k_E0_1
    replace Ha := Lib.hid (Ha.out.below hb)
    replace E0 := Lib.hid (blk_below E0.out hb)
    replace HB0 := Lib.hid (cbt HB0.out hb)
    clear hb
    have k_E0_0 := E0.out.cell 0
    have k_E0_1 := E0.out.cell 1
    go_wp2_with fail
    clear k_E0_0 k_E0_1
    let FS : List Kept1 := [.f (n) (d), .n (n), .eq (.int .i64 (p : Int)), .f (n) (d), .n (d), .eq (.int .i64 (q : Int)), .eq (.int .i64 kk), .eq (.int .i64 kk)]
    refine region_mono (Held w1 (fun j => FS.getD j .any) []) (by kernel_rfl) (by kernel_rfl) (by kernel_rfl) (Held.start _ _ _ (by simp) (by simp)) ?_
    refine Steps.held ?_ ?_
    · intro L v w' hJ
      have kb := hJ.out.blk E0.out (by simp [oldsOf])
      have k0 := kb.cell 0
      have k1 := kb.cell 1
      clear kb
      go_wp2_with fail
      exact ⟨rfl, rfl, hJ.out.same (by rfl) (Ha.out.keep hJ.out.held.keep)⟩
    simp only [Act.put, List.setIfInBounds_toArray, List.set_cons_zero, List.set_cons_succ, Nat.reduceAdd]
    refine Steps.held ?_ ?_
    · intro L v w' hJ
      have X0 := Lib.hid (show F64 w' (v 0) (n) (d) from hJ.out.fact 0 (by kernel_rfl))
      go_wp2_with fail
      with_reducible refine (HNU.out _ _ _ _ X0.out).mono ?_
      rintro e w1 ⟨u, rfl, hu, hb⟩
      go_wp2_with fail
      exact ⟨rfl, rfl, hJ.out.call (by rfl) hb (hu)⟩
    simp only [Act.put, List.setIfInBounds_toArray, List.set_cons_zero, List.set_cons_succ, Nat.reduceAdd]
    refine Steps.held ?_ ?_
    · intro L v w' hJ
      have X0 := Lib.hid (show N64 w' (v 1) (n) from hJ.out.fact 1 (by kernel_rfl))
      go_wp2_with fail
      with_reducible refine (HBN.out _ _ X0.out).mono ?_
      rintro e w1 ⟨rfl, hb⟩
      go_wp2_with fail
      exact ⟨rfl, rfl, hJ.out.call (by rfl) hb (rfl)⟩
    simp only [Act.put, List.setIfInBounds_toArray, List.set_cons_zero, List.set_cons_succ, Nat.reduceAdd]
    refine Steps.held ?_ ?_
    · intro L v w' hJ
      have kb := hJ.out.blk E0.out (by simp [oldsOf])
      have k0 := kb.cell 0
      have k1 := kb.cell 1
      clear kb
      go_wp2_with fail
      exact ⟨rfl, rfl, hJ.out.same (by rfl) (Ha.out.keep hJ.out.held.keep)⟩
    simp only [Act.put, List.setIfInBounds_toArray, List.set_cons_zero, List.set_cons_succ, Nat.reduceAdd]
    refine Steps.held ?_ ?_
    · intro L v w' hJ
      have X0 := Lib.hid (show F64 w' (v 3) (n) (d) from hJ.out.fact 3 (by kernel_rfl))
      go_wp2_with fail
      with_reducible refine (HDE.out _ _ _ _ X0.out).mono ?_
      rintro e w1 ⟨u, rfl, hu, hb⟩
      go_wp2_with fail
      exact ⟨rfl, rfl, hJ.out.call (by rfl) hb (hu)⟩
    simp only [Act.put, List.setIfInBounds_toArray, List.set_cons_zero, List.set_cons_succ, Nat.reduceAdd]
    refine Steps.held ?_ ?_
    · intro L v w' hJ
      have X0 := Lib.hid (show N64 w' (v 4) (d) from hJ.out.fact 4 (by kernel_rfl))
      go_wp2_with fail
      with_reducible refine (HBD.out _ _ X0.out).mono ?_
      rintro e w1 ⟨rfl, hb⟩
      go_wp2_with fail
      exact ⟨rfl, rfl, hJ.out.call (by rfl) hb (rfl)⟩
    simp only [Act.put, List.setIfInBounds_toArray, List.set_cons_zero, List.set_cons_succ, Nat.reduceAdd]
    refine Steps.held ?_ ?_
    · intro L v w' hJ
      have hv2 : v 2 = .int .i64 (p : Int) := hJ.out.fact 2 (by kernel_rfl)
      simp only [hv2]
      clear hv2
      have hv5 : v 5 = .int .i64 (q : Int) := hJ.out.fact 5 (by kernel_rfl)
      simp only [hv5]
      clear hv5
      go_wp2_with fail
      exact ⟨rfl, rfl, hJ.out.same (by rfl) (rfl)⟩
    simp only [Act.put, List.setIfInBounds_toArray, List.set_cons_zero, List.set_cons_succ, Nat.reduceAdd]
    refine Steps.held ?_ ?_
    · intro L v w' hJ
      have hv6 : v 6 = .int .i64 kk := hJ.out.fact 6 (by kernel_rfl)
      simp only [hv6]
      clear hv6
      go_wp2_with fail
      exact ⟨rfl, rfl, hJ.out.same (by rfl) (rfl)⟩
    simp only [Act.put, List.setIfInBounds_toArray, List.set_cons_zero, List.set_cons_succ, Nat.reduceAdd]
    refine Steps.nil ?_
    intro v w' hJ
    have h7 : v 7 = .int .i64 kk := hJ.end_fact 7 (by decide)
    simp only [h7]
    clear h7
    have hbr := hJ.but.below
    replace Ha := Lib.hid (Ha.out.below hbr)
    replace E0 := Lib.hid (blk_below E0.out hbr)
    replace HB0 := Lib.hid (cbt HB0.out hbr)
    clear hJ hbr
    clear hkk hbn hbd
    go_wp2_with fail
    let FS : List Kept1 := [.f (n) (d), .n (n), .eq (.int .i64 kk), .eq (.int .i64 (-kk)), .n (N'), .f (n) (d), .n (d), .eq (.int .i64 kk), .n (D'), .eq (.int .i64 (-1)), .eq (.bool true)]
    refine region_mono (Held w' (fun j => FS.getD j .any) []) (by kernel_rfl) (by kernel_rfl) (by kernel_rfl) (Held.start _ _ _ (by simp) (by simp)) ?_
    refine Steps.held ?_ ?_
    · intro L v w' hJ
      have kb := hJ.out.blk E0.out (by simp [oldsOf])
      have k0 := kb.cell 0
      have k1 := kb.cell 1
      clear kb
      go_wp2_with fail
      exact ⟨rfl, rfl, hJ.out.same (by rfl) (Ha.out.keep hJ.out.held.keep)⟩
    simp only [Act.put, List.setIfInBounds_toArray, List.set_cons_zero, List.set_cons_succ, Nat.reduceAdd]
    refine Steps.held ?_ ?_
    · intro L v w' hJ
      have X0 := Lib.hid (show F64 w' (v 0) (n) (d) from hJ.out.fact 0 (by kernel_rfl))
      go_wp2_with fail
      with_reducible refine (HNU.out _ _ _ _ X0.out).mono ?_
      rintro e w1 ⟨u, rfl, hu, hb⟩
      go_wp2_with fail
      exact ⟨rfl, rfl, hJ.out.call (by rfl) hb (hu)⟩
    simp only [Act.put, List.setIfInBounds_toArray, List.set_cons_zero, List.set_cons_succ, Nat.reduceAdd]
    refine Steps.held ?_ ?_
    · intro L v w' hJ
      go_wp2_with fail
      exact ⟨rfl, rfl, hJ.out.same (by rfl) (rfl)⟩
    simp only [Act.put, List.setIfInBounds_toArray, List.set_cons_zero, List.set_cons_succ, Nat.reduceAdd]
    refine Steps.held ?_ ?_
    · intro L v w' hJ
      have hv2 : v 2 = .int .i64 kk := hJ.out.fact 2 (by kernel_rfl)
      simp only [hv2]
      clear hv2
      go_wp2_with fail
      exact ⟨rfl, rfl, hJ.out.same (by rfl) (rfl)⟩
    simp only [Act.put, List.setIfInBounds_toArray, List.set_cons_zero, List.set_cons_succ, Nat.reduceAdd]
    refine Steps.held ?_ ?_
    · intro L v w' hJ
      have hv3 : v 3 = .int .i64 (-kk) := hJ.out.fact 3 (by kernel_rfl)
      simp only [hv3]
      clear hv3
      have X0 := Lib.hid (show N64 w' (v 1) (n) from hJ.out.fact 1 (by kernel_rfl))
      go_wp2_with fail
      with_reducible refine (HU1.out _ _ X0.out).mono ?_
      rintro e w1 ⟨u, rfl, hu, hb⟩
      go_wp2_with fail
      exact ⟨rfl, rfl, hJ.out.call (by rfl) hb (hu)⟩
    simp only [Act.put, List.setIfInBounds_toArray, List.set_cons_zero, List.set_cons_succ, Nat.reduceAdd]
    refine Steps.held ?_ ?_
    · intro L v w' hJ
      have kb := hJ.out.blk E0.out (by simp [oldsOf])
      have k0 := kb.cell 0
      have k1 := kb.cell 1
      clear kb
      go_wp2_with fail
      exact ⟨rfl, rfl, hJ.out.same (by rfl) (Ha.out.keep hJ.out.held.keep)⟩
    simp only [Act.put, List.setIfInBounds_toArray, List.set_cons_zero, List.set_cons_succ, Nat.reduceAdd]
    refine Steps.held ?_ ?_
    · intro L v w' hJ
      have X0 := Lib.hid (show F64 w' (v 5) (n) (d) from hJ.out.fact 5 (by kernel_rfl))
      go_wp2_with fail
      with_reducible refine (HDE.out _ _ _ _ X0.out).mono ?_
      rintro e w1 ⟨u, rfl, hu, hb⟩
      go_wp2_with fail
      exact ⟨rfl, rfl, hJ.out.call (by rfl) hb (hu)⟩
    simp only [Act.put, List.setIfInBounds_toArray, List.set_cons_zero, List.set_cons_succ, Nat.reduceAdd]
    refine Steps.held ?_ ?_
    · intro L v w' hJ
      go_wp2_with fail
      exact ⟨rfl, rfl, hJ.out.same (by rfl) (rfl)⟩
    simp only [Act.put, List.setIfInBounds_toArray, List.set_cons_zero, List.set_cons_succ, Nat.reduceAdd]
    refine Steps.held ?_ ?_
    · intro L v w' hJ
      have hv7 : v 7 = .int .i64 kk := hJ.out.fact 7 (by kernel_rfl)
      simp only [hv7]
      clear hv7
      have X0 := Lib.hid (show N64 w' (v 6) (d) from hJ.out.fact 6 (by kernel_rfl))
      go_wp2_with fail
      with_reducible refine (HU2.out _ _ X0.out).mono ?_
      rintro e w1 ⟨u, rfl, hu, hb⟩
      go_wp2_with fail
      exact ⟨rfl, rfl, hJ.out.call (by rfl) hb (hu)⟩
    simp only [Act.put, List.setIfInBounds_toArray, List.set_cons_zero, List.set_cons_succ, Nat.reduceAdd]
    refine Steps.held ?_ ?_
    · intro L v w' hJ
      have X0 := Lib.hid (show N64 w' (v 4) (N') from hJ.out.fact 4 (by kernel_rfl))
      have X1 := Lib.hid (show N64 w' (v 8) (D') from hJ.out.fact 8 (by kernel_rfl))
      go_wp2_with fail
      with_reducible refine (HCM.out _ _ _ X0.out X1.out).mono ?_
      rintro e w1 ⟨rfl, hb⟩
      go_wp2_with fail
      exact ⟨rfl, rfl, hJ.out.call (by rfl) hb (rfl)⟩
    simp only [Act.put, List.setIfInBounds_toArray, List.set_cons_zero, List.set_cons_succ, Nat.reduceAdd]
    refine Steps.held ?_ ?_
    · intro L v w' hJ
      have hv9 : v 9 = .int .i64 (-1) := hJ.out.fact 9 (by kernel_rfl)
      simp only [hv9]
      clear hv9
      go_wp2_with fail
      exact ⟨rfl, rfl, hJ.out.same (by rfl) (rfl)⟩
    simp only [Act.put, List.setIfInBounds_toArray, List.set_cons_zero, List.set_cons_succ, Nat.reduceAdd]
    refine Steps.nil ?_
    intro v w' hJ
    have h10 : v 10 = .bool true := hJ.end_fact 10 (by decide)
    simp only [h10]
    clear h10
    have hbr := hJ.but.below
    replace Ha := Lib.hid (Ha.out.below hbr)
    replace E0 := Lib.hid (blk_below E0.out hbr)
    replace HB0 := Lib.hid (cbt HB0.out hbr)
    clear hJ hbr
    go_wp2_with fail
    exact bodyPost_ret (v := .tuple #[.int .i64 (kk - 1), .int .i64 0]) (by simp [results, Try.results39, go_sem]) rfl ⟨by rw [HW2.out], HB0.out⟩
  · have HW2 := Lib.hid (show wholeN n d = kk by rw [HWN.out, if_neg hlt])
    have hcc : decide (cmpN N' D' < 0) = false := decide_eq_false (by have := cmpN_ge (x := N') (y := D') (by omega); omega)
    obtain ⟨cc, hce⟩ : ∃ c, cmpN N' D' = c := ⟨_, rfl⟩
    rw [hce] at HCM hcc
    clear hce
    clear hlt HWN
    have e0 := Blk.new (w) 47 #[(.slice Pa pa ca), (.slice Qa qa ea)]
    have hb := cba (Below.refl _ w) (.cells #[(.slice Pa pa ca), (.slice Qa qa ea)] 47)
    have hsz : w.heap.size ≤ w.heap.size := Nat.le_refl _
    go_enter Try.func39, Try.ntmps39
    go_upto_region 1 with (fail)
    obtain ⟨S, hS⟩ : ∃ S, (w).alloc (.cells #[(.slice Pa pa ca), (.slice Qa qa ea)] 47) = S := ⟨_, rfl⟩
    rw [hS] at e0 hb ⊢
    replace Ha := Lib.hid (Ha.out.below hb)
    have HB0 := Lib.hid hb
    have E0 := Lib.hid e0
    clear hS hb hsz e0
    have k_E0_0 := E0.out.cell 0
    have k_E0_1 := E0.out.cell 1
    go_wp2_with fail
    with_reducible refine (HZ.out _ _ Ha.out).mono ?_
    rintro e w1 ⟨rfl, hb⟩
    clear k_E0_0 k_E0_1
    replace Ha := Lib.hid (Ha.out.below hb)
    replace E0 := Lib.hid (blk_below E0.out hb)
    replace HB0 := Lib.hid (cbt HB0.out hb)
    clear hb
    have k_E0_0 := E0.out.cell 0
    have k_E0_1 := E0.out.cell 1
    go_wp2_with fail
    clear k_E0_0 k_E0_1
    let FS : List Kept1 := [.f (n) (d), .n (n), .eq (.int .i64 (p : Int)), .f (n) (d), .n (d), .eq (.int .i64 (q : Int)), .eq (.int .i64 kk), .eq (.int .i64 kk)]
    refine region_mono (Held w1 (fun j => FS.getD j .any) []) (by kernel_rfl) (by kernel_rfl) (by kernel_rfl) (Held.start _ _ _ (by simp) (by simp)) ?_
    refine Steps.held ?_ ?_
    · intro L v w' hJ
      have kb := hJ.out.blk E0.out (by simp [oldsOf])
      have k0 := kb.cell 0
      have k1 := kb.cell 1
      clear kb
      go_wp2_with fail
      exact ⟨rfl, rfl, hJ.out.same (by rfl) (Ha.out.keep hJ.out.held.keep)⟩
    simp only [Act.put, List.setIfInBounds_toArray, List.set_cons_zero, List.set_cons_succ, Nat.reduceAdd]
    refine Steps.held ?_ ?_
    · intro L v w' hJ
      have X0 := Lib.hid (show F64 w' (v 0) (n) (d) from hJ.out.fact 0 (by kernel_rfl))
      go_wp2_with fail
      with_reducible refine (HNU.out _ _ _ _ X0.out).mono ?_
      rintro e w1 ⟨u, rfl, hu, hb⟩
      go_wp2_with fail
      exact ⟨rfl, rfl, hJ.out.call (by rfl) hb (hu)⟩
    simp only [Act.put, List.setIfInBounds_toArray, List.set_cons_zero, List.set_cons_succ, Nat.reduceAdd]
    refine Steps.held ?_ ?_
    · intro L v w' hJ
      have X0 := Lib.hid (show N64 w' (v 1) (n) from hJ.out.fact 1 (by kernel_rfl))
      go_wp2_with fail
      with_reducible refine (HBN.out _ _ X0.out).mono ?_
      rintro e w1 ⟨rfl, hb⟩
      go_wp2_with fail
      exact ⟨rfl, rfl, hJ.out.call (by rfl) hb (rfl)⟩
    simp only [Act.put, List.setIfInBounds_toArray, List.set_cons_zero, List.set_cons_succ, Nat.reduceAdd]
    refine Steps.held ?_ ?_
    · intro L v w' hJ
      have kb := hJ.out.blk E0.out (by simp [oldsOf])
      have k0 := kb.cell 0
      have k1 := kb.cell 1
      clear kb
      go_wp2_with fail
      exact ⟨rfl, rfl, hJ.out.same (by rfl) (Ha.out.keep hJ.out.held.keep)⟩
    simp only [Act.put, List.setIfInBounds_toArray, List.set_cons_zero, List.set_cons_succ, Nat.reduceAdd]
    refine Steps.held ?_ ?_
    · intro L v w' hJ
      have X0 := Lib.hid (show F64 w' (v 3) (n) (d) from hJ.out.fact 3 (by kernel_rfl))
      go_wp2_with fail
      with_reducible refine (HDE.out _ _ _ _ X0.out).mono ?_
      rintro e w1 ⟨u, rfl, hu, hb⟩
      go_wp2_with fail
      exact ⟨rfl, rfl, hJ.out.call (by rfl) hb (hu)⟩
    simp only [Act.put, List.setIfInBounds_toArray, List.set_cons_zero, List.set_cons_succ, Nat.reduceAdd]
    refine Steps.held ?_ ?_
    · intro L v w' hJ
      have X0 := Lib.hid (show N64 w' (v 4) (d) from hJ.out.fact 4 (by kernel_rfl))
      go_wp2_with fail
      with_reducible refine (HBD.out _ _ X0.out).mono ?_
      rintro e w1 ⟨rfl, hb⟩
      go_wp2_with fail
      exact ⟨rfl, rfl, hJ.out.call (by rfl) hb (rfl)⟩
    simp only [Act.put, List.setIfInBounds_toArray, List.set_cons_zero, List.set_cons_succ, Nat.reduceAdd]
    refine Steps.held ?_ ?_
    · intro L v w' hJ
      have hv2 : v 2 = .int .i64 (p : Int) := hJ.out.fact 2 (by kernel_rfl)
      simp only [hv2]
      clear hv2
      have hv5 : v 5 = .int .i64 (q : Int) := hJ.out.fact 5 (by kernel_rfl)
      simp only [hv5]
      clear hv5
      go_wp2_with fail
      exact ⟨rfl, rfl, hJ.out.same (by rfl) (rfl)⟩
    simp only [Act.put, List.setIfInBounds_toArray, List.set_cons_zero, List.set_cons_succ, Nat.reduceAdd]
    refine Steps.held ?_ ?_
    · intro L v w' hJ
      have hv6 : v 6 = .int .i64 kk := hJ.out.fact 6 (by kernel_rfl)
      simp only [hv6]
      clear hv6
      go_wp2_with fail
      exact ⟨rfl, rfl, hJ.out.same (by rfl) (rfl)⟩
    simp only [Act.put, List.setIfInBounds_toArray, List.set_cons_zero, List.set_cons_succ, Nat.reduceAdd]
    refine Steps.nil ?_
    intro v w' hJ
    have h7 : v 7 = .int .i64 kk := hJ.end_fact 7 (by decide)
    simp only [h7]
    clear h7
    have hbr := hJ.but.below
    replace Ha := Lib.hid (Ha.out.below hbr)
    replace E0 := Lib.hid (blk_below E0.out hbr)
    replace HB0 := Lib.hid (cbt HB0.out hbr)
    clear hJ hbr
    clear hkk hbn hbd
    go_wp2_with fail
    let FS : List Kept1 := [.f (n) (d), .n (n), .eq (.int .i64 kk), .eq (.int .i64 (-kk)), .n (N'), .f (n) (d), .n (d), .eq (.int .i64 kk), .n (D'), .eq (.int .i64 (cc)), .eq (.bool false)]
    refine region_mono (Held w' (fun j => FS.getD j .any) []) (by kernel_rfl) (by kernel_rfl) (by kernel_rfl) (Held.start _ _ _ (by simp) (by simp)) ?_
    refine Steps.held ?_ ?_
    · intro L v w' hJ
      have kb := hJ.out.blk E0.out (by simp [oldsOf])
      have k0 := kb.cell 0
      have k1 := kb.cell 1
      clear kb
      go_wp2_with fail
      exact ⟨rfl, rfl, hJ.out.same (by rfl) (Ha.out.keep hJ.out.held.keep)⟩
    simp only [Act.put, List.setIfInBounds_toArray, List.set_cons_zero, List.set_cons_succ, Nat.reduceAdd]
    refine Steps.held ?_ ?_
    · intro L v w' hJ
      have X0 := Lib.hid (show F64 w' (v 0) (n) (d) from hJ.out.fact 0 (by kernel_rfl))
      go_wp2_with fail
      with_reducible refine (HNU.out _ _ _ _ X0.out).mono ?_
      rintro e w1 ⟨u, rfl, hu, hb⟩
      go_wp2_with fail
      exact ⟨rfl, rfl, hJ.out.call (by rfl) hb (hu)⟩
    simp only [Act.put, List.setIfInBounds_toArray, List.set_cons_zero, List.set_cons_succ, Nat.reduceAdd]
    refine Steps.held ?_ ?_
    · intro L v w' hJ
      go_wp2_with fail
      exact ⟨rfl, rfl, hJ.out.same (by rfl) (rfl)⟩
    simp only [Act.put, List.setIfInBounds_toArray, List.set_cons_zero, List.set_cons_succ, Nat.reduceAdd]
    refine Steps.held ?_ ?_
    · intro L v w' hJ
      have hv2 : v 2 = .int .i64 kk := hJ.out.fact 2 (by kernel_rfl)
      simp only [hv2]
      clear hv2
      go_wp2_with fail
      exact ⟨rfl, rfl, hJ.out.same (by rfl) (rfl)⟩
    simp only [Act.put, List.setIfInBounds_toArray, List.set_cons_zero, List.set_cons_succ, Nat.reduceAdd]
    refine Steps.held ?_ ?_
    · intro L v w' hJ
      have hv3 : v 3 = .int .i64 (-kk) := hJ.out.fact 3 (by kernel_rfl)
      simp only [hv3]
      clear hv3
      have X0 := Lib.hid (show N64 w' (v 1) (n) from hJ.out.fact 1 (by kernel_rfl))
      go_wp2_with fail
      with_reducible refine (HU1.out _ _ X0.out).mono ?_
      rintro e w1 ⟨u, rfl, hu, hb⟩
      go_wp2_with fail
      exact ⟨rfl, rfl, hJ.out.call (by rfl) hb (hu)⟩
    simp only [Act.put, List.setIfInBounds_toArray, List.set_cons_zero, List.set_cons_succ, Nat.reduceAdd]
    refine Steps.held ?_ ?_
    · intro L v w' hJ
      have kb := hJ.out.blk E0.out (by simp [oldsOf])
      have k0 := kb.cell 0
      have k1 := kb.cell 1
      clear kb
      go_wp2_with fail
      exact ⟨rfl, rfl, hJ.out.same (by rfl) (Ha.out.keep hJ.out.held.keep)⟩
    simp only [Act.put, List.setIfInBounds_toArray, List.set_cons_zero, List.set_cons_succ, Nat.reduceAdd]
    refine Steps.held ?_ ?_
    · intro L v w' hJ
      have X0 := Lib.hid (show F64 w' (v 5) (n) (d) from hJ.out.fact 5 (by kernel_rfl))
      go_wp2_with fail
      with_reducible refine (HDE.out _ _ _ _ X0.out).mono ?_
      rintro e w1 ⟨u, rfl, hu, hb⟩
      go_wp2_with fail
      exact ⟨rfl, rfl, hJ.out.call (by rfl) hb (hu)⟩
    simp only [Act.put, List.setIfInBounds_toArray, List.set_cons_zero, List.set_cons_succ, Nat.reduceAdd]
    refine Steps.held ?_ ?_
    · intro L v w' hJ
      go_wp2_with fail
      exact ⟨rfl, rfl, hJ.out.same (by rfl) (rfl)⟩
    simp only [Act.put, List.setIfInBounds_toArray, List.set_cons_zero, List.set_cons_succ, Nat.reduceAdd]
    refine Steps.held ?_ ?_
    · intro L v w' hJ
      have hv7 : v 7 = .int .i64 kk := hJ.out.fact 7 (by kernel_rfl)
      simp only [hv7]
      clear hv7
      have X0 := Lib.hid (show N64 w' (v 6) (d) from hJ.out.fact 6 (by kernel_rfl))
      go_wp2_with fail
      with_reducible refine (HU2.out _ _ X0.out).mono ?_
      rintro e w1 ⟨u, rfl, hu, hb⟩
      go_wp2_with fail
      exact ⟨rfl, rfl, hJ.out.call (by rfl) hb (hu)⟩
    simp only [Act.put, List.setIfInBounds_toArray, List.set_cons_zero, List.set_cons_succ, Nat.reduceAdd]
    refine Steps.held ?_ ?_
    · intro L v w' hJ
      have X0 := Lib.hid (show N64 w' (v 4) (N') from hJ.out.fact 4 (by kernel_rfl))
      have X1 := Lib.hid (show N64 w' (v 8) (D') from hJ.out.fact 8 (by kernel_rfl))
      go_wp2_with fail
      with_reducible refine (HCM.out _ _ _ X0.out X1.out).mono ?_
      rintro e w1 ⟨rfl, hb⟩
      go_wp2_with fail
      exact ⟨rfl, rfl, hJ.out.call (by rfl) hb (rfl)⟩
    simp only [Act.put, List.setIfInBounds_toArray, List.set_cons_zero, List.set_cons_succ, Nat.reduceAdd]
    refine Steps.held ?_ ?_
    · intro L v w' hJ
      have hv9 : v 9 = .int .i64 (cc) := hJ.out.fact 9 (by kernel_rfl)
      simp only [hv9]
      clear hv9
      go_wp2_with fail
      exact ⟨rfl, rfl, hJ.out.same (by rfl) (rfl)⟩
    simp only [Act.put, List.setIfInBounds_toArray, List.set_cons_zero, List.set_cons_succ, Nat.reduceAdd]
    refine Steps.nil ?_
    intro v w' hJ
    have h10 : v 10 = .bool false := hJ.end_fact 10 (by decide)
    simp only [h10]
    clear h10
    have hbr := hJ.but.below
    replace Ha := Lib.hid (Ha.out.below hbr)
    replace E0 := Lib.hid (blk_below E0.out hbr)
    replace HB0 := Lib.hid (cbt HB0.out hbr)
    clear hJ hbr
    go_wp2_with fail
    exact bodyPost_ret (v := .tuple #[.int .i64 kk, .int .i64 0]) (by simp [results, Try.results39, go_sem]) rfl ⟨by rw [HW2.out], HB0.out⟩
set_option maxRecDepth 100000 in
set_option maxHeartbeats 4000000 in
theorem lscaled_any (va : Value) (n d m : Nat) (k : Int) (D : Nat) (w : World) (ha : F64 w va n d) (hd0 : 0 < d) (hn : n < 2 ^ m) (hd : d < 2 ^ m) (hm : m ≤ 20000) (hk1 : -20000 ≤ k) (hk2 : k ≤ 20000) (hD : D ≤ 200000000) :
    Calls Try.prog 110 #[va, .int .i64 k, .int .i64 (D : Nat)] w fun x w' => ∃ v, x = .returned (.tuple #[v, .bool (!decide (n * 2 ^ (-k).toNat * 2 ^ D % (d * 2 ^ k.toNat) = 0))]) ∧ N64 w' v (n * 2 ^ (-k).toNat * 2 ^ D / (d * 2 ^ k.toNat)) ∧ Below w.heap.size w w' := by
  have Ha := Lib.hid ha
  obtain ⟨Pa, pa, ca, Qa, qa, ea, xa, rfl, _, _, _⟩ := ha
  have HNU := Lib.hid num_any
  have HDE := Lib.hid den_any
  obtain ⟨j1, hj1⟩ : ∃ j, (-k).toNat + D = j := ⟨_, rfl⟩
  obtain ⟨j2, hj2⟩ : ∃ j, k.toNat = j := ⟨_, rfl⟩
  obtain ⟨kmn, hmn⟩ : ∃ j, min k 0 = j := ⟨_, rfl⟩
  have hmx : max k 0 = (j2 : Int) := by omega
  have hsub : (D : Int) - kmn = (j1 : Int) := by omega
  have hb1 : -20000 ≤ kmn := by omega
  have hb2 : kmn ≤ 0 := by omega
  have hP : n * 2 ^ (-k).toNat * 2 ^ D = n * 2 ^ j1 := by rw [Nat.mul_assoc, ← Nat.pow_add, hj1]
  rw [hP, hj2]
  have hs1 := wl_shl (j := j1) hn
  have hs2 := wl_shl (j := j2) hd
  have hwn := wl_bits hn
  have hwd := wl_bits hd
  have HU1 := Lib.hid (fun v W h => nup_any v n W h (by omega) (j1 : Int) (by omega))
  have HU2 := Lib.hid (fun v W h => nup_any v d W h (by omega) (j2 : Int) (by omega))
  rw [Int.toNat_natCast] at HU1 HU2
  have hq0 : 0 < d * 2 ^ j2 := Nat.mul_pos hd0 (Nat.two_pow_pos _)
  have HDV := Lib.hid (fun va vb W h1 h2 => ndiv_any va vb (n * 2 ^ j1) (d * 2 ^ j2) W h1 h2 (by omega) hq0)
  obtain ⟨X, hX⟩ : ∃ p, n * 2 ^ j1 = p := ⟨_, rfl⟩
  obtain ⟨Y, hY⟩ : ∃ p, d * 2 ^ j2 = p := ⟨_, rfl⟩
  rw [hX] at HU1 HDV ⊢
  rw [hY] at HU2 HDV ⊢
  obtain ⟨q, hq⟩ : ∃ p, X / Y = p := ⟨_, rfl⟩
  obtain ⟨r, hr⟩ : ∃ p, X % Y = p := ⟨_, rfl⟩
  rw [hq, hr] at HDV ⊢
  clear hP hs1 hs2 hwn hwd hq0 hX hY hq hr hn hd hm hd0 hj2
  by_cases hr0 : r = 0
  · have HZ := Lib.hid (fun v W h => zero_eq v r W h hr0)
    rw [decide_eq_true hr0]
    clear hr0
    have e0 := (Blk.new (w) 47 #[(.slice Pa pa ca), (.slice Qa qa ea)]).alloc (.cells #[(.slice none 0 0)] 26)
    have e1 := Blk.new ((w).alloc (.cells #[(.slice Pa pa ca), (.slice Qa qa ea)] 47)) 26 #[(.slice none 0 0)]
    have hb := cba (cba (Below.refl _ w) (.cells #[(.slice Pa pa ca), (.slice Qa qa ea)] 47)) (.cells #[(.slice none 0 0)] 26)
    simp only [World.size_alloc] at e1
    have hsz : w.heap.size ≤ w.heap.size := Nat.le_refl _
    go_enter Try.func110, Try.ntmps110
    go_upto_region 1 with (fail)
    obtain ⟨S, hS⟩ : ∃ S, ((w).alloc (.cells #[(.slice Pa pa ca), (.slice Qa qa ea)] 47)).alloc (.cells #[(.slice none 0 0)] 26) = S := ⟨_, rfl⟩
    rw [hS] at e0 e1 hb ⊢
    replace Ha := Lib.hid (Ha.out.below hb)
    have HB0 := Lib.hid hb
    have E0 := Lib.hid e0
    have E1 := Lib.hid e1
    clear hS hb hsz e0 e1
    go_wp2_with fail
    let FS : List Kept1 := [.f (n) (d), .n (n), .eq (.int .i64 (D : Int)), .eq (.int .i64 k), .eq (.int .i64 kmn), .eq (.int .i64 (j1 : Int)), .n (X), .f (n) (d), .n (d), .eq (.int .i64 k), .eq (.int .i64 (j2 : Int)), .n (Y), .three (.n (q)) (.n (r)) (.eq (.int .i64 0)), .three (.n (q)) (.n (r)) (.eq (.int .i64 0)), .n (q), .n (r), .eq (.int .i64 0), .any, .any, .any, .any, .eq (.int .i64 0)]
    let BS : List Bx := [Bx.nat (.inl 17) 19 #[.slice none 0 0] (q), Bx.nat (.inl 18) 20 #[.slice none 0 0] (r)]
    refine region_mono (Held S (fun j => FS.getD j .any) BS) (by kernel_rfl) (by kernel_rfl) (by kernel_rfl) (Held.start _ _ _ (by simp [BS, Bx.nat, Bx.rat, Bx.ref]) (by simp [BS, Bx.nat, Bx.rat, Bx.ref])) ?_
    refine Steps.held ?_ ?_
    · intro L v w' hJ
      have kb := hJ.out.blk E0.out (by simp [oldsOf, BS, Bx.nat, Bx.rat, Bx.ref])
      have k0 := kb.cell 0
      have k1 := kb.cell 1
      clear kb
      go_wp2_with fail
      exact ⟨rfl, rfl, hJ.out.same (by rfl) (Ha.out.keep hJ.out.held.keep)⟩
    simp only [Act.put, List.setIfInBounds_toArray, List.set_cons_zero, List.set_cons_succ, Nat.reduceAdd]
    refine Steps.held ?_ ?_
    · intro L v w' hJ
      have X0 := Lib.hid (show F64 w' (v 0) (n) (d) from hJ.out.fact 0 (by kernel_rfl))
      go_wp2_with fail
      with_reducible refine (HNU.out _ _ _ _ X0.out).mono ?_
      rintro e w1 ⟨u, rfl, hu, hb⟩
      go_wp2_with fail
      exact ⟨rfl, rfl, hJ.out.call (by rfl) hb (hu)⟩
    simp only [Act.put, List.setIfInBounds_toArray, List.set_cons_zero, List.set_cons_succ, Nat.reduceAdd]
    refine Steps.held ?_ ?_
    · intro L v w' hJ
      go_wp2_with fail
      exact ⟨rfl, rfl, hJ.out.same (by rfl) (rfl)⟩
    simp only [Act.put, List.setIfInBounds_toArray, List.set_cons_zero, List.set_cons_succ, Nat.reduceAdd]
    refine Steps.held ?_ ?_
    · intro L v w' hJ
      go_wp2_with fail
      exact ⟨rfl, rfl, hJ.out.same (by rfl) (rfl)⟩
    simp only [Act.put, List.setIfInBounds_toArray, List.set_cons_zero, List.set_cons_succ, Nat.reduceAdd]
    refine Steps.held ?_ ?_
    · intro L v w' hJ
      have hv3 : v 3 = .int .i64 k := hJ.out.fact 3 (by kernel_rfl)
      simp only [hv3]
      clear hv3
      go_wp2_with fail
      exact ⟨rfl, rfl, hJ.out.same (by rfl) (rfl)⟩
    simp only [Act.put, List.setIfInBounds_toArray, List.set_cons_zero, List.set_cons_succ, Nat.reduceAdd]
    refine Steps.held ?_ ?_
    · intro L v w' hJ
      have hv2 : v 2 = .int .i64 (D : Int) := hJ.out.fact 2 (by kernel_rfl)
      simp only [hv2]
      clear hv2
      have hv4 : v 4 = .int .i64 kmn := hJ.out.fact 4 (by kernel_rfl)
      simp only [hv4]
      clear hv4
      go_wp2_with fail
      exact ⟨rfl, rfl, hJ.out.same (by rfl) (rfl)⟩
    simp only [Act.put, List.setIfInBounds_toArray, List.set_cons_zero, List.set_cons_succ, Nat.reduceAdd]
    refine Steps.held ?_ ?_
    · intro L v w' hJ
      have hv5 : v 5 = .int .i64 (j1 : Int) := hJ.out.fact 5 (by kernel_rfl)
      simp only [hv5]
      clear hv5
      have X0 := Lib.hid (show N64 w' (v 1) (n) from hJ.out.fact 1 (by kernel_rfl))
      go_wp2_with fail
      with_reducible refine (HU1.out _ _ X0.out).mono ?_
      rintro e w1 ⟨u, rfl, hu, hb⟩
      go_wp2_with fail
      exact ⟨rfl, rfl, hJ.out.call (by rfl) hb (hu)⟩
    simp only [Act.put, List.setIfInBounds_toArray, List.set_cons_zero, List.set_cons_succ, Nat.reduceAdd]
    refine Steps.held ?_ ?_
    · intro L v w' hJ
      have kb := hJ.out.blk E0.out (by simp [oldsOf, BS, Bx.nat, Bx.rat, Bx.ref])
      have k0 := kb.cell 0
      have k1 := kb.cell 1
      clear kb
      go_wp2_with fail
      exact ⟨rfl, rfl, hJ.out.same (by rfl) (Ha.out.keep hJ.out.held.keep)⟩
    simp only [Act.put, List.setIfInBounds_toArray, List.set_cons_zero, List.set_cons_succ, Nat.reduceAdd]
    refine Steps.held ?_ ?_
    · intro L v w' hJ
      have X0 := Lib.hid (show F64 w' (v 7) (n) (d) from hJ.out.fact 7 (by kernel_rfl))
      go_wp2_with fail
      with_reducible refine (HDE.out _ _ _ _ X0.out).mono ?_
      rintro e w1 ⟨u, rfl, hu, hb⟩
      go_wp2_with fail
      exact ⟨rfl, rfl, hJ.out.call (by rfl) hb (hu)⟩
    simp only [Act.put, List.setIfInBounds_toArray, List.set_cons_zero, List.set_cons_succ, Nat.reduceAdd]
    refine Steps.held ?_ ?_
    · intro L v w' hJ
      go_wp2_with fail
      exact ⟨rfl, rfl, hJ.out.same (by rfl) (rfl)⟩
    simp only [Act.put, List.setIfInBounds_toArray, List.set_cons_zero, List.set_cons_succ, Nat.reduceAdd]
    refine Steps.held ?_ ?_
    · intro L v w' hJ
      have hv9 : v 9 = .int .i64 k := hJ.out.fact 9 (by kernel_rfl)
      simp only [hv9]
      clear hv9
      go_wp2_with fail
      exact ⟨rfl, rfl, hJ.out.same (by rfl) (rfl)⟩
    simp only [Act.put, List.setIfInBounds_toArray, List.set_cons_zero, List.set_cons_succ, Nat.reduceAdd]
    refine Steps.held ?_ ?_
    · intro L v w' hJ
      have hv10 : v 10 = .int .i64 (j2 : Int) := hJ.out.fact 10 (by kernel_rfl)
      simp only [hv10]
      clear hv10
      have X0 := Lib.hid (show N64 w' (v 8) (d) from hJ.out.fact 8 (by kernel_rfl))
      go_wp2_with fail
      with_reducible refine (HU2.out _ _ X0.out).mono ?_
      rintro e w1 ⟨u, rfl, hu, hb⟩
      go_wp2_with fail
      exact ⟨rfl, rfl, hJ.out.call (by rfl) hb (hu)⟩
    simp only [Act.put, List.setIfInBounds_toArray, List.set_cons_zero, List.set_cons_succ, Nat.reduceAdd]
    refine Steps.held ?_ ?_
    · intro L v w' hJ
      have X0 := Lib.hid (show N64 w' (v 6) (X) from hJ.out.fact 6 (by kernel_rfl))
      have X1 := Lib.hid (show N64 w' (v 11) (Y) from hJ.out.fact 11 (by kernel_rfl))
      go_wp2_with fail
      with_reducible refine (HDV.out _ _ _ X0.out X1.out).mono ?_
      rintro e w1 ⟨q, r, rfl, hq, hr, hb⟩
      go_wp2_with fail
      exact ⟨rfl, rfl, hJ.out.call (by rfl) hb (⟨_, _, _, rfl, hq, hr, rfl⟩)⟩
    simp only [Act.put, List.setIfInBounds_toArray, List.set_cons_zero, List.set_cons_succ, Nat.reduceAdd]
    refine Steps.held ?_ ?_
    · intro L v w' hJ
      go_wp2_with fail
      exact ⟨rfl, rfl, hJ.out.same (by rfl) (hJ.out.fact 12 (by kernel_rfl))⟩
    simp only [Act.put, List.setIfInBounds_toArray, List.set_cons_zero, List.set_cons_succ, Nat.reduceAdd]
    refine Steps.held ?_ ?_
    · intro L v w' hJ
      obtain ⟨x0, x1, x2, hv, h0, h1, h2⟩ := hJ.out.fact 13 (by kernel_rfl)
      simp only [hv]
      clear hv
      go_wp2_with fail
      exact ⟨rfl, rfl, hJ.out.same (by rfl) (h0)⟩
    simp only [Act.put, List.setIfInBounds_toArray, List.set_cons_zero, List.set_cons_succ, Nat.reduceAdd]
    refine Steps.held ?_ ?_
    · intro L v w' hJ
      obtain ⟨x0, x1, x2, hv, h0, h1, h2⟩ := hJ.out.fact 13 (by kernel_rfl)
      simp only [hv]
      clear hv
      go_wp2_with fail
      exact ⟨rfl, rfl, hJ.out.same (by rfl) (h1)⟩
    simp only [Act.put, List.setIfInBounds_toArray, List.set_cons_zero, List.set_cons_succ, Nat.reduceAdd]
    refine Steps.held ?_ ?_
    · intro L v w' hJ
      obtain ⟨x0, x1, x2, hv, h0, h1, h2⟩ := hJ.out.fact 13 (by kernel_rfl)
      simp only [hv]
      clear hv
      go_wp2_with fail
      exact ⟨rfl, rfl, hJ.out.same (by rfl) (h2)⟩
    simp only [Act.put, List.setIfInBounds_toArray, List.set_cons_zero, List.set_cons_succ, Nat.reduceAdd]
    refine Steps.held ?_ ?_
    · intro L v w' hJ
      go_wp2_with fail
      exact ⟨rfl, rfl, hJ.out.made 0 _ rfl rfl (by rfl) trivial⟩
    simp only [Act.put, List.setIfInBounds_toArray, List.set_cons_zero, List.set_cons_succ, Nat.reduceAdd]
    refine Steps.held ?_ ?_
    · intro L v w' hJ
      go_wp2_with fail
      exact ⟨rfl, rfl, hJ.out.made 1 _ rfl rfl (by rfl) trivial⟩
    simp only [Act.put, List.setIfInBounds_toArray, List.set_cons_zero, List.set_cons_succ, Nat.reduceAdd]
    refine Steps.held ?_ ?_
    · intro L v w' hJ
      obtain ⟨g, hg, hge, hown, hst⟩ := hJ.out.newbox 0 _ rfl 17 rfl (by kernel_rfl)
      have hN : N64 w' (v 14) (q) := hJ.out.fact 14 (by kernel_rfl)
      obtain ⟨P, c, hv, h1, h2, h3⟩ := hN
      have HN := Lib.hid (show N64 w' (.agg #[.slice P (wl 64 (q)) c]) (q) from ⟨P, c, rfl, h1, h2, h3⟩)
      have kb := hJ.out.box 0 _ rfl rfl g hown
      have k0 : w'.cell? ⟨g, 0, none⟩ = some (.slice none 0 0) := kb.cell 0
      have f0 := kb.frozen 0
      have HO := Lib.hid hown
      have HS := Lib.hid hst
      clear kb h1 h2 h3 hown hst
      simp only [hg, hv]
      clear hg hv
      go_wp2_with fail
      exact ⟨rfl, rfl, hJ.out.fill1 0 _ rfl rfl (by rfl) g HO.out HS.out _ rfl rfl (fun W k => ⟨P, c, rfl, HN.out.keep k⟩) (fun _ => trivial)⟩
    simp only [Act.put, List.setIfInBounds_toArray, List.set_cons_zero, List.set_cons_succ, Nat.reduceAdd]
    refine Steps.held ?_ ?_
    · intro L v w' hJ
      obtain ⟨g, hg, hge, hown, hst⟩ := hJ.out.newbox 1 _ rfl 18 rfl (by kernel_rfl)
      have hN : N64 w' (v 15) (r) := hJ.out.fact 15 (by kernel_rfl)
      obtain ⟨P, c, hv, h1, h2, h3⟩ := hN
      have HN := Lib.hid (show N64 w' (.agg #[.slice P (wl 64 (r)) c]) (r) from ⟨P, c, rfl, h1, h2, h3⟩)
      have kb := hJ.out.box 1 _ rfl rfl g hown
      have k0 : w'.cell? ⟨g, 0, none⟩ = some (.slice none 0 0) := kb.cell 0
      have f0 := kb.frozen 0
      have HO := Lib.hid hown
      have HS := Lib.hid hst
      clear kb h1 h2 h3 hown hst
      simp only [hg, hv]
      clear hg hv
      go_wp2_with fail
      exact ⟨rfl, rfl, hJ.out.fill1 1 _ rfl rfl (by rfl) g HO.out HS.out _ rfl rfl (fun W k => ⟨P, c, rfl, HN.out.keep k⟩) (fun _ => trivial)⟩
    simp only [Act.put, List.setIfInBounds_toArray, List.set_cons_zero, List.set_cons_succ, Nat.reduceAdd]
    refine Steps.held ?_ ?_
    · intro L v w' hJ
      have hv16 : v 16 = .int .i64 0 := hJ.out.fact 16 (by kernel_rfl)
      simp only [hv16]
      clear hv16
      go_wp2_with fail
      exact ⟨rfl, rfl, hJ.out.same (by rfl) (rfl)⟩
    simp only [Act.put, List.setIfInBounds_toArray, List.set_cons_zero, List.set_cons_succ, Nat.reduceAdd]
    refine Steps.nil ?_
    intro v w' hJ
    obtain ⟨g8, cs17, hv17, hge17, hb17, A17, c17, rfl, hn17⟩ := hJ.end_new 0 _ rfl 17 rfl (by decide) (Nat.le_of_ble_eq_true rfl)
    simp only [hv17]
    have E8 := Lib.hid (show Blk _ _ 26 _ from hb17)
    have NE8 := Lib.hid hn17
    clear hv17 hb17 hn17
    obtain ⟨g9, cs18, hv18, hge18, hb18, A18, c18, rfl, hn18⟩ := hJ.end_new 1 _ rfl 18 rfl (by decide) (Nat.le_of_ble_eq_true rfl)
    simp only [hv18]
    have E9 := Lib.hid (show Blk _ _ 26 _ from hb18)
    have NE9 := Lib.hid hn18
    clear hv18 hb18 hn18
    have h21 : v 21 = .int .i64 0 := hJ.end_fact 21 (by decide)
    simp only [h21]
    clear h21
    have hlt1 := E1.out.lt
    have hbr := hJ.but.below
    replace Ha := Lib.hid (Ha.out.below hbr)
    replace E0 := Lib.hid (blk_below E0.out hbr)
    replace E1 := Lib.hid (blk_below E1.out hbr)
    replace HB0 := Lib.hid (cbt HB0.out hbr)
    clear hJ hbr
    clear hmn hmx hsub hb1 hb2 hk1 hk2 hD hj1
    go_wp2_with fail
    let FS : List Kept1 := [.n (q), .n (r), .eq (.bool true), .eq (.bool false), .any, .eq (.bool false)]
    let BS : List Bx := [Bx.nat (.inr (w.heap.size + 1)) 4 #[(.slice none 0 0)] (q)]
    refine region_mono (Held w' (fun j => FS.getD j .any) BS) (by kernel_rfl) (by kernel_rfl) (by kernel_rfl) (Held.start _ _ _ (by simp [BS, Bx.nat, Bx.rat, Bx.ref] <;> exact E1.out) (by simp [BS, Bx.nat, Bx.rat, Bx.ref])) ?_
    refine Steps.held ?_ ?_
    · intro L v w' hJ
      have kb := hJ.out.blk E8.out (by simp [oldsOf, BS, Bx.nat, Bx.rat, Bx.ref] <;> omega)
      have k0 := kb.cell 0
      clear kb
      go_wp2_with fail
      exact ⟨rfl, rfl, hJ.out.same (by rfl) (NE8.out.keep hJ.out.held.keep)⟩
    simp only [Act.put, List.setIfInBounds_toArray, List.set_cons_zero, List.set_cons_succ, Nat.reduceAdd]
    refine Steps.held ?_ ?_
    · intro L v w' hJ
      have kb := hJ.out.blk E9.out (by simp [oldsOf, BS, Bx.nat, Bx.rat, Bx.ref] <;> omega)
      have k0 := kb.cell 0
      clear kb
      go_wp2_with fail
      exact ⟨rfl, rfl, hJ.out.same (by rfl) (NE9.out.keep hJ.out.held.keep)⟩
    simp only [Act.put, List.setIfInBounds_toArray, List.set_cons_zero, List.set_cons_succ, Nat.reduceAdd]
    refine Steps.held ?_ ?_
    · intro L v w' hJ
      have X0 := Lib.hid (show N64 w' (v 1) (r) from hJ.out.fact 1 (by kernel_rfl))
      go_wp2_with fail
      with_reducible refine (HZ.out _ _ X0.out).mono ?_
      rintro e w1 ⟨rfl, hb⟩
      go_wp2_with fail
      exact ⟨rfl, rfl, hJ.out.call (by rfl) hb (rfl)⟩
    simp only [Act.put, List.setIfInBounds_toArray, List.set_cons_zero, List.set_cons_succ, Nat.reduceAdd]
    refine Steps.held ?_ ?_
    · intro L v w' hJ
      have hv2 : v 2 = .bool true := hJ.out.fact 2 (by kernel_rfl)
      simp only [hv2]
      clear hv2
      go_wp2_with fail
      exact ⟨rfl, rfl, hJ.out.same (by rfl) (rfl)⟩
    simp only [Act.put, List.setIfInBounds_toArray, List.set_cons_zero, List.set_cons_succ, Nat.reduceAdd]
    refine Steps.held ?_ ?_
    · intro L v w' hJ
      obtain ⟨hown, hst⟩ := hJ.out.oldbox 0 _ rfl (w.heap.size + 1) rfl
      have hN : N64 w' (v 0) (q) := hJ.out.fact 0 (by kernel_rfl)
      obtain ⟨P, c, hv, h1, h2, h3⟩ := hN
      have HN := Lib.hid (show N64 w' (.agg #[.slice P (wl 64 (q)) c]) (q) from ⟨P, c, rfl, h1, h2, h3⟩)
      have kb := hJ.out.box 0 _ rfl rfl (w.heap.size + 1) hown
      have k0 : w'.cell? ⟨(w.heap.size + 1), 0, none⟩ = some ((.slice none 0 0)) := kb.cell 0
      have f0 := kb.frozen 0
      have HO := Lib.hid hown
      have HS := Lib.hid hst
      clear kb h1 h2 h3 hown hst
      simp only [hv]
      clear hv
      go_wp2_with fail
      exact ⟨rfl, rfl, hJ.out.fill1 0 _ rfl rfl (by rfl) (w.heap.size + 1) HO.out HS.out _ rfl rfl (fun W k => ⟨P, c, rfl, HN.out.keep k⟩) (fun _ => trivial)⟩
    simp only [Act.put, List.setIfInBounds_toArray, List.set_cons_zero, List.set_cons_succ, Nat.reduceAdd]
    refine Steps.held ?_ ?_
    · intro L v w' hJ
      have hv3 : v 3 = .bool false := hJ.out.fact 3 (by kernel_rfl)
      simp only [hv3]
      clear hv3
      go_wp2_with fail
      exact ⟨rfl, rfl, hJ.out.same (by rfl) (rfl)⟩
    simp only [Act.put, List.setIfInBounds_toArray, List.set_cons_zero, List.set_cons_succ, Nat.reduceAdd]
    refine Steps.nil ?_
    intro v w' hJ
    obtain ⟨cs, hblk, hf⟩ := hJ.end_old 0 _ rfl (w.heap.size + 1) rfl (Nat.le_of_ble_eq_true rfl)
    obtain ⟨A1, c1, rfl, hN⟩ := hf
    have k0 := hblk.cell 0
    have h5 : v 5 = .bool false := hJ.end_fact 5 (by decide)
    simp only [h5]
    have hbw : Below w.heap.size w w' := hJ.but.to_below HB0.out HB0.out.size (by intro g hg; simp [oldsOf, BS, Bx.nat, Bx.rat, Bx.ref] at hg; subst hg; omega)
    have HX := Lib.hid (show ∃ v, Ending.returned (.tuple #[.agg #[.slice A1 (wl 64 q) c1], .bool false]) = .returned (.tuple #[v, .bool (!true)]) ∧ N64 w' v q ∧ Below w.heap.size w w' from ⟨_, rfl, hN, hbw⟩)
    clear hJ hbw hblk h5 hN
    go_wp2_with fail
    exact bodyPost_ret (v := .tuple #[.agg #[.slice A1 (wl 64 q) c1], .bool false]) (by simp [results, Try.results110, go_sem, k0]) rfl HX.out
  · have HZ := Lib.hid (fun v W h => zero_no v r W h (Nat.pos_of_ne_zero hr0))
    rw [decide_eq_false hr0]
    clear hr0
    have e0 := (Blk.new (w) 47 #[(.slice Pa pa ca), (.slice Qa qa ea)]).alloc (.cells #[(.slice none 0 0)] 26)
    have e1 := Blk.new ((w).alloc (.cells #[(.slice Pa pa ca), (.slice Qa qa ea)] 47)) 26 #[(.slice none 0 0)]
    have hb := cba (cba (Below.refl _ w) (.cells #[(.slice Pa pa ca), (.slice Qa qa ea)] 47)) (.cells #[(.slice none 0 0)] 26)
    simp only [World.size_alloc] at e1
    have hsz : w.heap.size ≤ w.heap.size := Nat.le_refl _
    go_enter Try.func110, Try.ntmps110
    go_upto_region 1 with (fail)
    obtain ⟨S, hS⟩ : ∃ S, ((w).alloc (.cells #[(.slice Pa pa ca), (.slice Qa qa ea)] 47)).alloc (.cells #[(.slice none 0 0)] 26) = S := ⟨_, rfl⟩
    rw [hS] at e0 e1 hb ⊢
    replace Ha := Lib.hid (Ha.out.below hb)
    have HB0 := Lib.hid hb
    have E0 := Lib.hid e0
    have E1 := Lib.hid e1
    clear hS hb hsz e0 e1
    go_wp2_with fail
    let FS : List Kept1 := [.f (n) (d), .n (n), .eq (.int .i64 (D : Int)), .eq (.int .i64 k), .eq (.int .i64 kmn), .eq (.int .i64 (j1 : Int)), .n (X), .f (n) (d), .n (d), .eq (.int .i64 k), .eq (.int .i64 (j2 : Int)), .n (Y), .three (.n (q)) (.n (r)) (.eq (.int .i64 0)), .three (.n (q)) (.n (r)) (.eq (.int .i64 0)), .n (q), .n (r), .eq (.int .i64 0), .any, .any, .any, .any, .eq (.int .i64 0)]
    let BS : List Bx := [Bx.nat (.inl 17) 19 #[.slice none 0 0] (q), Bx.nat (.inl 18) 20 #[.slice none 0 0] (r)]
    refine region_mono (Held S (fun j => FS.getD j .any) BS) (by kernel_rfl) (by kernel_rfl) (by kernel_rfl) (Held.start _ _ _ (by simp [BS, Bx.nat, Bx.rat, Bx.ref]) (by simp [BS, Bx.nat, Bx.rat, Bx.ref])) ?_
    refine Steps.held ?_ ?_
    · intro L v w' hJ
      have kb := hJ.out.blk E0.out (by simp [oldsOf, BS, Bx.nat, Bx.rat, Bx.ref])
      have k0 := kb.cell 0
      have k1 := kb.cell 1
      clear kb
      go_wp2_with fail
      exact ⟨rfl, rfl, hJ.out.same (by rfl) (Ha.out.keep hJ.out.held.keep)⟩
    simp only [Act.put, List.setIfInBounds_toArray, List.set_cons_zero, List.set_cons_succ, Nat.reduceAdd]
    refine Steps.held ?_ ?_
    · intro L v w' hJ
      have X0 := Lib.hid (show F64 w' (v 0) (n) (d) from hJ.out.fact 0 (by kernel_rfl))
      go_wp2_with fail
      with_reducible refine (HNU.out _ _ _ _ X0.out).mono ?_
      rintro e w1 ⟨u, rfl, hu, hb⟩
      go_wp2_with fail
      exact ⟨rfl, rfl, hJ.out.call (by rfl) hb (hu)⟩
    simp only [Act.put, List.setIfInBounds_toArray, List.set_cons_zero, List.set_cons_succ, Nat.reduceAdd]
    refine Steps.held ?_ ?_
    · intro L v w' hJ
      go_wp2_with fail
      exact ⟨rfl, rfl, hJ.out.same (by rfl) (rfl)⟩
    simp only [Act.put, List.setIfInBounds_toArray, List.set_cons_zero, List.set_cons_succ, Nat.reduceAdd]
    refine Steps.held ?_ ?_
    · intro L v w' hJ
      go_wp2_with fail
      exact ⟨rfl, rfl, hJ.out.same (by rfl) (rfl)⟩
    simp only [Act.put, List.setIfInBounds_toArray, List.set_cons_zero, List.set_cons_succ, Nat.reduceAdd]
    refine Steps.held ?_ ?_
    · intro L v w' hJ
      have hv3 : v 3 = .int .i64 k := hJ.out.fact 3 (by kernel_rfl)
      simp only [hv3]
      clear hv3
      go_wp2_with fail
      exact ⟨rfl, rfl, hJ.out.same (by rfl) (rfl)⟩
    simp only [Act.put, List.setIfInBounds_toArray, List.set_cons_zero, List.set_cons_succ, Nat.reduceAdd]
    refine Steps.held ?_ ?_
    · intro L v w' hJ
      have hv2 : v 2 = .int .i64 (D : Int) := hJ.out.fact 2 (by kernel_rfl)
      simp only [hv2]
      clear hv2
      have hv4 : v 4 = .int .i64 kmn := hJ.out.fact 4 (by kernel_rfl)
      simp only [hv4]
      clear hv4
      go_wp2_with fail
      exact ⟨rfl, rfl, hJ.out.same (by rfl) (rfl)⟩
    simp only [Act.put, List.setIfInBounds_toArray, List.set_cons_zero, List.set_cons_succ, Nat.reduceAdd]
    refine Steps.held ?_ ?_
    · intro L v w' hJ
      have hv5 : v 5 = .int .i64 (j1 : Int) := hJ.out.fact 5 (by kernel_rfl)
      simp only [hv5]
      clear hv5
      have X0 := Lib.hid (show N64 w' (v 1) (n) from hJ.out.fact 1 (by kernel_rfl))
      go_wp2_with fail
      with_reducible refine (HU1.out _ _ X0.out).mono ?_
      rintro e w1 ⟨u, rfl, hu, hb⟩
      go_wp2_with fail
      exact ⟨rfl, rfl, hJ.out.call (by rfl) hb (hu)⟩
    simp only [Act.put, List.setIfInBounds_toArray, List.set_cons_zero, List.set_cons_succ, Nat.reduceAdd]
    refine Steps.held ?_ ?_
    · intro L v w' hJ
      have kb := hJ.out.blk E0.out (by simp [oldsOf, BS, Bx.nat, Bx.rat, Bx.ref])
      have k0 := kb.cell 0
      have k1 := kb.cell 1
      clear kb
      go_wp2_with fail
      exact ⟨rfl, rfl, hJ.out.same (by rfl) (Ha.out.keep hJ.out.held.keep)⟩
    simp only [Act.put, List.setIfInBounds_toArray, List.set_cons_zero, List.set_cons_succ, Nat.reduceAdd]
    refine Steps.held ?_ ?_
    · intro L v w' hJ
      have X0 := Lib.hid (show F64 w' (v 7) (n) (d) from hJ.out.fact 7 (by kernel_rfl))
      go_wp2_with fail
      with_reducible refine (HDE.out _ _ _ _ X0.out).mono ?_
      rintro e w1 ⟨u, rfl, hu, hb⟩
      go_wp2_with fail
      exact ⟨rfl, rfl, hJ.out.call (by rfl) hb (hu)⟩
    simp only [Act.put, List.setIfInBounds_toArray, List.set_cons_zero, List.set_cons_succ, Nat.reduceAdd]
    refine Steps.held ?_ ?_
    · intro L v w' hJ
      go_wp2_with fail
      exact ⟨rfl, rfl, hJ.out.same (by rfl) (rfl)⟩
    simp only [Act.put, List.setIfInBounds_toArray, List.set_cons_zero, List.set_cons_succ, Nat.reduceAdd]
    refine Steps.held ?_ ?_
    · intro L v w' hJ
      have hv9 : v 9 = .int .i64 k := hJ.out.fact 9 (by kernel_rfl)
      simp only [hv9]
      clear hv9
      go_wp2_with fail
      exact ⟨rfl, rfl, hJ.out.same (by rfl) (rfl)⟩
    simp only [Act.put, List.setIfInBounds_toArray, List.set_cons_zero, List.set_cons_succ, Nat.reduceAdd]
    refine Steps.held ?_ ?_
    · intro L v w' hJ
      have hv10 : v 10 = .int .i64 (j2 : Int) := hJ.out.fact 10 (by kernel_rfl)
      simp only [hv10]
      clear hv10
      have X0 := Lib.hid (show N64 w' (v 8) (d) from hJ.out.fact 8 (by kernel_rfl))
      go_wp2_with fail
      with_reducible refine (HU2.out _ _ X0.out).mono ?_
      rintro e w1 ⟨u, rfl, hu, hb⟩
      go_wp2_with fail
      exact ⟨rfl, rfl, hJ.out.call (by rfl) hb (hu)⟩
    simp only [Act.put, List.setIfInBounds_toArray, List.set_cons_zero, List.set_cons_succ, Nat.reduceAdd]
    refine Steps.held ?_ ?_
    · intro L v w' hJ
      have X0 := Lib.hid (show N64 w' (v 6) (X) from hJ.out.fact 6 (by kernel_rfl))
      have X1 := Lib.hid (show N64 w' (v 11) (Y) from hJ.out.fact 11 (by kernel_rfl))
      go_wp2_with fail
      with_reducible refine (HDV.out _ _ _ X0.out X1.out).mono ?_
      rintro e w1 ⟨q, r, rfl, hq, hr, hb⟩
      go_wp2_with fail
      exact ⟨rfl, rfl, hJ.out.call (by rfl) hb (⟨_, _, _, rfl, hq, hr, rfl⟩)⟩
    simp only [Act.put, List.setIfInBounds_toArray, List.set_cons_zero, List.set_cons_succ, Nat.reduceAdd]
    refine Steps.held ?_ ?_
    · intro L v w' hJ
      go_wp2_with fail
      exact ⟨rfl, rfl, hJ.out.same (by rfl) (hJ.out.fact 12 (by kernel_rfl))⟩
    simp only [Act.put, List.setIfInBounds_toArray, List.set_cons_zero, List.set_cons_succ, Nat.reduceAdd]
    refine Steps.held ?_ ?_
    · intro L v w' hJ
      obtain ⟨x0, x1, x2, hv, h0, h1, h2⟩ := hJ.out.fact 13 (by kernel_rfl)
      simp only [hv]
      clear hv
      go_wp2_with fail
      exact ⟨rfl, rfl, hJ.out.same (by rfl) (h0)⟩
    simp only [Act.put, List.setIfInBounds_toArray, List.set_cons_zero, List.set_cons_succ, Nat.reduceAdd]
    refine Steps.held ?_ ?_
    · intro L v w' hJ
      obtain ⟨x0, x1, x2, hv, h0, h1, h2⟩ := hJ.out.fact 13 (by kernel_rfl)
      simp only [hv]
      clear hv
      go_wp2_with fail
      exact ⟨rfl, rfl, hJ.out.same (by rfl) (h1)⟩
    simp only [Act.put, List.setIfInBounds_toArray, List.set_cons_zero, List.set_cons_succ, Nat.reduceAdd]
    refine Steps.held ?_ ?_
    · intro L v w' hJ
      obtain ⟨x0, x1, x2, hv, h0, h1, h2⟩ := hJ.out.fact 13 (by kernel_rfl)
      simp only [hv]
      clear hv
      go_wp2_with fail
      exact ⟨rfl, rfl, hJ.out.same (by rfl) (h2)⟩
    simp only [Act.put, List.setIfInBounds_toArray, List.set_cons_zero, List.set_cons_succ, Nat.reduceAdd]
    refine Steps.held ?_ ?_
    · intro L v w' hJ
      go_wp2_with fail
      exact ⟨rfl, rfl, hJ.out.made 0 _ rfl rfl (by rfl) trivial⟩
    simp only [Act.put, List.setIfInBounds_toArray, List.set_cons_zero, List.set_cons_succ, Nat.reduceAdd]
    refine Steps.held ?_ ?_
    · intro L v w' hJ
      go_wp2_with fail
      exact ⟨rfl, rfl, hJ.out.made 1 _ rfl rfl (by rfl) trivial⟩
    simp only [Act.put, List.setIfInBounds_toArray, List.set_cons_zero, List.set_cons_succ, Nat.reduceAdd]
    refine Steps.held ?_ ?_
    · intro L v w' hJ
      obtain ⟨g, hg, hge, hown, hst⟩ := hJ.out.newbox 0 _ rfl 17 rfl (by kernel_rfl)
      have hN : N64 w' (v 14) (q) := hJ.out.fact 14 (by kernel_rfl)
      obtain ⟨P, c, hv, h1, h2, h3⟩ := hN
      have HN := Lib.hid (show N64 w' (.agg #[.slice P (wl 64 (q)) c]) (q) from ⟨P, c, rfl, h1, h2, h3⟩)
      have kb := hJ.out.box 0 _ rfl rfl g hown
      have k0 : w'.cell? ⟨g, 0, none⟩ = some (.slice none 0 0) := kb.cell 0
      have f0 := kb.frozen 0
      have HO := Lib.hid hown
      have HS := Lib.hid hst
      clear kb h1 h2 h3 hown hst
      simp only [hg, hv]
      clear hg hv
      go_wp2_with fail
      exact ⟨rfl, rfl, hJ.out.fill1 0 _ rfl rfl (by rfl) g HO.out HS.out _ rfl rfl (fun W k => ⟨P, c, rfl, HN.out.keep k⟩) (fun _ => trivial)⟩
    simp only [Act.put, List.setIfInBounds_toArray, List.set_cons_zero, List.set_cons_succ, Nat.reduceAdd]
    refine Steps.held ?_ ?_
    · intro L v w' hJ
      obtain ⟨g, hg, hge, hown, hst⟩ := hJ.out.newbox 1 _ rfl 18 rfl (by kernel_rfl)
      have hN : N64 w' (v 15) (r) := hJ.out.fact 15 (by kernel_rfl)
      obtain ⟨P, c, hv, h1, h2, h3⟩ := hN
      have HN := Lib.hid (show N64 w' (.agg #[.slice P (wl 64 (r)) c]) (r) from ⟨P, c, rfl, h1, h2, h3⟩)
      have kb := hJ.out.box 1 _ rfl rfl g hown
      have k0 : w'.cell? ⟨g, 0, none⟩ = some (.slice none 0 0) := kb.cell 0
      have f0 := kb.frozen 0
      have HO := Lib.hid hown
      have HS := Lib.hid hst
      clear kb h1 h2 h3 hown hst
      simp only [hg, hv]
      clear hg hv
      go_wp2_with fail
      exact ⟨rfl, rfl, hJ.out.fill1 1 _ rfl rfl (by rfl) g HO.out HS.out _ rfl rfl (fun W k => ⟨P, c, rfl, HN.out.keep k⟩) (fun _ => trivial)⟩
    simp only [Act.put, List.setIfInBounds_toArray, List.set_cons_zero, List.set_cons_succ, Nat.reduceAdd]
    refine Steps.held ?_ ?_
    · intro L v w' hJ
      have hv16 : v 16 = .int .i64 0 := hJ.out.fact 16 (by kernel_rfl)
      simp only [hv16]
      clear hv16
      go_wp2_with fail
      exact ⟨rfl, rfl, hJ.out.same (by rfl) (rfl)⟩
    simp only [Act.put, List.setIfInBounds_toArray, List.set_cons_zero, List.set_cons_succ, Nat.reduceAdd]
    refine Steps.nil ?_
    intro v w' hJ
    obtain ⟨g8, cs17, hv17, hge17, hb17, A17, c17, rfl, hn17⟩ := hJ.end_new 0 _ rfl 17 rfl (by decide) (Nat.le_of_ble_eq_true rfl)
    simp only [hv17]
    have E8 := Lib.hid (show Blk _ _ 26 _ from hb17)
    have NE8 := Lib.hid hn17
    clear hv17 hb17 hn17
    obtain ⟨g9, cs18, hv18, hge18, hb18, A18, c18, rfl, hn18⟩ := hJ.end_new 1 _ rfl 18 rfl (by decide) (Nat.le_of_ble_eq_true rfl)
    simp only [hv18]
    have E9 := Lib.hid (show Blk _ _ 26 _ from hb18)
    have NE9 := Lib.hid hn18
    clear hv18 hb18 hn18
    have h21 : v 21 = .int .i64 0 := hJ.end_fact 21 (by decide)
    simp only [h21]
    clear h21
    have hlt1 := E1.out.lt
    have hbr := hJ.but.below
    replace Ha := Lib.hid (Ha.out.below hbr)
    replace E0 := Lib.hid (blk_below E0.out hbr)
    replace E1 := Lib.hid (blk_below E1.out hbr)
    replace HB0 := Lib.hid (cbt HB0.out hbr)
    clear hJ hbr
    clear hmn hmx hsub hb1 hb2 hk1 hk2 hD hj1
    go_wp2_with fail
    let FS : List Kept1 := [.n (q), .n (r), .eq (.bool false), .eq (.bool true), .any, .eq (.bool true)]
    let BS : List Bx := [Bx.nat (.inr (w.heap.size + 1)) 4 #[(.slice none 0 0)] (q)]
    refine region_mono (Held w' (fun j => FS.getD j .any) BS) (by kernel_rfl) (by kernel_rfl) (by kernel_rfl) (Held.start _ _ _ (by simp [BS, Bx.nat, Bx.rat, Bx.ref] <;> exact E1.out) (by simp [BS, Bx.nat, Bx.rat, Bx.ref])) ?_
    refine Steps.held ?_ ?_
    · intro L v w' hJ
      have kb := hJ.out.blk E8.out (by simp [oldsOf, BS, Bx.nat, Bx.rat, Bx.ref] <;> omega)
      have k0 := kb.cell 0
      clear kb
      go_wp2_with fail
      exact ⟨rfl, rfl, hJ.out.same (by rfl) (NE8.out.keep hJ.out.held.keep)⟩
    simp only [Act.put, List.setIfInBounds_toArray, List.set_cons_zero, List.set_cons_succ, Nat.reduceAdd]
    refine Steps.held ?_ ?_
    · intro L v w' hJ
      have kb := hJ.out.blk E9.out (by simp [oldsOf, BS, Bx.nat, Bx.rat, Bx.ref] <;> omega)
      have k0 := kb.cell 0
      clear kb
      go_wp2_with fail
      exact ⟨rfl, rfl, hJ.out.same (by rfl) (NE9.out.keep hJ.out.held.keep)⟩
    simp only [Act.put, List.setIfInBounds_toArray, List.set_cons_zero, List.set_cons_succ, Nat.reduceAdd]
    refine Steps.held ?_ ?_
    · intro L v w' hJ
      have X0 := Lib.hid (show N64 w' (v 1) (r) from hJ.out.fact 1 (by kernel_rfl))
      go_wp2_with fail
      with_reducible refine (HZ.out _ _ X0.out).mono ?_
      rintro e w1 ⟨rfl, hb⟩
      go_wp2_with fail
      exact ⟨rfl, rfl, hJ.out.call (by rfl) hb (rfl)⟩
    simp only [Act.put, List.setIfInBounds_toArray, List.set_cons_zero, List.set_cons_succ, Nat.reduceAdd]
    refine Steps.held ?_ ?_
    · intro L v w' hJ
      have hv2 : v 2 = .bool false := hJ.out.fact 2 (by kernel_rfl)
      simp only [hv2]
      clear hv2
      go_wp2_with fail
      exact ⟨rfl, rfl, hJ.out.same (by rfl) (rfl)⟩
    simp only [Act.put, List.setIfInBounds_toArray, List.set_cons_zero, List.set_cons_succ, Nat.reduceAdd]
    refine Steps.held ?_ ?_
    · intro L v w' hJ
      obtain ⟨hown, hst⟩ := hJ.out.oldbox 0 _ rfl (w.heap.size + 1) rfl
      have hN : N64 w' (v 0) (q) := hJ.out.fact 0 (by kernel_rfl)
      obtain ⟨P, c, hv, h1, h2, h3⟩ := hN
      have HN := Lib.hid (show N64 w' (.agg #[.slice P (wl 64 (q)) c]) (q) from ⟨P, c, rfl, h1, h2, h3⟩)
      have kb := hJ.out.box 0 _ rfl rfl (w.heap.size + 1) hown
      have k0 : w'.cell? ⟨(w.heap.size + 1), 0, none⟩ = some ((.slice none 0 0)) := kb.cell 0
      have f0 := kb.frozen 0
      have HO := Lib.hid hown
      have HS := Lib.hid hst
      clear kb h1 h2 h3 hown hst
      simp only [hv]
      clear hv
      go_wp2_with fail
      exact ⟨rfl, rfl, hJ.out.fill1 0 _ rfl rfl (by rfl) (w.heap.size + 1) HO.out HS.out _ rfl rfl (fun W k => ⟨P, c, rfl, HN.out.keep k⟩) (fun _ => trivial)⟩
    simp only [Act.put, List.setIfInBounds_toArray, List.set_cons_zero, List.set_cons_succ, Nat.reduceAdd]
    refine Steps.held ?_ ?_
    · intro L v w' hJ
      have hv3 : v 3 = .bool true := hJ.out.fact 3 (by kernel_rfl)
      simp only [hv3]
      clear hv3
      go_wp2_with fail
      exact ⟨rfl, rfl, hJ.out.same (by rfl) (rfl)⟩
    simp only [Act.put, List.setIfInBounds_toArray, List.set_cons_zero, List.set_cons_succ, Nat.reduceAdd]
    refine Steps.nil ?_
    intro v w' hJ
    obtain ⟨cs, hblk, hf⟩ := hJ.end_old 0 _ rfl (w.heap.size + 1) rfl (Nat.le_of_ble_eq_true rfl)
    obtain ⟨A1, c1, rfl, hN⟩ := hf
    have k0 := hblk.cell 0
    have h5 : v 5 = .bool true := hJ.end_fact 5 (by decide)
    simp only [h5]
    have hbw : Below w.heap.size w w' := hJ.but.to_below HB0.out HB0.out.size (by intro g hg; simp [oldsOf, BS, Bx.nat, Bx.rat, Bx.ref] at hg; subst hg; omega)
    have HX := Lib.hid (show ∃ v, Ending.returned (.tuple #[.agg #[.slice A1 (wl 64 q) c1], .bool true]) = .returned (.tuple #[v, .bool (!false)]) ∧ N64 w' v q ∧ Below w.heap.size w w' from ⟨_, rfl, hN, hbw⟩)
    clear hJ hbw hblk h5 hN
    go_wp2_with fail
    exact bodyPost_ret (v := .tuple #[.agg #[.slice A1 (wl 64 q) c1], .bool true]) (by simp [results, Try.results110, go_sem, k0]) rfl HX.out
set_option maxRecDepth 100000 in
set_option maxHeartbeats 4000000 in
theorem lhalf_any (va : Value) (a j : Nat) (w : World) (ha : N64 w va a) (hwa : wl 64 a ≤ 500000000) (hj : j ≤ 300000000) : Calls Try.prog 111 #[va, .int .i64 (j : Nat)] w (Mk64 w (ceilD a j)) := by
  have HA := Lib.hid ha
  obtain ⟨A, ca, rfl, _, _, _⟩ := ha
  have HDN := Lib.hid (fun v W h => ndown_any v a W h (by omega) (j : Int) (by omega))
  rw [Int.toNat_natCast] at HDN
  have hqw : wl 64 (a / 2 ^ j) ≤ 500000000 := wl_div_le (by decide) hwa
  have hle := Nat.div_mul_le_self a (2 ^ j)
  have hqw2 : wl 64 (a / 2 ^ j * 2 ^ j) ≤ 500000000 := Nat.le_trans (wl_mono (by decide) hle) hwa
  have HUP := Lib.hid (fun v W h => nup_any v (a / 2 ^ j) W h (by omega) (j : Int) (by omega))
  rw [Int.toNat_natCast] at HUP
  have HCM := Lib.hid (fun va vb W h1 h2 => ncmp_any va vb (a / 2 ^ j * 2 ^ j) a W h1 h2)
  have w1l : wl 64 1 ≤ 1 := w64_lit (by decide)
  have HAD := Lib.hid (fun va vb W h1 h2 => nadd_any va vb (a / 2 ^ j) 1 W h1 h2 (by omega) (by omega))
  have HON : Hid (∀ W, Calls Try.prog 50 #[.int .u64 1] W (fun e w' => ∃ v, e = .returned v ∧ N64 w' v 1 ∧ Below W.heap.size W w')) := Lib.hid (fun W => of_any 1 (by decide) W)
  have HCE : Hid (ceilD a j = if a / 2 ^ j * 2 ^ j < a then a / 2 ^ j + 1 else a / 2 ^ j) := Lib.hid rfl
  obtain ⟨q, hq⟩ : ∃ q, a / 2 ^ j = q := ⟨_, rfl⟩
  rw [hq] at HDN HUP HCM HAD HCE
  obtain ⟨u, hu0⟩ : ∃ u, q * 2 ^ j = u := ⟨_, rfl⟩
  rw [hu0] at HUP HCM HCE
  clear hwa hqw hle hqw2 w1l hq hu0
  by_cases hlt : u < a
  · have HC2 := Lib.hid (show ceilD a j = q + 1 by rw [HCE.out, if_pos hlt])
    rw [HC2.out]
    rw [cmpN_lt hlt] at HCM
    clear hlt HCE HC2
    have e0 := (Blk.new (w) 26 #[(.slice A (wl 64 a) ca)]).alloc (.cells #[(.slice none 0 0)] 26)
    have e1 := Blk.new ((w).alloc (.cells #[(.slice A (wl 64 a) ca)] 26)) 26 #[(.slice none 0 0)]
    have hb := cba (cba (Below.refl _ w) (.cells #[(.slice A (wl 64 a) ca)] 26)) (.cells #[(.slice none 0 0)] 26)
    simp only [World.size_alloc] at e1
    have hsz : w.heap.size ≤ w.heap.size := Nat.le_refl _
    go_enter Try.func111, Try.ntmps111
    go_upto_region 1 with (fail)
    obtain ⟨S, hS⟩ : ∃ S, ((w).alloc (.cells #[(.slice A (wl 64 a) ca)] 26)).alloc (.cells #[(.slice none 0 0)] 26) = S := ⟨_, rfl⟩
    rw [hS] at e0 e1 hb ⊢
    replace HA := Lib.hid (HA.out.below hb)
    have HB0 := Lib.hid hb
    have E0 := Lib.hid e0
    have E1 := Lib.hid e1
    clear hS hb hsz e0 e1
    have k_E0_0 := E0.out.cell 0
    have k_E1_0 := E1.out.cell 0
    go_wp2_with fail
    with_reducible refine (HDN.out _ _ HA.out).mono ?_
    rintro e w1 ⟨u5, rfl, hu, hb⟩
    clear k_E0_0 k_E1_0
    replace HA := Lib.hid (HA.out.below hb)
    replace E0 := Lib.hid (blk_below E0.out hb)
    replace E1 := Lib.hid (blk_below E1.out hb)
    replace HB0 := Lib.hid (cbt HB0.out hb)
    have NQ := Lib.hid hu
    clear hb hu
    have k_E0_0 := E0.out.cell 0
    have k_E1_0 := E1.out.cell 0
    have hlt1 := E1.out.lt
    have Z0 := NQ.out
    obtain ⟨PT0, cpT0, rfl, _, _, _⟩ := Z0
    have e5 := Blk.new w1 26 #[.slice PT0 (wl 64 (q)) cpT0]
    have hb := cba (Below.refl _ w1) (.cells #[.slice PT0 (wl 64 (q)) cpT0] 26)
    go_upto_region 2 with (fail)
    obtain ⟨T, hS⟩ : ∃ S, (w1.alloc (.cells #[.slice PT0 (wl 64 (q)) cpT0] 26)) = S := ⟨_, rfl⟩
    rw [hS] at e5 hb ⊢
    obtain ⟨g5, hg⟩ : ∃ g, w1.heap.size = g := ⟨_, rfl⟩
    rw [hg] at e5 hlt1
    simp only [hg]
    replace HA := Lib.hid (HA.out.below hb)
    replace NQ := Lib.hid (NQ.out.below hb)
    replace E0 := Lib.hid (blk_below E0.out hb)
    replace E1 := Lib.hid (blk_below E1.out hb)
    replace HB0 := Lib.hid (cbt HB0.out hb)
    have E5 := Lib.hid e5
    clear hS hg hb e5 k_E0_0 k_E1_0
    let FS : List Kept1 := [.n (q), .eq (.int .i64 (j : Int)), .n (u), .n (a), .eq (.int .i64 (-1)), .eq (.bool true)]
    refine region_mono (Held T (fun j => FS.getD j .any) []) (by kernel_rfl) (by kernel_rfl) (by kernel_rfl) (Held.start _ _ _ (by simp) (by simp)) ?_
    refine Steps.held ?_ ?_
    · intro L v w' hJ
      have kb := hJ.out.blk E5.out (by simp [oldsOf])
      have k0 := kb.cell 0
      clear kb
      go_wp2_with fail
      exact ⟨rfl, rfl, hJ.out.same (by rfl) (NQ.out.keep hJ.out.held.keep)⟩
    simp only [Act.put, List.setIfInBounds_toArray, List.set_cons_zero, List.set_cons_succ, Nat.reduceAdd]
    refine Steps.held ?_ ?_
    · intro L v w' hJ
      go_wp2_with fail
      exact ⟨rfl, rfl, hJ.out.same (by rfl) (rfl)⟩
    simp only [Act.put, List.setIfInBounds_toArray, List.set_cons_zero, List.set_cons_succ, Nat.reduceAdd]
    refine Steps.held ?_ ?_
    · intro L v w' hJ
      have hv1 : v 1 = .int .i64 (j : Int) := hJ.out.fact 1 (by kernel_rfl)
      simp only [hv1]
      clear hv1
      have X0 := Lib.hid (show N64 w' (v 0) (q) from hJ.out.fact 0 (by kernel_rfl))
      go_wp2_with fail
      with_reducible refine (HUP.out _ _ X0.out).mono ?_
      rintro e w1 ⟨u, rfl, hu, hb⟩
      go_wp2_with fail
      exact ⟨rfl, rfl, hJ.out.call (by rfl) hb (hu)⟩
    simp only [Act.put, List.setIfInBounds_toArray, List.set_cons_zero, List.set_cons_succ, Nat.reduceAdd]
    refine Steps.held ?_ ?_
    · intro L v w' hJ
      have kb := hJ.out.blk E0.out (by simp [oldsOf])
      have k0 := kb.cell 0
      clear kb
      go_wp2_with fail
      exact ⟨rfl, rfl, hJ.out.same (by rfl) (HA.out.keep hJ.out.held.keep)⟩
    simp only [Act.put, List.setIfInBounds_toArray, List.set_cons_zero, List.set_cons_succ, Nat.reduceAdd]
    refine Steps.held ?_ ?_
    · intro L v w' hJ
      have X0 := Lib.hid (show N64 w' (v 2) (u) from hJ.out.fact 2 (by kernel_rfl))
      have X1 := Lib.hid (show N64 w' (v 3) (a) from hJ.out.fact 3 (by kernel_rfl))
      go_wp2_with fail
      with_reducible refine (HCM.out _ _ _ X0.out X1.out).mono ?_
      rintro e w1 ⟨rfl, hb⟩
      go_wp2_with fail
      exact ⟨rfl, rfl, hJ.out.call (by rfl) hb (rfl)⟩
    simp only [Act.put, List.setIfInBounds_toArray, List.set_cons_zero, List.set_cons_succ, Nat.reduceAdd]
    refine Steps.held ?_ ?_
    · intro L v w' hJ
      have hv4 : v 4 = .int .i64 (-1) := hJ.out.fact 4 (by kernel_rfl)
      simp only [hv4]
      clear hv4
      go_wp2_with fail
      exact ⟨rfl, rfl, hJ.out.same (by rfl) (rfl)⟩
    simp only [Act.put, List.setIfInBounds_toArray, List.set_cons_zero, List.set_cons_succ, Nat.reduceAdd]
    refine Steps.nil ?_
    intro v w' hJ
    have h5 : v 5 = .bool true := hJ.end_fact 5 (by decide)
    simp only [h5]
    clear h5
    have hbr := hJ.but.below
    replace NQ := Lib.hid (NQ.out.below hbr)
    replace E1 := Lib.hid (blk_below E1.out hbr)
    replace E5 := Lib.hid (blk_below E5.out hbr)
    replace HB0 := Lib.hid (cbt HB0.out hbr)
    clear hJ hbr
    go_wp2_with fail
    let FS : List Kept1 := [.n (q), .n (1), .n (q + 1), .any]
    let BS : List Bx := [Bx.nat (.inr (w.heap.size + 1)) 3 #[(.slice none 0 0)] (q + 1)]
    refine region_mono (Held w' (fun j => FS.getD j .any) BS) (by kernel_rfl) (by kernel_rfl) (by kernel_rfl) (Held.start _ _ _ (by simp [BS, Bx.nat, Bx.rat, Bx.ref] <;> exact E1.out) (by simp [BS, Bx.nat, Bx.rat, Bx.ref])) ?_
    refine Steps.held ?_ ?_
    · intro L v w' hJ
      have kb := hJ.out.blk E5.out (by simp [oldsOf, BS, Bx.nat, Bx.rat, Bx.ref] <;> omega)
      have k0 := kb.cell 0
      clear kb
      go_wp2_with fail
      exact ⟨rfl, rfl, hJ.out.same (by rfl) (NQ.out.keep hJ.out.held.keep)⟩
    simp only [Act.put, List.setIfInBounds_toArray, List.set_cons_zero, List.set_cons_succ, Nat.reduceAdd]
    refine Steps.held ?_ ?_
    · intro L v w' hJ
      go_wp2_with fail
      with_reducible refine (HON.out _).mono ?_
      rintro e w1 ⟨u, rfl, hu, hb⟩
      go_wp2_with fail
      exact ⟨rfl, rfl, hJ.out.call (by rfl) hb (hu)⟩
    simp only [Act.put, List.setIfInBounds_toArray, List.set_cons_zero, List.set_cons_succ, Nat.reduceAdd]
    refine Steps.held ?_ ?_
    · intro L v w' hJ
      have X0 := Lib.hid (show N64 w' (v 0) (q) from hJ.out.fact 0 (by kernel_rfl))
      have X1 := Lib.hid (show N64 w' (v 1) (1) from hJ.out.fact 1 (by kernel_rfl))
      go_wp2_with fail
      with_reducible refine (HAD.out _ _ _ X0.out X1.out).mono ?_
      rintro e w1 ⟨u, rfl, hu, hb⟩
      go_wp2_with fail
      exact ⟨rfl, rfl, hJ.out.call (by rfl) hb (hu)⟩
    simp only [Act.put, List.setIfInBounds_toArray, List.set_cons_zero, List.set_cons_succ, Nat.reduceAdd]
    refine Steps.held ?_ ?_
    · intro L v w' hJ
      obtain ⟨hown, hst⟩ := hJ.out.oldbox 0 _ rfl (w.heap.size + 1) rfl
      have hN : N64 w' (v 2) (q + 1) := hJ.out.fact 2 (by kernel_rfl)
      obtain ⟨P, c, hv, h1, h2, h3⟩ := hN
      have HN := Lib.hid (show N64 w' (.agg #[.slice P (wl 64 (q + 1)) c]) (q + 1) from ⟨P, c, rfl, h1, h2, h3⟩)
      have kb := hJ.out.box 0 _ rfl rfl (w.heap.size + 1) hown
      have k0 : w'.cell? ⟨(w.heap.size + 1), 0, none⟩ = some ((.slice none 0 0)) := kb.cell 0
      have f0 := kb.frozen 0
      have HO := Lib.hid hown
      have HS := Lib.hid hst
      clear kb h1 h2 h3 hown hst
      simp only [hv]
      clear hv
      go_wp2_with fail
      exact ⟨rfl, rfl, hJ.out.fill1 0 _ rfl rfl (by rfl) (w.heap.size + 1) HO.out HS.out _ rfl rfl (fun W k => ⟨P, c, rfl, HN.out.keep k⟩) (fun _ => trivial)⟩
    simp only [Act.put, List.setIfInBounds_toArray, List.set_cons_zero, List.set_cons_succ, Nat.reduceAdd]
    refine Steps.nil ?_
    intro v w' hJ
    obtain ⟨cs, hblk, hf⟩ := hJ.end_old 0 _ rfl (w.heap.size + 1) rfl (Nat.le_of_ble_eq_true rfl)
    obtain ⟨A1, c1, rfl, hN⟩ := hf
    have k0 := hblk.cell 0
    have hbw : Below w.heap.size w w' := hJ.but.to_below HB0.out HB0.out.size (by intro g hg; simp [oldsOf, BS, Bx.nat, Bx.rat, Bx.ref] at hg; subst hg; omega)
    have HX := Lib.hid (show Mk64 w (q + 1) (.returned (.agg #[.slice A1 (wl 64 (q + 1)) c1])) w' from ⟨_, rfl, hN, hbw⟩)
    clear hJ hbw hblk hN
    go_wp2_with fail
    exact bodyPost_ret (v := .agg #[.slice A1 (wl 64 (q + 1)) c1]) (by simp [results, Try.results111, go_sem, k0]) rfl HX.out
  · have HC2 := Lib.hid (show ceilD a j = q by rw [HCE.out, if_neg hlt])
    rw [HC2.out]
    have hcc : decide (cmpN u a < 0) = false := decide_eq_false (by have := cmpN_ge (x := u) (y := a) (by omega); omega)
    obtain ⟨cc, hce⟩ : ∃ c, cmpN u a = c := ⟨_, rfl⟩
    rw [hce] at HCM hcc
    clear hce
    clear hlt HCE HC2
    have e0 := (Blk.new (w) 26 #[(.slice A (wl 64 a) ca)]).alloc (.cells #[(.slice none 0 0)] 26)
    have e1 := Blk.new ((w).alloc (.cells #[(.slice A (wl 64 a) ca)] 26)) 26 #[(.slice none 0 0)]
    have hb := cba (cba (Below.refl _ w) (.cells #[(.slice A (wl 64 a) ca)] 26)) (.cells #[(.slice none 0 0)] 26)
    simp only [World.size_alloc] at e1
    have hsz : w.heap.size ≤ w.heap.size := Nat.le_refl _
    go_enter Try.func111, Try.ntmps111
    go_upto_region 1 with (fail)
    obtain ⟨S, hS⟩ : ∃ S, ((w).alloc (.cells #[(.slice A (wl 64 a) ca)] 26)).alloc (.cells #[(.slice none 0 0)] 26) = S := ⟨_, rfl⟩
    rw [hS] at e0 e1 hb ⊢
    replace HA := Lib.hid (HA.out.below hb)
    have HB0 := Lib.hid hb
    have E0 := Lib.hid e0
    have E1 := Lib.hid e1
    clear hS hb hsz e0 e1
    have k_E0_0 := E0.out.cell 0
    have k_E1_0 := E1.out.cell 0
    go_wp2_with fail
    with_reducible refine (HDN.out _ _ HA.out).mono ?_
    rintro e w1 ⟨u5, rfl, hu, hb⟩
    clear k_E0_0 k_E1_0
    replace HA := Lib.hid (HA.out.below hb)
    replace E0 := Lib.hid (blk_below E0.out hb)
    replace E1 := Lib.hid (blk_below E1.out hb)
    replace HB0 := Lib.hid (cbt HB0.out hb)
    have NQ := Lib.hid hu
    clear hb hu
    have k_E0_0 := E0.out.cell 0
    have k_E1_0 := E1.out.cell 0
    have hlt1 := E1.out.lt
    have Z0 := NQ.out
    obtain ⟨PT0, cpT0, rfl, _, _, _⟩ := Z0
    have e5 := Blk.new w1 26 #[.slice PT0 (wl 64 (q)) cpT0]
    have hb := cba (Below.refl _ w1) (.cells #[.slice PT0 (wl 64 (q)) cpT0] 26)
    go_upto_region 2 with (fail)
    obtain ⟨T, hS⟩ : ∃ S, (w1.alloc (.cells #[.slice PT0 (wl 64 (q)) cpT0] 26)) = S := ⟨_, rfl⟩
    rw [hS] at e5 hb ⊢
    obtain ⟨g5, hg⟩ : ∃ g, w1.heap.size = g := ⟨_, rfl⟩
    rw [hg] at e5 hlt1
    simp only [hg]
    replace HA := Lib.hid (HA.out.below hb)
    replace NQ := Lib.hid (NQ.out.below hb)
    replace E0 := Lib.hid (blk_below E0.out hb)
    replace E1 := Lib.hid (blk_below E1.out hb)
    replace HB0 := Lib.hid (cbt HB0.out hb)
    have E5 := Lib.hid e5
    clear hS hg hb e5 k_E0_0 k_E1_0
    let FS : List Kept1 := [.n (q), .eq (.int .i64 (j : Int)), .n (u), .n (a), .eq (.int .i64 (cc)), .eq (.bool false)]
    refine region_mono (Held T (fun j => FS.getD j .any) []) (by kernel_rfl) (by kernel_rfl) (by kernel_rfl) (Held.start _ _ _ (by simp) (by simp)) ?_
    refine Steps.held ?_ ?_
    · intro L v w' hJ
      have kb := hJ.out.blk E5.out (by simp [oldsOf])
      have k0 := kb.cell 0
      clear kb
      go_wp2_with fail
      exact ⟨rfl, rfl, hJ.out.same (by rfl) (NQ.out.keep hJ.out.held.keep)⟩
    simp only [Act.put, List.setIfInBounds_toArray, List.set_cons_zero, List.set_cons_succ, Nat.reduceAdd]
    refine Steps.held ?_ ?_
    · intro L v w' hJ
      go_wp2_with fail
      exact ⟨rfl, rfl, hJ.out.same (by rfl) (rfl)⟩
    simp only [Act.put, List.setIfInBounds_toArray, List.set_cons_zero, List.set_cons_succ, Nat.reduceAdd]
    refine Steps.held ?_ ?_
    · intro L v w' hJ
      have hv1 : v 1 = .int .i64 (j : Int) := hJ.out.fact 1 (by kernel_rfl)
      simp only [hv1]
      clear hv1
      have X0 := Lib.hid (show N64 w' (v 0) (q) from hJ.out.fact 0 (by kernel_rfl))
      go_wp2_with fail
      with_reducible refine (HUP.out _ _ X0.out).mono ?_
      rintro e w1 ⟨u, rfl, hu, hb⟩
      go_wp2_with fail
      exact ⟨rfl, rfl, hJ.out.call (by rfl) hb (hu)⟩
    simp only [Act.put, List.setIfInBounds_toArray, List.set_cons_zero, List.set_cons_succ, Nat.reduceAdd]
    refine Steps.held ?_ ?_
    · intro L v w' hJ
      have kb := hJ.out.blk E0.out (by simp [oldsOf])
      have k0 := kb.cell 0
      clear kb
      go_wp2_with fail
      exact ⟨rfl, rfl, hJ.out.same (by rfl) (HA.out.keep hJ.out.held.keep)⟩
    simp only [Act.put, List.setIfInBounds_toArray, List.set_cons_zero, List.set_cons_succ, Nat.reduceAdd]
    refine Steps.held ?_ ?_
    · intro L v w' hJ
      have X0 := Lib.hid (show N64 w' (v 2) (u) from hJ.out.fact 2 (by kernel_rfl))
      have X1 := Lib.hid (show N64 w' (v 3) (a) from hJ.out.fact 3 (by kernel_rfl))
      go_wp2_with fail
      with_reducible refine (HCM.out _ _ _ X0.out X1.out).mono ?_
      rintro e w1 ⟨rfl, hb⟩
      go_wp2_with fail
      exact ⟨rfl, rfl, hJ.out.call (by rfl) hb (rfl)⟩
    simp only [Act.put, List.setIfInBounds_toArray, List.set_cons_zero, List.set_cons_succ, Nat.reduceAdd]
    refine Steps.held ?_ ?_
    · intro L v w' hJ
      have hv4 : v 4 = .int .i64 (cc) := hJ.out.fact 4 (by kernel_rfl)
      simp only [hv4]
      clear hv4
      go_wp2_with fail
      exact ⟨rfl, rfl, hJ.out.same (by rfl) (rfl)⟩
    simp only [Act.put, List.setIfInBounds_toArray, List.set_cons_zero, List.set_cons_succ, Nat.reduceAdd]
    refine Steps.nil ?_
    intro v w' hJ
    have h5 : v 5 = .bool false := hJ.end_fact 5 (by decide)
    simp only [h5]
    clear h5
    have hbr := hJ.but.below
    replace NQ := Lib.hid (NQ.out.below hbr)
    replace E1 := Lib.hid (blk_below E1.out hbr)
    replace E5 := Lib.hid (blk_below E5.out hbr)
    replace HB0 := Lib.hid (cbt HB0.out hbr)
    clear hJ hbr
    have k5 := E5.out.cell 0
    have k1 := E1.out.cell 0
    have f1 := E1.out.frozen 0
    have HX := Lib.hid (show Mk64 w q (.returned (.agg #[.slice PT0 (wl 64 q) cpT0])) (w'.setCell ⟨w.heap.size + 1, 0, none⟩ (.slice PT0 (wl 64 q) cpT0)) from
      ⟨_, rfl, NQ.out.keep (Keep.set E1.out 0 rfl _), HB0.out.setCell (p := ⟨w.heap.size + 1, 0, none⟩) (by simp only []; omega) _⟩)
    go_wp2
    exact bodyPost_ret (v := .agg #[.slice PT0 (wl 64 q) cpT0]) (by simp [results, Try.results111, go_sem, k1]) rfl HX.out
end Go.Proofs.Yteikhnmmkanndaa
namespace Go.Proofs.Yteikhnmmkanndaa
open Go.RowKit Go.Proofs.YteikhnmmkanndaaW.PrintWords
set_option linter.unusedSimpArgs false
set_option linter.unusedVariables false
theorem two_le12 {b : Nat} (h : b ≤ 12) : (0 : Int) < 2 ^ b ∧ (2 : Int) ^ b ≤ 4096 := by
  have h1 : (2 : Nat) ^ b ≤ 2 ^ 12 := Nat.pow_le_pow_right (by decide) h
  have h2 := Nat.two_pow_pos b
  have e : ((2 ^ b : Nat) : Int) = (2 : Int) ^ b := by simp
  omega
theorem mul_bound {k P : Int} (h1 : -20000 ≤ k) (h2 : k ≤ 20000) (h3 : 0 ≤ P) (h4 : P ≤ 4096) : -81920000 ≤ k * P ∧ k * P ≤ 81920000 := by
  have a := Int.mul_le_mul_of_nonneg_right h1 h3
  have b := Int.mul_le_mul_of_nonneg_right h2 h3
  omega
theorem pw_pos {n : Nat} (h : 0 < n) (i : Nat) : 0 < n ^ 2 ^ i := Nat.pow_pos h
theorem NoPow.pw {n d : Nat} (hn : 0 < n) (hd : 0 < d) (h : NoPow n d) : ∀ i, NoPow (n ^ 2 ^ i) (d ^ 2 ^ i)
  | 0 => by rw [Nat.pow_zero, Nat.pow_one, Nat.pow_one]; exact h
  | i + 1 => by
    rw [← pow_sq, ← pow_sq]
    exact (NoPow.pw hn hd h i).sq (pw_pos hn i) (pw_pos hd i)
theorem LogW.exact {n d : Nat} {k : Int} (hd : 0 < d) (h : n * 2 ^ (-k).toNat = d * 2 ^ k.toNat) : ∀ i, n ^ 2 ^ i * 2 ^ (-(k * 2 ^ i)).toNat = d ^ 2 ^ i * 2 ^ (k * 2 ^ i).toNat
  | 0 => by rw [Nat.pow_zero, Nat.pow_one, Nat.pow_one, Int.pow_zero, Int.mul_one]; exact h
  | i + 1 => by
    have ih := LogW.exact hd h i
    rw [← pow_sq, ← pow_sq, Int.pow_succ, show k * (2 ^ i * 2) = 2 * (k * 2 ^ i) by rw [← Int.mul_assoc, Int.mul_comm]]
    rw [two_toNat, show -(2 * (k * 2 ^ i)) = 2 * -(k * 2 ^ i) by omega, two_toNat, Nat.pow_add, Nat.pow_add]
    rw [Nat.mul_mul_mul_comm, ih, Nat.mul_mul_mul_comm]
theorem LogW.of_eq {n d : Nat} {k : Int} (hd : 0 < d) (h : n * 2 ^ (-k).toNat = d * 2 ^ k.toNat) : LogW n d k := by
  have := Nat.mul_pos hd (Nat.two_pow_pos k.toNat)
  exact ⟨by omega, by omega⟩
theorem NoPow.of_ne {n d : Nat} {k : Int} (hd : 0 < d) (hw : LogW n d k) (h : n * 2 ^ (-k).toNat ≠ d * 2 ^ k.toNat) : NoPow n d := by
  intro j hj
  have := (LogW.of_eq hd hj).unique hw
  subst this
  exact h hj
theorem LogW.bound {n d m : Nat} {k : Int} (hn : 0 < n) (hd : 0 < d) (h1 : n < 2 ^ m) (h2 : d < 2 ^ m) (hw : LogW n d k) : -(m : Int) ≤ k ∧ k ≤ (m : Int) := by
  have := (wholeN_W hn hd).unique hw
  rw [← this]
  exact wholeN_le hn hd h1 h2
theorem pw_lt {n m : Nat} (h : n < 2 ^ m) (i : Nat) : n ^ 2 ^ i < 2 ^ (m * 2 ^ i) := by
  rw [Nat.pow_mul]
  exact Nat.pow_lt_pow_left h (Nat.ne_of_gt (Nat.two_pow_pos i))
theorem two_out1 (out : Int) : out * 2 + 1 = 2 * out + 1 := by omega
theorem two_D (D : Nat) : (D : Int) * 2 = ((2 * D : Nat) : Int) := by omega
theorem two_pos_D {D : Nat} (h : 1 ≤ D) : 1 ≤ 2 * D := by omega
theorem less_i {i b : Nat} (h : i < b) : b - (intOf (.int .i64 ((i + 1 : Nat) : Int))).toNat < b - (intOf (.int .i64 (i : Int))).toNat := by simp [intOf]; omega
theorem less_D {D M : Nat} (h : 1 ≤ D) (h2 : 2 * D ≤ M) : M - (intOf (.int .i64 ((D : Int) * 2))).toNat < M - (intOf (.int .i64 (D : Int))).toNat := by simp [intOf]; omega
theorem wrap_D {D M : Nat} (h : D ≤ M) (h2 : M ≤ 200000000) : wrap64 ((D : Int) * 2) = ((2 * D : Nat) : Int) := by rw [Go.IntWalk.wrap64_in _ (by omega)]; omega
theorem few_D {D i m b M : Nat} (h : D ≤ 2 * i + 4 + (m + 1) * 2 ^ (i + 1)) (hi : i < b) (hb : b ≤ 12) (hM : 2 * (26 + (m + 1) * 4096) = M) : 2 * D ≤ M := by
  have : (m + 1) * 2 ^ (i + 1) ≤ (m + 1) * 4096 := Nat.mul_le_mul_left _ (show 2 ^ (i + 1) ≤ 2 ^ 12 from Nat.pow_le_pow_right (by decide) (by omega))
  omega
theorem LogI.wls {n d D m i low high P Q : Nat} {out : Int} (h : LogI n d D m i low high out P Q) : wl 64 low ≤ D + 2 ∧ wl 64 high ≤ D + 2 ∧ wl 64 (low * low) ≤ 2 * D + 4 ∧ wl 64 (high * high) ≤ 2 * D + 4 ∧ wl 64 (low * low / 2 ^ D) ≤ 2 * D + 4 ∧ wl 64 (ceilD (high * high) D) ≤ D + 3 := by
  have hh : high < 2 ^ (D + 2) := Nat.lt_of_le_of_lt h.top (Nat.pow_lt_pow_right (by decide) (by omega))
  have hl : low < 2 ^ (D + 2) := Nat.lt_of_le_of_lt h.lohi hh
  have e : 2 ^ (D + 2) * 2 ^ (D + 2) = 2 ^ (2 * D + 4) := by rw [← Nat.pow_add]; congr 1; omega
  have h1 : low * low < 2 ^ (2 * D + 4) := e ▸ Nat.mul_lt_mul'' hl hl
  have h2 : high * high < 2 ^ (2 * D + 4) := e ▸ Nat.mul_lt_mul'' hh hh
  exact ⟨wl_bits hl, wl_bits hh, wl_bits h1, wl_bits h2, wl_bits (Nat.lt_of_le_of_lt (Nat.div_le_self _ _) h1), wl_bits (Nat.lt_of_le_of_lt h.top2 (Nat.pow_lt_pow_right (by decide) (by omega)))⟩
theorem LogI.bound {n d D m i low high P Q : Nat} {out : Int} (h : LogI n d D m i low high out P Q) (hn : 0 < n) (hd : 0 < d) (h1 : n < 2 ^ m) (h2 : d < 2 ^ m) (hm : m ≤ 20000) (hi : i ≤ 12) : -81920000 ≤ out ∧ out ≤ 81920000 := by
  have hw := h.e.w h.pos h.le h.lt (pw_pos hd i)
  have hb := hw.bound (pw_pos hn i) (pw_pos hd i) (pw_lt h1 i) (pw_lt h2 i)
  have h3 : 2 ^ i ≤ 2 ^ 12 := Nat.pow_le_pow_right (by decide) hi
  have h4 : m * 2 ^ i ≤ 20000 * 2 ^ 12 := Nat.mul_le_mul hm h3
  omega
set_option maxRecDepth 100000 in
set_option maxHeartbeats 4000000 in
theorem llog_any (va : Value) (n d m b : Nat) (w : World) (ha : F64 w va n d) (hn0 : 0 < n) (hd0 : 0 < d) (hn : n < 2 ^ m) (hd : d < 2 ^ m) (hm : m ≤ 20000) (hb : b ≤ 12) :
    Calls Try.prog 37 #[va, .int .i64 (b : Nat)] w fun x w' => ∃ v, x = .returned (.tuple #[.int .i64 v, .int .i64 0]) ∧ LogW (n ^ 2 ^ b) (d ^ 2 ^ b) v ∧ Below w.heap.size w w' := by
  have Ha := Lib.hid ha
  obtain ⟨Pa, pa, ca, Qa, qa, ea, xa, rfl, _, _, _⟩ := ha
  have HNU := Lib.hid num_any
  have HDE := Lib.hid den_any
  have d1 : decide ((b : Int) < 0) = false := decide_eq_false (by omega)
  have d2 : decide (12 < (b : Int)) = false := decide_eq_false (by omega)
  have HWH := Lib.hid (fun v W h => lwhole_any v n d m W h hn0 hd0 hn hd hm)
  have hwk := wholeN_W hn0 hd0
  have hkb := wholeN_le hn0 hd0 hn hd
  obtain ⟨kk, hkk⟩ : ∃ k, wholeN n d = k := ⟨_, rfl⟩
  rw [hkk] at HWH hwk hkb
  have hk1 : -20000 ≤ kk := by omega
  have hk2 : kk ≤ 20000 := by omega
  have hs1 := wl_shl (j := (-kk).toNat) hn
  have hs2 := wl_shl (j := kk.toNat) hd
  have hwn := wl_bits hn
  have hwd := wl_bits hd
  have HU1 := Lib.hid (fun v W h => nup_any v n W h (by omega) (-kk) (by omega))
  have HU2 := Lib.hid (fun v W h => nup_any v d W h (by omega) kk (by omega))
  have HCM := Lib.hid (fun va vb W h1 h2 => ncmp_any va vb (n * 2 ^ (-kk).toNat) (d * 2 ^ kk.toNat) W h1 h2)
  obtain ⟨N', hN'⟩ : ∃ p, n * 2 ^ (-kk).toNat = p := ⟨_, rfl⟩
  obtain ⟨D', hD'⟩ : ∃ p, d * 2 ^ kk.toNat = p := ⟨_, rfl⟩
  rw [hN'] at HU1 HCM
  rw [hD'] at HU2 HCM
  clear hkk hs1 hs2 hwn hwd hkb
  by_cases heq : N' = D'
  · have heq2 : n * 2 ^ (-kk).toNat = d * 2 ^ kk.toNat := hN'.trans (heq.trans hD'.symm)
    have hc : cmpN N' D' = 0 := by rw [heq, cmpN_self]
    rw [hc] at HCM
    have hex := LogW.exact hd0 heq2 b
    have HEX := Lib.hid (LogW.of_eq (pw_pos hd0 b) hex)
    have HBB := Lib.hid hb
    clear heq2 hex hwk hn0 hd0 hn hd hm hN' hD' hb hc heq
    have e0 := Blk.new (w) 47 #[(.slice Pa pa ca), (.slice Qa qa ea)]
    have hb := cba (Below.refl _ w) (.cells #[(.slice Pa pa ca), (.slice Qa qa ea)] 47)
    have hsz : w.heap.size ≤ w.heap.size := Nat.le_refl _
    go_enter Try.func37, Try.ntmps37
    go_upto_region 1 with (fail)
    obtain ⟨S, hS⟩ : ∃ S, (w).alloc (.cells #[(.slice Pa pa ca), (.slice Qa qa ea)] 47) = S := ⟨_, rfl⟩
    rw [hS] at e0 hb ⊢
    replace Ha := Lib.hid (Ha.out.below hb)
    have HB0 := Lib.hid hb
    have E0 := Lib.hid e0
    clear hS hb hsz e0
    go_step3
    have k_E0_0 := E0.out.cell 0
    have k_E0_1 := E0.out.cell 1
    go_wp2_with fail
    with_reducible refine (HWH.out _ _ Ha.out).mono ?_
    rintro e w1 ⟨rfl, hb⟩
    clear k_E0_0 k_E0_1
    replace Ha := Lib.hid (Ha.out.below hb)
    replace E0 := Lib.hid (blk_below E0.out hb)
    replace HB0 := Lib.hid (cbt HB0.out hb)
    clear hb
    have k_E0_0 := E0.out.cell 0
    have k_E0_1 := E0.out.cell 1
    go_wp2_with fail
    clear k_E0_0 k_E0_1
    let FS : List Kept1 := [.f (n) (d), .n (n), .eq (.int .i64 kk), .eq (.int .i64 (-kk)), .n (N'), .f (n) (d), .n (d), .eq (.int .i64 kk), .n (D'), .eq (.int .i64 0), .eq (.bool true)]
    refine region_mono (Held w1 (fun j => FS.getD j .any) []) (by kernel_rfl) (by kernel_rfl) (by kernel_rfl) (Held.start _ _ _ (by simp) (by simp)) ?_
    refine Steps.held ?_ ?_
    · intro L v w' hJ
      have kb := hJ.out.blk E0.out (by simp [oldsOf])
      have k0 := kb.cell 0
      have k1 := kb.cell 1
      clear kb
      go_wp2_with fail
      exact ⟨rfl, rfl, hJ.out.same (by rfl) (Ha.out.keep hJ.out.held.keep)⟩
    simp only [Act.put, List.setIfInBounds_toArray, List.set_cons_zero, List.set_cons_succ, Nat.reduceAdd]
    refine Steps.held ?_ ?_
    · intro L v w' hJ
      have X0 := Lib.hid (show F64 w' (v 0) (n) (d) from hJ.out.fact 0 (by kernel_rfl))
      go_wp2_with fail
      with_reducible refine (HNU.out _ _ _ _ X0.out).mono ?_
      rintro e w1 ⟨u, rfl, hu, hb⟩
      go_wp2_with fail
      exact ⟨rfl, rfl, hJ.out.call (by rfl) hb (hu)⟩
    simp only [Act.put, List.setIfInBounds_toArray, List.set_cons_zero, List.set_cons_succ, Nat.reduceAdd]
    refine Steps.held ?_ ?_
    · intro L v w' hJ
      go_wp2_with fail
      exact ⟨rfl, rfl, hJ.out.same (by rfl) (rfl)⟩
    simp only [Act.put, List.setIfInBounds_toArray, List.set_cons_zero, List.set_cons_succ, Nat.reduceAdd]
    refine Steps.held ?_ ?_
    · intro L v w' hJ
      have hv2 : v 2 = .int .i64 kk := hJ.out.fact 2 (by kernel_rfl)
      simp only [hv2]
      clear hv2
      go_wp2_with fail
      exact ⟨rfl, rfl, hJ.out.same (by rfl) (rfl)⟩
    simp only [Act.put, List.setIfInBounds_toArray, List.set_cons_zero, List.set_cons_succ, Nat.reduceAdd]
    refine Steps.held ?_ ?_
    · intro L v w' hJ
      have hv3 : v 3 = .int .i64 (-kk) := hJ.out.fact 3 (by kernel_rfl)
      simp only [hv3]
      clear hv3
      have X0 := Lib.hid (show N64 w' (v 1) (n) from hJ.out.fact 1 (by kernel_rfl))
      go_wp2_with fail
      with_reducible refine (HU1.out _ _ X0.out).mono ?_
      rintro e w1 ⟨u, rfl, hu, hb⟩
      go_wp2_with fail
      exact ⟨rfl, rfl, hJ.out.call (by rfl) hb (hu)⟩
    simp only [Act.put, List.setIfInBounds_toArray, List.set_cons_zero, List.set_cons_succ, Nat.reduceAdd]
    refine Steps.held ?_ ?_
    · intro L v w' hJ
      have kb := hJ.out.blk E0.out (by simp [oldsOf])
      have k0 := kb.cell 0
      have k1 := kb.cell 1
      clear kb
      go_wp2_with fail
      exact ⟨rfl, rfl, hJ.out.same (by rfl) (Ha.out.keep hJ.out.held.keep)⟩
    simp only [Act.put, List.setIfInBounds_toArray, List.set_cons_zero, List.set_cons_succ, Nat.reduceAdd]
    refine Steps.held ?_ ?_
    · intro L v w' hJ
      have X0 := Lib.hid (show F64 w' (v 5) (n) (d) from hJ.out.fact 5 (by kernel_rfl))
      go_wp2_with fail
      with_reducible refine (HDE.out _ _ _ _ X0.out).mono ?_
      rintro e w1 ⟨u, rfl, hu, hb⟩
      go_wp2_with fail
      exact ⟨rfl, rfl, hJ.out.call (by rfl) hb (hu)⟩
    simp only [Act.put, List.setIfInBounds_toArray, List.set_cons_zero, List.set_cons_succ, Nat.reduceAdd]
    refine Steps.held ?_ ?_
    · intro L v w' hJ
      go_wp2_with fail
      exact ⟨rfl, rfl, hJ.out.same (by rfl) (rfl)⟩
    simp only [Act.put, List.setIfInBounds_toArray, List.set_cons_zero, List.set_cons_succ, Nat.reduceAdd]
    refine Steps.held ?_ ?_
    · intro L v w' hJ
      have hv7 : v 7 = .int .i64 kk := hJ.out.fact 7 (by kernel_rfl)
      simp only [hv7]
      clear hv7
      have X0 := Lib.hid (show N64 w' (v 6) (d) from hJ.out.fact 6 (by kernel_rfl))
      go_wp2_with fail
      with_reducible refine (HU2.out _ _ X0.out).mono ?_
      rintro e w1 ⟨u, rfl, hu, hb⟩
      go_wp2_with fail
      exact ⟨rfl, rfl, hJ.out.call (by rfl) hb (hu)⟩
    simp only [Act.put, List.setIfInBounds_toArray, List.set_cons_zero, List.set_cons_succ, Nat.reduceAdd]
    refine Steps.held ?_ ?_
    · intro L v w' hJ
      have X0 := Lib.hid (show N64 w' (v 4) (N') from hJ.out.fact 4 (by kernel_rfl))
      have X1 := Lib.hid (show N64 w' (v 8) (D') from hJ.out.fact 8 (by kernel_rfl))
      go_wp2_with fail
      with_reducible refine (HCM.out _ _ _ X0.out X1.out).mono ?_
      rintro e w1 ⟨rfl, hb⟩
      go_wp2_with fail
      exact ⟨rfl, rfl, hJ.out.call (by rfl) hb (rfl)⟩
    simp only [Act.put, List.setIfInBounds_toArray, List.set_cons_zero, List.set_cons_succ, Nat.reduceAdd]
    refine Steps.held ?_ ?_
    · intro L v w' hJ
      have hv9 : v 9 = .int .i64 0 := hJ.out.fact 9 (by kernel_rfl)
      simp only [hv9]
      clear hv9
      go_wp2_with fail
      exact ⟨rfl, rfl, hJ.out.same (by rfl) (rfl)⟩
    simp only [Act.put, List.setIfInBounds_toArray, List.set_cons_zero, List.set_cons_succ, Nat.reduceAdd]
    refine Steps.nil ?_
    intro v w' hJ
    have h10 : v 10 = .bool true := hJ.end_fact 10 (by decide)
    simp only [h10]
    clear h10
    have hbr := hJ.but.below
    replace Ha := Lib.hid (Ha.out.below hbr)
    replace E0 := Lib.hid (blk_below E0.out hbr)
    replace HB0 := Lib.hid (cbt HB0.out hbr)
    clear hJ hbr
    have hb := HBB.out
    go_wp2_with fail
    have hv : wrap64 (kk * wrap64 (2 ^ b)) = kk * 2 ^ b := by
      have hp := two_le12 hb
      have hm := mul_bound hk1 hk2 (Int.le_of_lt hp.1) hp.2
      rw [Go.IntWalk.wrap64_in (2 ^ b) (by omega), Go.IntWalk.wrap64_in _ (by omega)]
    simp only [hv]
    rw [Exit.noGoto_ret]
    exact bodyPost_ret (v := .tuple #[.int .i64 (kk * 2 ^ b), .int .i64 0]) (by simp [results, Try.results37, go_sem]) rfl ⟨_, rfl, HEX.out, HB0.out⟩
  · have hNP := Lib.hid ((NoPow.of_ne hd0 hwk (fun h => heq (hN'.symm.trans (h.trans hD')))).pw hn0 hd0)
    have hcc : (cmpN N' D' == 0) = false := beq_eq_false_iff_ne.2 (by unfold cmpN; split; decide; split; decide; omega)
    obtain ⟨cc, hce⟩ : ∃ c, cmpN N' D' = c := ⟨_, rfl⟩
    rw [hce] at HCM hcc
    have HWK := Lib.hid hwk
    have HD0 := Lib.hid hd0
    have HN0 := Lib.hid hn0
    have HNM := Lib.hid hn
    have HDM' := Lib.hid hd
    have HMM := Lib.hid hm
    have HBB := Lib.hid hb
    have HSC := Lib.hid (fun v W D h hD => lscaled_any v n d m kk D W h hd0 hn hd hm hk1 hk2 hD)
    clear hce heq hwk hn0 hd0 hn hd hm hN' hD' hb
    have e0 := Blk.new (w) 47 #[(.slice Pa pa ca), (.slice Qa qa ea)]
    have hb := cba (Below.refl _ w) (.cells #[(.slice Pa pa ca), (.slice Qa qa ea)] 47)
    have hsz : w.heap.size ≤ w.heap.size := Nat.le_refl _
    go_enter Try.func37, Try.ntmps37
    go_upto_region 1 with (fail)
    obtain ⟨S, hS⟩ : ∃ S, (w).alloc (.cells #[(.slice Pa pa ca), (.slice Qa qa ea)] 47) = S := ⟨_, rfl⟩
    rw [hS] at e0 hb ⊢
    replace Ha := Lib.hid (Ha.out.below hb)
    have HB0 := Lib.hid hb
    have E0 := Lib.hid e0
    clear hS hb hsz e0
    go_step3
    have k_E0_0 := E0.out.cell 0
    have k_E0_1 := E0.out.cell 1
    go_wp2_with fail
    with_reducible refine (HWH.out _ _ Ha.out).mono ?_
    rintro e w1 ⟨rfl, hb⟩
    clear k_E0_0 k_E0_1
    replace Ha := Lib.hid (Ha.out.below hb)
    replace E0 := Lib.hid (blk_below E0.out hb)
    replace HB0 := Lib.hid (cbt HB0.out hb)
    clear hb
    have k_E0_0 := E0.out.cell 0
    have k_E0_1 := E0.out.cell 1
    go_wp2_with fail
    clear k_E0_0 k_E0_1
    let FS : List Kept1 := [.f (n) (d), .n (n), .eq (.int .i64 kk), .eq (.int .i64 (-kk)), .n (N'), .f (n) (d), .n (d), .eq (.int .i64 kk), .n (D'), .eq (.int .i64 cc), .eq (.bool false)]
    refine region_mono (Held w1 (fun j => FS.getD j .any) []) (by kernel_rfl) (by kernel_rfl) (by kernel_rfl) (Held.start _ _ _ (by simp) (by simp)) ?_
    refine Steps.held ?_ ?_
    · intro L v w' hJ
      have kb := hJ.out.blk E0.out (by simp [oldsOf])
      have k0 := kb.cell 0
      have k1 := kb.cell 1
      clear kb
      go_wp2_with fail
      exact ⟨rfl, rfl, hJ.out.same (by rfl) (Ha.out.keep hJ.out.held.keep)⟩
    simp only [Act.put, List.setIfInBounds_toArray, List.set_cons_zero, List.set_cons_succ, Nat.reduceAdd]
    refine Steps.held ?_ ?_
    · intro L v w' hJ
      have X0 := Lib.hid (show F64 w' (v 0) (n) (d) from hJ.out.fact 0 (by kernel_rfl))
      go_wp2_with fail
      with_reducible refine (HNU.out _ _ _ _ X0.out).mono ?_
      rintro e w1 ⟨u, rfl, hu, hb⟩
      go_wp2_with fail
      exact ⟨rfl, rfl, hJ.out.call (by rfl) hb (hu)⟩
    simp only [Act.put, List.setIfInBounds_toArray, List.set_cons_zero, List.set_cons_succ, Nat.reduceAdd]
    refine Steps.held ?_ ?_
    · intro L v w' hJ
      go_wp2_with fail
      exact ⟨rfl, rfl, hJ.out.same (by rfl) (rfl)⟩
    simp only [Act.put, List.setIfInBounds_toArray, List.set_cons_zero, List.set_cons_succ, Nat.reduceAdd]
    refine Steps.held ?_ ?_
    · intro L v w' hJ
      have hv2 : v 2 = .int .i64 kk := hJ.out.fact 2 (by kernel_rfl)
      simp only [hv2]
      clear hv2
      go_wp2_with fail
      exact ⟨rfl, rfl, hJ.out.same (by rfl) (rfl)⟩
    simp only [Act.put, List.setIfInBounds_toArray, List.set_cons_zero, List.set_cons_succ, Nat.reduceAdd]
    refine Steps.held ?_ ?_
    · intro L v w' hJ
      have hv3 : v 3 = .int .i64 (-kk) := hJ.out.fact 3 (by kernel_rfl)
      simp only [hv3]
      clear hv3
      have X0 := Lib.hid (show N64 w' (v 1) (n) from hJ.out.fact 1 (by kernel_rfl))
      go_wp2_with fail
      with_reducible refine (HU1.out _ _ X0.out).mono ?_
      rintro e w1 ⟨u, rfl, hu, hb⟩
      go_wp2_with fail
      exact ⟨rfl, rfl, hJ.out.call (by rfl) hb (hu)⟩
    simp only [Act.put, List.setIfInBounds_toArray, List.set_cons_zero, List.set_cons_succ, Nat.reduceAdd]
    refine Steps.held ?_ ?_
    · intro L v w' hJ
      have kb := hJ.out.blk E0.out (by simp [oldsOf])
      have k0 := kb.cell 0
      have k1 := kb.cell 1
      clear kb
      go_wp2_with fail
      exact ⟨rfl, rfl, hJ.out.same (by rfl) (Ha.out.keep hJ.out.held.keep)⟩
    simp only [Act.put, List.setIfInBounds_toArray, List.set_cons_zero, List.set_cons_succ, Nat.reduceAdd]
    refine Steps.held ?_ ?_
    · intro L v w' hJ
      have X0 := Lib.hid (show F64 w' (v 5) (n) (d) from hJ.out.fact 5 (by kernel_rfl))
      go_wp2_with fail
      with_reducible refine (HDE.out _ _ _ _ X0.out).mono ?_
      rintro e w1 ⟨u, rfl, hu, hb⟩
      go_wp2_with fail
      exact ⟨rfl, rfl, hJ.out.call (by rfl) hb (hu)⟩
    simp only [Act.put, List.setIfInBounds_toArray, List.set_cons_zero, List.set_cons_succ, Nat.reduceAdd]
    refine Steps.held ?_ ?_
    · intro L v w' hJ
      go_wp2_with fail
      exact ⟨rfl, rfl, hJ.out.same (by rfl) (rfl)⟩
    simp only [Act.put, List.setIfInBounds_toArray, List.set_cons_zero, List.set_cons_succ, Nat.reduceAdd]
    refine Steps.held ?_ ?_
    · intro L v w' hJ
      have hv7 : v 7 = .int .i64 kk := hJ.out.fact 7 (by kernel_rfl)
      simp only [hv7]
      clear hv7
      have X0 := Lib.hid (show N64 w' (v 6) (d) from hJ.out.fact 6 (by kernel_rfl))
      go_wp2_with fail
      with_reducible refine (HU2.out _ _ X0.out).mono ?_
      rintro e w1 ⟨u, rfl, hu, hb⟩
      go_wp2_with fail
      exact ⟨rfl, rfl, hJ.out.call (by rfl) hb (hu)⟩
    simp only [Act.put, List.setIfInBounds_toArray, List.set_cons_zero, List.set_cons_succ, Nat.reduceAdd]
    refine Steps.held ?_ ?_
    · intro L v w' hJ
      have X0 := Lib.hid (show N64 w' (v 4) (N') from hJ.out.fact 4 (by kernel_rfl))
      have X1 := Lib.hid (show N64 w' (v 8) (D') from hJ.out.fact 8 (by kernel_rfl))
      go_wp2_with fail
      with_reducible refine (HCM.out _ _ _ X0.out X1.out).mono ?_
      rintro e w1 ⟨rfl, hb⟩
      go_wp2_with fail
      exact ⟨rfl, rfl, hJ.out.call (by rfl) hb (rfl)⟩
    simp only [Act.put, List.setIfInBounds_toArray, List.set_cons_zero, List.set_cons_succ, Nat.reduceAdd]
    refine Steps.held ?_ ?_
    · intro L v w' hJ
      have hv9 : v 9 = .int .i64 cc := hJ.out.fact 9 (by kernel_rfl)
      simp only [hv9]
      clear hv9
      go_wp2_with fail
      exact ⟨rfl, rfl, hJ.out.same (by rfl) (rfl)⟩
    simp only [Act.put, List.setIfInBounds_toArray, List.set_cons_zero, List.set_cons_succ, Nat.reduceAdd]
    refine Steps.nil ?_
    intro v w' hJ
    have h10 : v 10 = .bool false := hJ.end_fact 10 (by decide)
    simp only [h10]
    clear h10
    have hbr := hJ.but.below
    replace Ha := Lib.hid (Ha.out.below hbr)
    replace E0 := Lib.hid (blk_below E0.out hbr)
    replace HB0 := Lib.hid (cbt HB0.out hbr)
    clear hJ hbr
    go_wp2_with fail
    go_step3
    go_wp2_with fail
    have hm0 := HMM.out
    obtain ⟨DM, hDM⟩ : ∃ j, 2 * (26 + (m + 1) * 4096) = j := ⟨_, rfl⟩
    have hDM1 : 96 ≤ DM := by omega
    have hDM2 : DM ≤ 200000000 := by omega
    have HDM := Lib.hid hDM
    clear hDM hm0
    go_loopw [8] (fun v8 wr => ∃ D : Nat, v8 = .int .i64 D ∧ D ≤ DM ∧ Hid (1 ≤ D) ∧ Hid (Below w'.heap.size w' wr)) (fun v8 _ => DM - (intOf v8).toNat)
    case atStart => exact ⟨96, rfl, hDM1, Lib.hid (by decide), Lib.hid (Below.refl _ _)⟩
    case round =>
      obtain ⟨D, rfl, hD, hD1, hBr⟩ := hrel
      rename World => wo
      have E0r := Lib.hid (blk_below E0.out hBr.out)
      have Har := Lib.hid (Ha.out.below hBr.out)
      have k00 := E0r.out.cell 0
      have k01 := E0r.out.cell 1
      have HSD := Lib.hid (HSC.out _ wo D Har.out (by omega))
      have HST := Lib.hid (LogI.start (D := D) HD0.out HWK.out HNM.out HDM'.out rfl rfl)
      obtain ⟨P0, hP0⟩ : ∃ p, n * 2 ^ (-kk).toNat = p := ⟨_, rfl⟩
      obtain ⟨Q0, hQ0⟩ : ∃ p, d * 2 ^ kk.toNat = p := ⟨_, rfl⟩
      rw [hP0, hQ0] at HSD HST
      obtain ⟨low0, hl0⟩ : ∃ p, P0 * 2 ^ D / Q0 = p := ⟨_, rfl⟩
      obtain ⟨rm, hrm⟩ : ∃ p, P0 * 2 ^ D % Q0 = p := ⟨_, rfl⟩
      rw [hl0, hrm] at HSD HST
      clear hP0 hQ0 hl0 hrm
      have w1l : wl 64 1 ≤ 1 := w64_lit (by decide)
      have HTW := Lib.hid (fun v W h => nup_any v 1 W h (by omega) ((D : Int) + 1) (by omega))
      rw [show ((D : Int) + 1).toNat = D + 1 by omega, Nat.one_mul] at HTW
      obtain ⟨T2, hT2⟩ : ∃ t, 2 ^ (D + 1) = t := ⟨_, rfl⟩
      have HT2 := Lib.hid hT2
      rw [hT2] at HTW
      have HON : Hid (∀ W, Calls Try.prog 50 #[.int .u64 1] W (fun e w' => ∃ v, e = .returned v ∧ N64 w' v 1 ∧ Below W.heap.size W w')) := Lib.hid (fun W => of_any 1 (by decide) W)
      clear hT2
      by_cases hrem : rm = 0
      · rw [if_pos hrem] at HST
        rw [decide_eq_true hrem] at HSD
        rw [Nat.add_zero] at HST
        clear hrem
        have HB1 := Lib.hid (Below.refl wo.heap.size wo)
        go_wp2_with fail
        refine HSD.out.mono ?_
        rintro _ w2 ⟨u9, rfl, hu, hb⟩
        have N9 := Lib.hid hu
        replace HB1 := Lib.hid (cbt HB1.out hb)
        clear hu hb k00 k01 HSD
        have hg9 := HB1.out.size
        have Z0 := N9.out
        obtain ⟨PT0, cpT0, rfl, _, _, _⟩ := Z0
        have e9 := Blk.new w2 26 #[.slice PT0 (wl 64 (low0)) cpT0]
        have hb := cba (Below.refl _ w2) (.cells #[.slice PT0 (wl 64 (low0)) cpT0] 26)
        go_upto_region 11 with (fail)
        obtain ⟨T, hS⟩ : ∃ S, (w2.alloc (.cells #[.slice PT0 (wl 64 (low0)) cpT0] 26)) = S := ⟨_, rfl⟩
        rw [hS] at e9 hb ⊢
        obtain ⟨g9, hg⟩ : ∃ g, w2.heap.size = g := ⟨_, rfl⟩
        rw [hg] at e9 hg9
        simp only [hg]
        replace N9 := Lib.hid (N9.out.below hb)
        replace HB1 := Lib.hid (cbt HB1.out hb)
        have E9 := Lib.hid e9
        clear hS hg hb e9
        have HG9 := Lib.hid hg9
        clear hg9
        have k9 := E9.out.cell 0
        have N11 := N9
        have e11 := Blk.new T 26 #[.slice PT0 (wl 64 low0) cpT0]
        have hb := cba (Below.refl _ T) (.cells #[.slice PT0 (wl 64 low0) cpT0] 26)
        have h911 : g9 < T.heap.size := E9.out.lt
        have hge9 : wo.heap.size ≤ g9 := HG9.out
        have hge := HB1.out.size
        go_upto_region 12 with (fail)
        obtain ⟨U, hU⟩ : ∃ S, T.alloc (.cells #[.slice PT0 (wl 64 low0) cpT0] 26) = S := ⟨_, rfl⟩
        rw [hU] at e11 hb ⊢
        obtain ⟨g11, hg⟩ : ∃ g, T.heap.size = g := ⟨_, rfl⟩
        rw [hg] at e11 h911 hge
        simp only [hg]
        replace N9 := Lib.hid (N9.out.below hb)
        replace N11 := Lib.hid (N11.out.below hb)
        replace E9 := Lib.hid (blk_below E9.out hb)
        replace HB1 := Lib.hid (cbt HB1.out hb)
        have E11 := Lib.hid e11
        have HGE := Lib.hid hge
        clear hge hge9
        clear hU hg hb e11 k9
        go_wp2_with fail
        have BLO := Lib.hid (show Box U g9 low0 from ⟨PT0, cpT0, E9.out, N9.out⟩)
        have BHI := Lib.hid (show Box U g11 low0 from ⟨PT0, cpT0, E11.out, N11.out⟩)
        clear E9 N9 E11 N11
        go_wp2_with fail
        with_reducible refine (HON.out _).mono ?_
        rintro _ w4 ⟨u12, rfl, hu, hb⟩
        replace BLO := Lib.hid (BLO.out.below hb)
        replace BHI := Lib.hid (BHI.out.below hb)
        replace HB1 := Lib.hid (cbt HB1.out hb)
        have N1 := Lib.hid hu
        clear hu hb
        go_wp2_with fail
        with_reducible refine (HTW.out _ _ N1.out).mono ?_
        rintro _ w5 ⟨u13, rfl, hu, hb⟩
        replace BLO := Lib.hid (BLO.out.below hb)
        replace BHI := Lib.hid (BHI.out.below hb)
        replace HB1 := Lib.hid (cbt HB1.out hb)
        have N12 := Lib.hid hu
        clear hu hb N1
        have h1112 : g11 < w5.heap.size := by obtain ⟨_, _, h, _⟩ := BHI.out; exact h.lt
        have Z0 := N12.out
        obtain ⟨PV0, cpV0, rfl, _, _, _⟩ := Z0
        have e12 := Blk.new w5 26 #[.slice PV0 (wl 64 (T2)) cpV0]
        have hb := cba (Below.refl _ w5) (.cells #[.slice PV0 (wl 64 (T2)) cpV0] 26)
        go_upto_region 15 with (fail)
        obtain ⟨V, hS⟩ : ∃ S, (w5.alloc (.cells #[.slice PV0 (wl 64 (T2)) cpV0] 26)) = S := ⟨_, rfl⟩
        rw [hS] at e12 hb ⊢
        obtain ⟨g12, hg⟩ : ∃ g, w5.heap.size = g := ⟨_, rfl⟩
        rw [hg] at e12 h1112
        simp only [hg]
        replace N12 := Lib.hid (N12.out.below hb)
        replace BLO := Lib.hid (BLO.out.below hb)
        replace BHI := Lib.hid (BHI.out.below hb)
        replace HB1 := Lib.hid (cbt HB1.out hb)
        have E12 := Lib.hid e12
        clear hS hg hb e12
        have BT0 := Lib.hid (show Box V g12 T2 from ⟨_, _, E12.out, N12.out⟩)
        clear E12 N12
        have HNP := Lib.hid hNP.out
        clear HSC HTW HON E0r Har HWH HU1 HU2 HCM HNU HDE
        go_wp2_with fail
        go_loopw [13, 64] (fun v13 v64 wx => ∃ (i low high P Q : Nat) (out : Int), i ≤ b ∧ v64 = .int .i64 (i : Nat) ∧ v13 = .int .i64 out ∧ Hid (LogI n d D m i low high out P Q) ∧ Hid (Box wx g9 low) ∧ Hid (Box wx g11 high) ∧ Hid (Box wx g12 T2) ∧ Hid (Below wo.heap.size wo wx)) (fun _ v64 _ => b - (intOf v64).toNat)
        case atStart => exact ⟨0, _, _, P0, Q0, kk, Nat.zero_le b, rfl, rfl, HST, BLO, BHI, BT0, HB1⟩
        case round =>
          obtain ⟨i, low, high, P, Q, out, hib, rfl, rfl, HI, BL, BH, BT, HB⟩ := hrel
          obtain ⟨PL, cL, hk, hn⟩ := BL.out
          have E9 := Lib.hid hk
          have NL := Lib.hid hn
          obtain ⟨PH, cH, hk, hn⟩ := BH.out
          have E11 := Lib.hid hk
          have NH := Lib.hid hn
          clear hk hn BL BH BLO BHI BT0 HST HB1
          have hbb := HBB.out
          have hob := HI.out.bound HN0.out HD0.out HNM.out HDM'.out HMM.out (show i ≤ 12 by omega)
          by_cases hlt : i < b
          · have dlt : decide ((i : Int) < (b : Int)) = true := decide_eq_true (by omega)
            have hwl := HI.out.wls
            have hw2 : wrap64 (out * 2) = 2 * out := by rw [Go.IntWalk.wrap64_in (out * 2) (by omega)]; omega
            have hw3 : wrap64 ((i : Int) + 1) = ((i + 1 : Nat) : Int) := by rw [Go.IntWalk.wrap64_in _ (by omega)]; omega
            have HM1 := Lib.hid (fun va vb W h1 h2 => nmul_any va vb low low W h1 h2 (by omega) (by omega))
            have HM2 := Lib.hid (fun va vb W h1 h2 => nmul_any va vb high high W h1 h2 (by omega) (by omega))
            have HDW := Lib.hid (fun v W h => ndown_any v (low * low) W h (by omega) (D : Int) (by omega))
            rw [Int.toNat_natCast] at HDW
            have HHF := Lib.hid (fun v W h => lhalf_any v (high * high) D W h (by omega) (by omega))
            have HDW1 := Lib.hid (fun v W h => ndown_any v (low * low / 2 ^ D) W h (by omega) 1 (by omega))
            rw [show (1 : Int).toNat = 1 from rfl] at HDW1
            have HHF1 := Lib.hid (fun v W h => lhalf_any v (ceilD (high * high) D) 1 W h (by omega) (by omega))
            rw [show ((1 : Nat) : Int) = 1 from rfl] at HHF1
            have HC1 := Lib.hid (fun va vb W h1 h2 => ncmp_any va vb (low * low / 2 ^ D) T2 W h1 h2)
            have HC2 := Lib.hid (fun va vb W h1 h2 => ncmp_any va vb (ceilD (high * high) D) T2 W h1 h2)
            have HONE := Lib.hid (fun h : 2 ^ (D + 1) ≤ low * low / 2 ^ D => HI.out.one h)
            have HNONE := Lib.hid (fun h : ceilD (high * high) D ≤ 2 ^ (D + 1) => HI.out.none (HNP.out (i + 1)) h)
            have HFEW := Lib.hid (fun (h1 : low * low / 2 ^ D < 2 ^ (D + 1)) (h2 : 2 ^ (D + 1) < ceilD (high * high) D) => HI.out.few (HNP.out (i + 1)) h1 h2)
            rw [HT2.out] at HONE HNONE HFEW
            obtain ⟨lo2, hlo2⟩ : ∃ x, low * low / 2 ^ D = x := ⟨_, rfl⟩
            obtain ⟨hi2, hhi2⟩ : ∃ x, ceilD (high * high) D = x := ⟨_, rfl⟩
            rw [hlo2] at HDW HDW1 HC1 HONE HNONE HFEW
            rw [hhi2] at HHF HHF1 HC2 HONE HNONE HFEW
            clear hwl hlo2 hhi2 hbb
            go_wp2_with fail
            let FS : List Kept1 := [.n (low), .n (low), .n (low * low), .eq (.int .i64 (D : Nat)), .n (lo2), .n (high), .n (high), .n (high * high), .eq (.int .i64 (D : Nat)), .n (hi2), .any, .any]
            let BS : List Bx := [Bx.nat (.inr (g9)) 10 #[(.slice PL (wl 64 low) cL)] (lo2), Bx.nat (.inr (g11)) 11 #[(.slice PH (wl 64 high) cH)] (hi2)]
            refine region_mono (Held wr (fun j => FS.getD j .any) BS) (by kernel_rfl) (by kernel_rfl) (by kernel_rfl) (Held.start _ _ _ (by simp [BS, Bx.nat, Bx.rat, Bx.ref] <;> exact ⟨E9.out, E11.out⟩) (by simp [BS, Bx.nat, Bx.rat, Bx.ref] <;> omega)) ?_
            refine Steps.held ?_ ?_
            · intro L v w' hJ
              have kb := hJ.out.yet 0 _ rfl (g9) rfl (by kernel_rfl)
              have k0 : w'.cell? ⟨g9, 0, none⟩ = some (.slice PL (wl 64 low) cL) := kb.cell 0
              clear kb
              go_wp2_with fail
              exact ⟨rfl, rfl, hJ.out.same (by rfl) (NL.out.keep hJ.out.held.keep)⟩
            simp only [Act.put, List.setIfInBounds_toArray, List.set_cons_zero, List.set_cons_succ, Nat.reduceAdd]
            refine Steps.held ?_ ?_
            · intro L v w' hJ
              have kb := hJ.out.yet 0 _ rfl (g9) rfl (by kernel_rfl)
              have k0 : w'.cell? ⟨g9, 0, none⟩ = some (.slice PL (wl 64 low) cL) := kb.cell 0
              clear kb
              go_wp2_with fail
              exact ⟨rfl, rfl, hJ.out.same (by rfl) (NL.out.keep hJ.out.held.keep)⟩
            simp only [Act.put, List.setIfInBounds_toArray, List.set_cons_zero, List.set_cons_succ, Nat.reduceAdd]
            refine Steps.held ?_ ?_
            · intro L v w' hJ
              have X0 := Lib.hid (show N64 w' (v 0) (low) from hJ.out.fact 0 (by kernel_rfl))
              have X1 := Lib.hid (show N64 w' (v 1) (low) from hJ.out.fact 1 (by kernel_rfl))
              go_wp2_with fail
              with_reducible refine (HM1.out _ _ _ X0.out X1.out).mono ?_
              rintro e w1 ⟨u, rfl, hu, hb⟩
              go_wp2_with fail
              exact ⟨rfl, rfl, hJ.out.call (by rfl) hb (hu)⟩
            simp only [Act.put, List.setIfInBounds_toArray, List.set_cons_zero, List.set_cons_succ, Nat.reduceAdd]
            refine Steps.held ?_ ?_
            · intro L v w' hJ
              go_wp2_with fail
              exact ⟨rfl, rfl, hJ.out.same (by rfl) (rfl)⟩
            simp only [Act.put, List.setIfInBounds_toArray, List.set_cons_zero, List.set_cons_succ, Nat.reduceAdd]
            refine Steps.held ?_ ?_
            · intro L v w' hJ
              have hv3 : v 3 = .int .i64 (D : Nat) := hJ.out.fact 3 (by kernel_rfl)
              simp only [hv3]
              clear hv3
              have X0 := Lib.hid (show N64 w' (v 2) (low * low) from hJ.out.fact 2 (by kernel_rfl))
              go_wp2_with fail
              with_reducible refine (HDW.out _ _ X0.out).mono ?_
              rintro e w1 ⟨u, rfl, hu, hb⟩
              go_wp2_with fail
              exact ⟨rfl, rfl, hJ.out.call (by rfl) hb (hu)⟩
            simp only [Act.put, List.setIfInBounds_toArray, List.set_cons_zero, List.set_cons_succ, Nat.reduceAdd]
            refine Steps.held ?_ ?_
            · intro L v w' hJ
              have kb := hJ.out.yet 1 _ rfl (g11) rfl (by kernel_rfl)
              have k0 : w'.cell? ⟨g11, 0, none⟩ = some (.slice PH (wl 64 high) cH) := kb.cell 0
              clear kb
              go_wp2_with fail
              exact ⟨rfl, rfl, hJ.out.same (by rfl) (NH.out.keep hJ.out.held.keep)⟩
            simp only [Act.put, List.setIfInBounds_toArray, List.set_cons_zero, List.set_cons_succ, Nat.reduceAdd]
            refine Steps.held ?_ ?_
            · intro L v w' hJ
              have kb := hJ.out.yet 1 _ rfl (g11) rfl (by kernel_rfl)
              have k0 : w'.cell? ⟨g11, 0, none⟩ = some (.slice PH (wl 64 high) cH) := kb.cell 0
              clear kb
              go_wp2_with fail
              exact ⟨rfl, rfl, hJ.out.same (by rfl) (NH.out.keep hJ.out.held.keep)⟩
            simp only [Act.put, List.setIfInBounds_toArray, List.set_cons_zero, List.set_cons_succ, Nat.reduceAdd]
            refine Steps.held ?_ ?_
            · intro L v w' hJ
              have X0 := Lib.hid (show N64 w' (v 5) (high) from hJ.out.fact 5 (by kernel_rfl))
              have X1 := Lib.hid (show N64 w' (v 6) (high) from hJ.out.fact 6 (by kernel_rfl))
              go_wp2_with fail
              with_reducible refine (HM2.out _ _ _ X0.out X1.out).mono ?_
              rintro e w1 ⟨u, rfl, hu, hb⟩
              go_wp2_with fail
              exact ⟨rfl, rfl, hJ.out.call (by rfl) hb (hu)⟩
            simp only [Act.put, List.setIfInBounds_toArray, List.set_cons_zero, List.set_cons_succ, Nat.reduceAdd]
            refine Steps.held ?_ ?_
            · intro L v w' hJ
              go_wp2_with fail
              exact ⟨rfl, rfl, hJ.out.same (by rfl) (rfl)⟩
            simp only [Act.put, List.setIfInBounds_toArray, List.set_cons_zero, List.set_cons_succ, Nat.reduceAdd]
            refine Steps.held ?_ ?_
            · intro L v w' hJ
              have hv8 : v 8 = .int .i64 (D : Nat) := hJ.out.fact 8 (by kernel_rfl)
              simp only [hv8]
              clear hv8
              have X0 := Lib.hid (show N64 w' (v 7) (high * high) from hJ.out.fact 7 (by kernel_rfl))
              go_wp2_with fail
              with_reducible refine (HHF.out _ _ X0.out).mono ?_
              rintro e w1 ⟨u, rfl, hu, hb⟩
              go_wp2_with fail
              exact ⟨rfl, rfl, hJ.out.call (by rfl) hb (hu)⟩
            simp only [Act.put, List.setIfInBounds_toArray, List.set_cons_zero, List.set_cons_succ, Nat.reduceAdd]
            refine Steps.held ?_ ?_
            · intro L v w' hJ
              obtain ⟨hown, hst⟩ := hJ.out.oldbox 0 _ rfl (g9) rfl
              have hN : N64 w' (v 4) (lo2) := hJ.out.fact 4 (by kernel_rfl)
              obtain ⟨P, c, hv, h1, h2, h3⟩ := hN
              have HN := Lib.hid (show N64 w' (.agg #[.slice P (wl 64 (lo2)) c]) (lo2) from ⟨P, c, rfl, h1, h2, h3⟩)
              have kb := hJ.out.box 0 _ rfl rfl (g9) hown
              have k0 : w'.cell? ⟨(g9), 0, none⟩ = some ((.slice PL (wl 64 low) cL)) := kb.cell 0
              have f0 := kb.frozen 0
              have HO := Lib.hid hown
              have HS := Lib.hid hst
              clear kb h1 h2 h3 hown hst
              simp only [hv]
              clear hv
              go_wp2_with fail
              exact ⟨rfl, rfl, hJ.out.fill1 0 _ rfl rfl (by rfl) (g9) HO.out HS.out _ rfl rfl (fun W k => ⟨P, c, rfl, HN.out.keep k⟩) (fun _ => trivial)⟩
            simp only [Act.put, List.setIfInBounds_toArray, List.set_cons_zero, List.set_cons_succ, Nat.reduceAdd]
            refine Steps.held ?_ ?_
            · intro L v w' hJ
              obtain ⟨hown, hst⟩ := hJ.out.oldbox 1 _ rfl (g11) rfl
              have hN : N64 w' (v 9) (hi2) := hJ.out.fact 9 (by kernel_rfl)
              obtain ⟨P, c, hv, h1, h2, h3⟩ := hN
              have HN := Lib.hid (show N64 w' (.agg #[.slice P (wl 64 (hi2)) c]) (hi2) from ⟨P, c, rfl, h1, h2, h3⟩)
              have kb := hJ.out.box 1 _ rfl rfl (g11) hown
              have k0 : w'.cell? ⟨(g11), 0, none⟩ = some ((.slice PH (wl 64 high) cH)) := kb.cell 0
              have f0 := kb.frozen 0
              have HO := Lib.hid hown
              have HS := Lib.hid hst
              clear kb h1 h2 h3 hown hst
              simp only [hv]
              clear hv
              go_wp2_with fail
              exact ⟨rfl, rfl, hJ.out.fill1 1 _ rfl rfl (by rfl) (g11) HO.out HS.out _ rfl rfl (fun W k => ⟨P, c, rfl, HN.out.keep k⟩) (fun _ => trivial)⟩
            simp only [Act.put, List.setIfInBounds_toArray, List.set_cons_zero, List.set_cons_succ, Nat.reduceAdd]
            refine Steps.nil ?_
            intro v w' hJ
            obtain ⟨cs, hblk, hf⟩ := hJ.end_old 0 _ rfl g9 rfl (Nat.le_of_ble_eq_true rfl)
            obtain ⟨PL2, cPL2, rfl, hNL⟩ := hf
            obtain ⟨cs, hblk2, hf⟩ := hJ.end_old 1 _ rfl g11 rfl (Nat.le_of_ble_eq_true rfl)
            obtain ⟨PH2, cPH2, rfl, hNH⟩ := hf
            obtain ⟨PT, cT, hT, hTn⟩ := BT.out
            have hng : g12 ∉ oldsOf BS := by simp [oldsOf, BS, Bx.nat, Bx.rat, Bx.ref]; omega
            replace HB := Lib.hid (hJ.but.to_below HB.out HB.out.size (by intro g hg; have h1 := HGE.out; have h2 := HG9.out; simp [oldsOf, BS, Bx.nat, Bx.rat, Bx.ref] at hg; rcases hg with rfl | rfl <;> omega))
            replace BT := Lib.hid (show Box w' g12 T2 from ⟨PT, cT, hJ.but.blk hT hng, hTn.keep hJ.keep⟩)
            replace E9 := Lib.hid (show Blk w' g9 26 #[.slice PL2 (wl 64 (lo2)) cPL2] from hblk)
            replace E11 := Lib.hid (show Blk w' g11 26 #[.slice PH2 (wl 64 (hi2)) cPH2] from hblk2)
            replace NL := Lib.hid (show N64 w' (.agg #[.slice PL2 (wl 64 (lo2)) cPL2]) (lo2) from hNL)
            replace NH := Lib.hid (show N64 w' (.agg #[.slice PH2 (wl 64 (hi2)) cPH2]) (hi2) from hNH)
            clear hJ hblk hblk2 hNL hNH hT hTn hng
            clear BS FS
            obtain ⟨PT, cT, hT, hTn⟩ := BT.out
            have k9 := E9.out.cell 0
            have k12 := hT.cell 0
            go_wp2_with fail
            with_reducible refine (HC1.out _ _ _ NL.out hTn).mono ?_
            rintro _ w6 ⟨rfl, hb⟩
            clear hT hTn k9 k12
            replace E9 := Lib.hid (blk_below E9.out hb)
            replace E11 := Lib.hid (blk_below E11.out hb)
            replace NL := Lib.hid (NL.out.below hb)
            replace NH := Lib.hid (NH.out.below hb)
            replace BT := Lib.hid (BT.out.below hb)
            replace HB := Lib.hid (cbt HB.out hb)
            clear hb
            by_cases hge : T2 ≤ lo2
            · have dge : decide (0 ≤ cmpN lo2 T2) = true := decide_eq_true (cmpN_ge hge)
              go_wp2_with fail
              let FS : List Kept1 := [.n (lo2), .n (lo2 / 2 ^ 1), .n (hi2), .n (ceilD hi2 1), .any, .any]
              let BS : List Bx := [Bx.nat (.inr (g9)) 4 #[(.slice PL2 (wl 64 lo2) cPL2)] (lo2 / 2 ^ 1), Bx.nat (.inr (g11)) 5 #[(.slice PH2 (wl 64 hi2) cPH2)] (ceilD hi2 1)]
              refine region_mono (Held w6 (fun j => FS.getD j .any) BS) (by kernel_rfl) (by kernel_rfl) (by kernel_rfl) (Held.start _ _ _ (by simp [BS, Bx.nat, Bx.rat, Bx.ref] <;> exact ⟨E9.out, E11.out⟩) (by simp [BS, Bx.nat, Bx.rat, Bx.ref] <;> omega)) ?_
              refine Steps.held ?_ ?_
              · intro L v w' hJ
                have kb := hJ.out.yet 0 _ rfl (g9) rfl (by kernel_rfl)
                have k0 : w'.cell? ⟨g9, 0, none⟩ = some (.slice PL2 (wl 64 lo2) cPL2) := kb.cell 0
                clear kb
                go_wp2_with fail
                exact ⟨rfl, rfl, hJ.out.same (by rfl) (NL.out.keep hJ.out.held.keep)⟩
              simp only [Act.put, List.setIfInBounds_toArray, List.set_cons_zero, List.set_cons_succ, Nat.reduceAdd]
              refine Steps.held ?_ ?_
              · intro L v w' hJ
                have X0 := Lib.hid (show N64 w' (v 0) (lo2) from hJ.out.fact 0 (by kernel_rfl))
                go_wp2_with fail
                with_reducible refine (HDW1.out _ _ X0.out).mono ?_
                rintro e w1 ⟨u, rfl, hu, hb⟩
                go_wp2_with fail
                exact ⟨rfl, rfl, hJ.out.call (by rfl) hb (hu)⟩
              simp only [Act.put, List.setIfInBounds_toArray, List.set_cons_zero, List.set_cons_succ, Nat.reduceAdd]
              refine Steps.held ?_ ?_
              · intro L v w' hJ
                have kb := hJ.out.yet 1 _ rfl (g11) rfl (by kernel_rfl)
                have k0 : w'.cell? ⟨g11, 0, none⟩ = some (.slice PH2 (wl 64 hi2) cPH2) := kb.cell 0
                clear kb
                go_wp2_with fail
                exact ⟨rfl, rfl, hJ.out.same (by rfl) (NH.out.keep hJ.out.held.keep)⟩
              simp only [Act.put, List.setIfInBounds_toArray, List.set_cons_zero, List.set_cons_succ, Nat.reduceAdd]
              refine Steps.held ?_ ?_
              · intro L v w' hJ
                have X0 := Lib.hid (show N64 w' (v 2) (hi2) from hJ.out.fact 2 (by kernel_rfl))
                go_wp2_with fail
                with_reducible refine (HHF1.out _ _ X0.out).mono ?_
                rintro e w1 ⟨u, rfl, hu, hb⟩
                go_wp2_with fail
                exact ⟨rfl, rfl, hJ.out.call (by rfl) hb (hu)⟩
              simp only [Act.put, List.setIfInBounds_toArray, List.set_cons_zero, List.set_cons_succ, Nat.reduceAdd]
              refine Steps.held ?_ ?_
              · intro L v w' hJ
                obtain ⟨hown, hst⟩ := hJ.out.oldbox 0 _ rfl (g9) rfl
                have hN : N64 w' (v 1) (lo2 / 2 ^ 1) := hJ.out.fact 1 (by kernel_rfl)
                obtain ⟨P, c, hv, h1, h2, h3⟩ := hN
                have HN := Lib.hid (show N64 w' (.agg #[.slice P (wl 64 (lo2 / 2 ^ 1)) c]) (lo2 / 2 ^ 1) from ⟨P, c, rfl, h1, h2, h3⟩)
                have kb := hJ.out.box 0 _ rfl rfl (g9) hown
                have k0 : w'.cell? ⟨(g9), 0, none⟩ = some ((.slice PL2 (wl 64 lo2) cPL2)) := kb.cell 0
                have f0 := kb.frozen 0
                have HO := Lib.hid hown
                have HS := Lib.hid hst
                clear kb h1 h2 h3 hown hst
                simp only [hv]
                clear hv
                go_wp2_with fail
                exact ⟨rfl, rfl, hJ.out.fill1 0 _ rfl rfl (by rfl) (g9) HO.out HS.out _ rfl rfl (fun W k => ⟨P, c, rfl, HN.out.keep k⟩) (fun _ => trivial)⟩
              simp only [Act.put, List.setIfInBounds_toArray, List.set_cons_zero, List.set_cons_succ, Nat.reduceAdd]
              refine Steps.held ?_ ?_
              · intro L v w' hJ
                obtain ⟨hown, hst⟩ := hJ.out.oldbox 1 _ rfl (g11) rfl
                have hN : N64 w' (v 3) (ceilD hi2 1) := hJ.out.fact 3 (by kernel_rfl)
                obtain ⟨P, c, hv, h1, h2, h3⟩ := hN
                have HN := Lib.hid (show N64 w' (.agg #[.slice P (wl 64 (ceilD hi2 1)) c]) (ceilD hi2 1) from ⟨P, c, rfl, h1, h2, h3⟩)
                have kb := hJ.out.box 1 _ rfl rfl (g11) hown
                have k0 : w'.cell? ⟨(g11), 0, none⟩ = some ((.slice PH2 (wl 64 hi2) cPH2)) := kb.cell 0
                have f0 := kb.frozen 0
                have HO := Lib.hid hown
                have HS := Lib.hid hst
                clear kb h1 h2 h3 hown hst
                simp only [hv]
                clear hv
                go_wp2_with fail
                exact ⟨rfl, rfl, hJ.out.fill1 1 _ rfl rfl (by rfl) (g11) HO.out HS.out _ rfl rfl (fun W k => ⟨P, c, rfl, HN.out.keep k⟩) (fun _ => trivial)⟩
              simp only [Act.put, List.setIfInBounds_toArray, List.set_cons_zero, List.set_cons_succ, Nat.reduceAdd]
              refine Steps.nil ?_
              intro v w' hJ
              obtain ⟨cs, hblk, hf⟩ := hJ.end_old 0 _ rfl g9 rfl (Nat.le_of_ble_eq_true rfl)
              obtain ⟨PL3, cPL3, rfl, hNL⟩ := hf
              obtain ⟨cs, hblk2, hf⟩ := hJ.end_old 1 _ rfl g11 rfl (Nat.le_of_ble_eq_true rfl)
              obtain ⟨PH3, cPH3, rfl, hNH⟩ := hf
              obtain ⟨PT, cT, hT, hTn⟩ := BT.out
              have hng : g12 ∉ oldsOf BS := by simp [oldsOf, BS, Bx.nat, Bx.rat, Bx.ref]; omega
              replace HB := Lib.hid (hJ.but.to_below HB.out HB.out.size (by intro g hg; have h1 := HGE.out; have h2 := HG9.out; simp [oldsOf, BS, Bx.nat, Bx.rat, Bx.ref] at hg; rcases hg with rfl | rfl <;> omega))
              replace BT := Lib.hid (show Box w' g12 T2 from ⟨PT, cT, hJ.but.blk hT hng, hTn.keep hJ.keep⟩)
              replace E9 := Lib.hid (show Blk w' g9 26 #[.slice PL3 (wl 64 (lo2 / 2 ^ 1)) cPL3] from hblk)
              replace E11 := Lib.hid (show Blk w' g11 26 #[.slice PH3 (wl 64 (ceilD hi2 1)) cPH3] from hblk2)
              replace NL := Lib.hid (show N64 w' (.agg #[.slice PL3 (wl 64 (lo2 / 2 ^ 1)) cPL3]) (lo2 / 2 ^ 1) from hNL)
              replace NH := Lib.hid (show N64 w' (.agg #[.slice PH3 (wl 64 (ceilD hi2 1)) cPH3]) (ceilD hi2 1) from hNH)
              clear hJ hblk hblk2 hNL hNH hT hTn hng
              clear BS FS
              have HI2 := Lib.hid (HONE.out hge)
              go_wp2_with fail
              exact ⟨⟨i + 1, _, _, _, _, _, Nat.succ_le_of_lt hlt, congrArg (Value.int .i64) hw3, congrArg (Value.int .i64) (two_out1 out), HI2, Lib.hid ⟨_, _, E9.out, NL.out⟩, Lib.hid ⟨_, _, E11.out, NH.out⟩, BT, HB⟩, by rw [hw3]; exact less_i hlt⟩
            · have dge : decide (0 ≤ cmpN lo2 T2) = false := by rw [cmpN_lt (Nat.lt_of_not_le hge)]; rfl
              obtain ⟨PT, cT, hT, hTn⟩ := BT.out
              have k11 := E11.out.cell 0
              have k12 := hT.cell 0
              go_wp2_with fail
              with_reducible refine (HC2.out _ _ _ NH.out hTn).mono ?_
              rintro _ w7 ⟨rfl, hb⟩
              clear hT hTn k11 k12
              replace E9 := Lib.hid (blk_below E9.out hb)
              replace E11 := Lib.hid (blk_below E11.out hb)
              replace NL := Lib.hid (NL.out.below hb)
              replace NH := Lib.hid (NH.out.below hb)
              replace BT := Lib.hid (BT.out.below hb)
              replace HB := Lib.hid (cbt HB.out hb)
              clear hb
              by_cases hgt : T2 < hi2
              · have dgt : decide (0 < cmpN hi2 T2) = true := by rw [cmpN_gt hgt]; rfl
                have hf := HFEW.out (Nat.lt_of_not_le hge) hgt
                have hw5 := wrap_D hD hDM2
                have HN2 := Lib.hid (cbt hBr.out HB.out)
                have hD2 := few_D hf hlt HBB.out HDM.out
                have hD3 := hD1.out
                clear hf
                go_wp2_with fail
                exact ⟨⟨2 * D, congrArg (Value.int .i64) (two_D D), hD2, Lib.hid (two_pos_D hD3), HN2⟩, less_D hD3 hD2⟩
              · have dgt : decide (0 < cmpN hi2 T2) = false := by
                  rcases Nat.lt_or_eq_of_le (Nat.le_of_not_lt hgt) with h | h
                  · rw [cmpN_lt h]; rfl
                  · rw [h, cmpN_self]; rfl
                have HI2 := Lib.hid (HNONE.out (Nat.le_of_not_lt hgt))
                go_wp2_with fail
                exact ⟨⟨i + 1, _, _, _, _, _, Nat.succ_le_of_lt hlt, congrArg (Value.int .i64) hw3, congrArg (Value.int .i64) (Int.mul_comm out 2), HI2, Lib.hid ⟨_, _, E9.out, NL.out⟩, Lib.hid ⟨_, _, E11.out, NH.out⟩, BT, HB⟩, by rw [hw3]; exact less_i hlt⟩
          · have hie : i = b := by omega
            subst hie
            have dlt : decide ((i : Int) < (i : Int)) = false := decide_eq_false (by omega)
            have HW := Lib.hid (HI.out.e.w HI.out.pos HI.out.le HI.out.lt (pw_pos HD0.out i))
            have HEND := Lib.hid (cbt HB0.out (cbt hBr.out HB.out))
            go_wp2_with fail
            rw [Exit.noGoto_ret]
            exact bodyPost_ret (v := .tuple #[.int .i64 out, .int .i64 0]) (by simp [results, Try.results37, go_sem]) rfl ⟨out, rfl, HW.out, HEND.out⟩
      · rw [if_neg hrem] at HST
        rw [decide_eq_false hrem] at HSD
        have hlw := HST.out.top
        have hlw2 := wl_bits (Nat.lt_of_le_of_lt (Nat.le_trans (Nat.le_succ low0) hlw) (Nat.pow_lt_pow_right (a := 2) (by decide) (Nat.lt_succ_self (D + 1))))
        have HAD := Lib.hid (fun va vb W h1 h2 => nadd_any va vb low0 1 W h1 h2 (by omega) (by omega))
        clear hlw hlw2
        clear hrem
        have HB1 := Lib.hid (Below.refl wo.heap.size wo)
        go_wp2_with fail
        refine HSD.out.mono ?_
        rintro _ w2 ⟨u9, rfl, hu, hb⟩
        have N9 := Lib.hid hu
        replace HB1 := Lib.hid (cbt HB1.out hb)
        clear hu hb k00 k01 HSD
        have hg9 := HB1.out.size
        have Z0 := N9.out
        obtain ⟨PT0, cpT0, rfl, _, _, _⟩ := Z0
        have e9 := Blk.new w2 26 #[.slice PT0 (wl 64 (low0)) cpT0]
        have hb := cba (Below.refl _ w2) (.cells #[.slice PT0 (wl 64 (low0)) cpT0] 26)
        go_upto_region 11 with (fail)
        obtain ⟨T, hS⟩ : ∃ S, (w2.alloc (.cells #[.slice PT0 (wl 64 (low0)) cpT0] 26)) = S := ⟨_, rfl⟩
        rw [hS] at e9 hb ⊢
        obtain ⟨g9, hg⟩ : ∃ g, w2.heap.size = g := ⟨_, rfl⟩
        rw [hg] at e9 hg9
        simp only [hg]
        replace N9 := Lib.hid (N9.out.below hb)
        replace HB1 := Lib.hid (cbt HB1.out hb)
        have E9 := Lib.hid e9
        clear hS hg hb e9
        have HG9 := Lib.hid hg9
        clear hg9
        have k9 := E9.out.cell 0
        have N11 := N9
        have e11 := Blk.new T 26 #[.slice PT0 (wl 64 low0) cpT0]
        have hb := cba (Below.refl _ T) (.cells #[.slice PT0 (wl 64 low0) cpT0] 26)
        have h911 : g9 < T.heap.size := E9.out.lt
        have hge9 : wo.heap.size ≤ g9 := HG9.out
        have hge := HB1.out.size
        go_upto_region 12 with (fail)
        obtain ⟨U, hU⟩ : ∃ S, T.alloc (.cells #[.slice PT0 (wl 64 low0) cpT0] 26) = S := ⟨_, rfl⟩
        rw [hU] at e11 hb ⊢
        obtain ⟨g11, hg⟩ : ∃ g, T.heap.size = g := ⟨_, rfl⟩
        rw [hg] at e11 h911 hge
        simp only [hg]
        replace N9 := Lib.hid (N9.out.below hb)
        replace N11 := Lib.hid (N11.out.below hb)
        replace E9 := Lib.hid (blk_below E9.out hb)
        replace HB1 := Lib.hid (cbt HB1.out hb)
        have E11 := Lib.hid e11
        have HGE := Lib.hid hge
        clear hge hge9
        clear hU hg hb e11 k9
        go_wp2_with fail
        let FS : List Kept1 := [.n (low0), .n (1), .n (low0 + 1), .any]
        let BS : List Bx := [Bx.nat (.inr (g11)) 3 #[(.slice PT0 (wl 64 low0) cpT0)] (low0 + 1)]
        refine region_mono (Held U (fun j => FS.getD j .any) BS) (by kernel_rfl) (by kernel_rfl) (by kernel_rfl) (Held.start _ _ _ (by simp [BS, Bx.nat, Bx.rat, Bx.ref] <;> exact E11.out) (by simp [BS, Bx.nat, Bx.rat, Bx.ref])) ?_
        refine Steps.held ?_ ?_
        · intro L v w' hJ
          have kb := hJ.out.blk E9.out (by simp [oldsOf, BS, Bx.nat, Bx.rat, Bx.ref] <;> omega)
          have k0 := kb.cell 0
          clear kb
          go_wp2_with fail
          exact ⟨rfl, rfl, hJ.out.same (by rfl) (N9.out.keep hJ.out.held.keep)⟩
        simp only [Act.put, List.setIfInBounds_toArray, List.set_cons_zero, List.set_cons_succ, Nat.reduceAdd]
        refine Steps.held ?_ ?_
        · intro L v w' hJ
          go_wp2_with fail
          with_reducible refine (HON.out _).mono ?_
          rintro e w1 ⟨u, rfl, hu, hb⟩
          go_wp2_with fail
          exact ⟨rfl, rfl, hJ.out.call (by rfl) hb (hu)⟩
        simp only [Act.put, List.setIfInBounds_toArray, List.set_cons_zero, List.set_cons_succ, Nat.reduceAdd]
        refine Steps.held ?_ ?_
        · intro L v w' hJ
          have X0 := Lib.hid (show N64 w' (v 0) (low0) from hJ.out.fact 0 (by kernel_rfl))
          have X1 := Lib.hid (show N64 w' (v 1) (1) from hJ.out.fact 1 (by kernel_rfl))
          go_wp2_with fail
          with_reducible refine (HAD.out _ _ _ X0.out X1.out).mono ?_
          rintro e w1 ⟨u, rfl, hu, hb⟩
          go_wp2_with fail
          exact ⟨rfl, rfl, hJ.out.call (by rfl) hb (hu)⟩
        simp only [Act.put, List.setIfInBounds_toArray, List.set_cons_zero, List.set_cons_succ, Nat.reduceAdd]
        refine Steps.held ?_ ?_
        · intro L v w' hJ
          obtain ⟨hown, hst⟩ := hJ.out.oldbox 0 _ rfl (g11) rfl
          have hN : N64 w' (v 2) (low0 + 1) := hJ.out.fact 2 (by kernel_rfl)
          obtain ⟨P, c, hv, h1, h2, h3⟩ := hN
          have HN := Lib.hid (show N64 w' (.agg #[.slice P (wl 64 (low0 + 1)) c]) (low0 + 1) from ⟨P, c, rfl, h1, h2, h3⟩)
          have kb := hJ.out.box 0 _ rfl rfl (g11) hown
          have k0 : w'.cell? ⟨(g11), 0, none⟩ = some ((.slice PT0 (wl 64 low0) cpT0)) := kb.cell 0
          have f0 := kb.frozen 0
          have HO := Lib.hid hown
          have HS := Lib.hid hst
          clear kb h1 h2 h3 hown hst
          simp only [hv]
          clear hv
          go_wp2_with fail
          exact ⟨rfl, rfl, hJ.out.fill1 0 _ rfl rfl (by rfl) (g11) HO.out HS.out _ rfl rfl (fun W k => ⟨P, c, rfl, HN.out.keep k⟩) (fun _ => trivial)⟩
        simp only [Act.put, List.setIfInBounds_toArray, List.set_cons_zero, List.set_cons_succ, Nat.reduceAdd]
        refine Steps.nil ?_
        intro v w' hJ
        obtain ⟨cs, hblk, hf⟩ := hJ.end_old 0 _ rfl g11 rfl (Nat.le_of_ble_eq_true rfl)
        obtain ⟨PH, cH, rfl, hN⟩ := hf
        replace E9 := Lib.hid (hJ.but.blk E9.out (by simp [oldsOf, BS, Bx.nat, Bx.rat, Bx.ref]; omega))
        replace N9 := Lib.hid (N9.out.keep hJ.keep)
        replace N11 := Lib.hid hN
        replace E11 := Lib.hid (show Blk w' g11 26 _ from hblk)
        replace HB1 := Lib.hid (hJ.but.to_below HB1.out HB1.out.size (by intro g hg; simp [oldsOf, BS, Bx.nat, Bx.rat, Bx.ref] at hg; subst hg; have := HGE.out; omega))
        clear hJ hblk hN
        have BHI := Lib.hid (show Box w' g11 (low0 + 1) from ⟨PH, cH, E11.out, N11.out⟩)
        have BLO := Lib.hid (show Box w' g9 low0 from ⟨PT0, cpT0, E9.out, N9.out⟩)
        clear E9 N9 E11 N11
        go_wp2_with fail
        with_reducible refine (HON.out _).mono ?_
        rintro _ w4 ⟨u12, rfl, hu, hb⟩
        replace BLO := Lib.hid (BLO.out.below hb)
        replace BHI := Lib.hid (BHI.out.below hb)
        replace HB1 := Lib.hid (cbt HB1.out hb)
        have N1 := Lib.hid hu
        clear hu hb
        go_wp2_with fail
        with_reducible refine (HTW.out _ _ N1.out).mono ?_
        rintro _ w5 ⟨u13, rfl, hu, hb⟩
        replace BLO := Lib.hid (BLO.out.below hb)
        replace BHI := Lib.hid (BHI.out.below hb)
        replace HB1 := Lib.hid (cbt HB1.out hb)
        have N12 := Lib.hid hu
        clear hu hb N1
        have h1112 : g11 < w5.heap.size := by obtain ⟨_, _, h, _⟩ := BHI.out; exact h.lt
        have Z0 := N12.out
        obtain ⟨PV0, cpV0, rfl, _, _, _⟩ := Z0
        have e12 := Blk.new w5 26 #[.slice PV0 (wl 64 (T2)) cpV0]
        have hb := cba (Below.refl _ w5) (.cells #[.slice PV0 (wl 64 (T2)) cpV0] 26)
        go_upto_region 15 with (fail)
        obtain ⟨V, hS⟩ : ∃ S, (w5.alloc (.cells #[.slice PV0 (wl 64 (T2)) cpV0] 26)) = S := ⟨_, rfl⟩
        rw [hS] at e12 hb ⊢
        obtain ⟨g12, hg⟩ : ∃ g, w5.heap.size = g := ⟨_, rfl⟩
        rw [hg] at e12 h1112
        simp only [hg]
        replace N12 := Lib.hid (N12.out.below hb)
        replace BLO := Lib.hid (BLO.out.below hb)
        replace BHI := Lib.hid (BHI.out.below hb)
        replace HB1 := Lib.hid (cbt HB1.out hb)
        have E12 := Lib.hid e12
        clear hS hg hb e12
        have BT0 := Lib.hid (show Box V g12 T2 from ⟨_, _, E12.out, N12.out⟩)
        clear E12 N12
        have HNP := Lib.hid hNP.out
        clear HSC HTW HON E0r Har HWH HU1 HU2 HCM HNU HDE
        go_wp2_with fail
        go_loopw [13, 64] (fun v13 v64 wx => ∃ (i low high P Q : Nat) (out : Int), i ≤ b ∧ v64 = .int .i64 (i : Nat) ∧ v13 = .int .i64 out ∧ Hid (LogI n d D m i low high out P Q) ∧ Hid (Box wx g9 low) ∧ Hid (Box wx g11 high) ∧ Hid (Box wx g12 T2) ∧ Hid (Below wo.heap.size wo wx)) (fun _ v64 _ => b - (intOf v64).toNat)
        case atStart => exact ⟨0, _, _, P0, Q0, kk, Nat.zero_le b, rfl, rfl, HST, BLO, BHI, BT0, HB1⟩
        case round =>
          obtain ⟨i, low, high, P, Q, out, hib, rfl, rfl, HI, BL, BH, BT, HB⟩ := hrel
          obtain ⟨PL, cL, hk, hn⟩ := BL.out
          have E9 := Lib.hid hk
          have NL := Lib.hid hn
          obtain ⟨PH, cH, hk, hn⟩ := BH.out
          have E11 := Lib.hid hk
          have NH := Lib.hid hn
          clear hk hn BL BH BLO BHI BT0 HST HB1
          have hbb := HBB.out
          have hob := HI.out.bound HN0.out HD0.out HNM.out HDM'.out HMM.out (show i ≤ 12 by omega)
          by_cases hlt : i < b
          · have dlt : decide ((i : Int) < (b : Int)) = true := decide_eq_true (by omega)
            have hwl := HI.out.wls
            have hw2 : wrap64 (out * 2) = 2 * out := by rw [Go.IntWalk.wrap64_in (out * 2) (by omega)]; omega
            have hw3 : wrap64 ((i : Int) + 1) = ((i + 1 : Nat) : Int) := by rw [Go.IntWalk.wrap64_in _ (by omega)]; omega
            have HM1 := Lib.hid (fun va vb W h1 h2 => nmul_any va vb low low W h1 h2 (by omega) (by omega))
            have HM2 := Lib.hid (fun va vb W h1 h2 => nmul_any va vb high high W h1 h2 (by omega) (by omega))
            have HDW := Lib.hid (fun v W h => ndown_any v (low * low) W h (by omega) (D : Int) (by omega))
            rw [Int.toNat_natCast] at HDW
            have HHF := Lib.hid (fun v W h => lhalf_any v (high * high) D W h (by omega) (by omega))
            have HDW1 := Lib.hid (fun v W h => ndown_any v (low * low / 2 ^ D) W h (by omega) 1 (by omega))
            rw [show (1 : Int).toNat = 1 from rfl] at HDW1
            have HHF1 := Lib.hid (fun v W h => lhalf_any v (ceilD (high * high) D) 1 W h (by omega) (by omega))
            rw [show ((1 : Nat) : Int) = 1 from rfl] at HHF1
            have HC1 := Lib.hid (fun va vb W h1 h2 => ncmp_any va vb (low * low / 2 ^ D) T2 W h1 h2)
            have HC2 := Lib.hid (fun va vb W h1 h2 => ncmp_any va vb (ceilD (high * high) D) T2 W h1 h2)
            have HONE := Lib.hid (fun h : 2 ^ (D + 1) ≤ low * low / 2 ^ D => HI.out.one h)
            have HNONE := Lib.hid (fun h : ceilD (high * high) D ≤ 2 ^ (D + 1) => HI.out.none (HNP.out (i + 1)) h)
            have HFEW := Lib.hid (fun (h1 : low * low / 2 ^ D < 2 ^ (D + 1)) (h2 : 2 ^ (D + 1) < ceilD (high * high) D) => HI.out.few (HNP.out (i + 1)) h1 h2)
            rw [HT2.out] at HONE HNONE HFEW
            obtain ⟨lo2, hlo2⟩ : ∃ x, low * low / 2 ^ D = x := ⟨_, rfl⟩
            obtain ⟨hi2, hhi2⟩ : ∃ x, ceilD (high * high) D = x := ⟨_, rfl⟩
            rw [hlo2] at HDW HDW1 HC1 HONE HNONE HFEW
            rw [hhi2] at HHF HHF1 HC2 HONE HNONE HFEW
            clear hwl hlo2 hhi2 hbb
            go_wp2_with fail
            let FS : List Kept1 := [.n (low), .n (low), .n (low * low), .eq (.int .i64 (D : Nat)), .n (lo2), .n (high), .n (high), .n (high * high), .eq (.int .i64 (D : Nat)), .n (hi2), .any, .any]
            let BS : List Bx := [Bx.nat (.inr (g9)) 10 #[(.slice PL (wl 64 low) cL)] (lo2), Bx.nat (.inr (g11)) 11 #[(.slice PH (wl 64 high) cH)] (hi2)]
            refine region_mono (Held wr (fun j => FS.getD j .any) BS) (by kernel_rfl) (by kernel_rfl) (by kernel_rfl) (Held.start _ _ _ (by simp [BS, Bx.nat, Bx.rat, Bx.ref] <;> exact ⟨E9.out, E11.out⟩) (by simp [BS, Bx.nat, Bx.rat, Bx.ref] <;> omega)) ?_
            refine Steps.held ?_ ?_
            · intro L v w' hJ
              have kb := hJ.out.yet 0 _ rfl (g9) rfl (by kernel_rfl)
              have k0 : w'.cell? ⟨g9, 0, none⟩ = some (.slice PL (wl 64 low) cL) := kb.cell 0
              clear kb
              go_wp2_with fail
              exact ⟨rfl, rfl, hJ.out.same (by rfl) (NL.out.keep hJ.out.held.keep)⟩
            simp only [Act.put, List.setIfInBounds_toArray, List.set_cons_zero, List.set_cons_succ, Nat.reduceAdd]
            refine Steps.held ?_ ?_
            · intro L v w' hJ
              have kb := hJ.out.yet 0 _ rfl (g9) rfl (by kernel_rfl)
              have k0 : w'.cell? ⟨g9, 0, none⟩ = some (.slice PL (wl 64 low) cL) := kb.cell 0
              clear kb
              go_wp2_with fail
              exact ⟨rfl, rfl, hJ.out.same (by rfl) (NL.out.keep hJ.out.held.keep)⟩
            simp only [Act.put, List.setIfInBounds_toArray, List.set_cons_zero, List.set_cons_succ, Nat.reduceAdd]
            refine Steps.held ?_ ?_
            · intro L v w' hJ
              have X0 := Lib.hid (show N64 w' (v 0) (low) from hJ.out.fact 0 (by kernel_rfl))
              have X1 := Lib.hid (show N64 w' (v 1) (low) from hJ.out.fact 1 (by kernel_rfl))
              go_wp2_with fail
              with_reducible refine (HM1.out _ _ _ X0.out X1.out).mono ?_
              rintro e w1 ⟨u, rfl, hu, hb⟩
              go_wp2_with fail
              exact ⟨rfl, rfl, hJ.out.call (by rfl) hb (hu)⟩
            simp only [Act.put, List.setIfInBounds_toArray, List.set_cons_zero, List.set_cons_succ, Nat.reduceAdd]
            refine Steps.held ?_ ?_
            · intro L v w' hJ
              go_wp2_with fail
              exact ⟨rfl, rfl, hJ.out.same (by rfl) (rfl)⟩
            simp only [Act.put, List.setIfInBounds_toArray, List.set_cons_zero, List.set_cons_succ, Nat.reduceAdd]
            refine Steps.held ?_ ?_
            · intro L v w' hJ
              have hv3 : v 3 = .int .i64 (D : Nat) := hJ.out.fact 3 (by kernel_rfl)
              simp only [hv3]
              clear hv3
              have X0 := Lib.hid (show N64 w' (v 2) (low * low) from hJ.out.fact 2 (by kernel_rfl))
              go_wp2_with fail
              with_reducible refine (HDW.out _ _ X0.out).mono ?_
              rintro e w1 ⟨u, rfl, hu, hb⟩
              go_wp2_with fail
              exact ⟨rfl, rfl, hJ.out.call (by rfl) hb (hu)⟩
            simp only [Act.put, List.setIfInBounds_toArray, List.set_cons_zero, List.set_cons_succ, Nat.reduceAdd]
            refine Steps.held ?_ ?_
            · intro L v w' hJ
              have kb := hJ.out.yet 1 _ rfl (g11) rfl (by kernel_rfl)
              have k0 : w'.cell? ⟨g11, 0, none⟩ = some (.slice PH (wl 64 high) cH) := kb.cell 0
              clear kb
              go_wp2_with fail
              exact ⟨rfl, rfl, hJ.out.same (by rfl) (NH.out.keep hJ.out.held.keep)⟩
            simp only [Act.put, List.setIfInBounds_toArray, List.set_cons_zero, List.set_cons_succ, Nat.reduceAdd]
            refine Steps.held ?_ ?_
            · intro L v w' hJ
              have kb := hJ.out.yet 1 _ rfl (g11) rfl (by kernel_rfl)
              have k0 : w'.cell? ⟨g11, 0, none⟩ = some (.slice PH (wl 64 high) cH) := kb.cell 0
              clear kb
              go_wp2_with fail
              exact ⟨rfl, rfl, hJ.out.same (by rfl) (NH.out.keep hJ.out.held.keep)⟩
            simp only [Act.put, List.setIfInBounds_toArray, List.set_cons_zero, List.set_cons_succ, Nat.reduceAdd]
            refine Steps.held ?_ ?_
            · intro L v w' hJ
              have X0 := Lib.hid (show N64 w' (v 5) (high) from hJ.out.fact 5 (by kernel_rfl))
              have X1 := Lib.hid (show N64 w' (v 6) (high) from hJ.out.fact 6 (by kernel_rfl))
              go_wp2_with fail
              with_reducible refine (HM2.out _ _ _ X0.out X1.out).mono ?_
              rintro e w1 ⟨u, rfl, hu, hb⟩
              go_wp2_with fail
              exact ⟨rfl, rfl, hJ.out.call (by rfl) hb (hu)⟩
            simp only [Act.put, List.setIfInBounds_toArray, List.set_cons_zero, List.set_cons_succ, Nat.reduceAdd]
            refine Steps.held ?_ ?_
            · intro L v w' hJ
              go_wp2_with fail
              exact ⟨rfl, rfl, hJ.out.same (by rfl) (rfl)⟩
            simp only [Act.put, List.setIfInBounds_toArray, List.set_cons_zero, List.set_cons_succ, Nat.reduceAdd]
            refine Steps.held ?_ ?_
            · intro L v w' hJ
              have hv8 : v 8 = .int .i64 (D : Nat) := hJ.out.fact 8 (by kernel_rfl)
              simp only [hv8]
              clear hv8
              have X0 := Lib.hid (show N64 w' (v 7) (high * high) from hJ.out.fact 7 (by kernel_rfl))
              go_wp2_with fail
              with_reducible refine (HHF.out _ _ X0.out).mono ?_
              rintro e w1 ⟨u, rfl, hu, hb⟩
              go_wp2_with fail
              exact ⟨rfl, rfl, hJ.out.call (by rfl) hb (hu)⟩
            simp only [Act.put, List.setIfInBounds_toArray, List.set_cons_zero, List.set_cons_succ, Nat.reduceAdd]
            refine Steps.held ?_ ?_
            · intro L v w' hJ
              obtain ⟨hown, hst⟩ := hJ.out.oldbox 0 _ rfl (g9) rfl
              have hN : N64 w' (v 4) (lo2) := hJ.out.fact 4 (by kernel_rfl)
              obtain ⟨P, c, hv, h1, h2, h3⟩ := hN
              have HN := Lib.hid (show N64 w' (.agg #[.slice P (wl 64 (lo2)) c]) (lo2) from ⟨P, c, rfl, h1, h2, h3⟩)
              have kb := hJ.out.box 0 _ rfl rfl (g9) hown
              have k0 : w'.cell? ⟨(g9), 0, none⟩ = some ((.slice PL (wl 64 low) cL)) := kb.cell 0
              have f0 := kb.frozen 0
              have HO := Lib.hid hown
              have HS := Lib.hid hst
              clear kb h1 h2 h3 hown hst
              simp only [hv]
              clear hv
              go_wp2_with fail
              exact ⟨rfl, rfl, hJ.out.fill1 0 _ rfl rfl (by rfl) (g9) HO.out HS.out _ rfl rfl (fun W k => ⟨P, c, rfl, HN.out.keep k⟩) (fun _ => trivial)⟩
            simp only [Act.put, List.setIfInBounds_toArray, List.set_cons_zero, List.set_cons_succ, Nat.reduceAdd]
            refine Steps.held ?_ ?_
            · intro L v w' hJ
              obtain ⟨hown, hst⟩ := hJ.out.oldbox 1 _ rfl (g11) rfl
              have hN : N64 w' (v 9) (hi2) := hJ.out.fact 9 (by kernel_rfl)
              obtain ⟨P, c, hv, h1, h2, h3⟩ := hN
              have HN := Lib.hid (show N64 w' (.agg #[.slice P (wl 64 (hi2)) c]) (hi2) from ⟨P, c, rfl, h1, h2, h3⟩)
              have kb := hJ.out.box 1 _ rfl rfl (g11) hown
              have k0 : w'.cell? ⟨(g11), 0, none⟩ = some ((.slice PH (wl 64 high) cH)) := kb.cell 0
              have f0 := kb.frozen 0
              have HO := Lib.hid hown
              have HS := Lib.hid hst
              clear kb h1 h2 h3 hown hst
              simp only [hv]
              clear hv
              go_wp2_with fail
              exact ⟨rfl, rfl, hJ.out.fill1 1 _ rfl rfl (by rfl) (g11) HO.out HS.out _ rfl rfl (fun W k => ⟨P, c, rfl, HN.out.keep k⟩) (fun _ => trivial)⟩
            simp only [Act.put, List.setIfInBounds_toArray, List.set_cons_zero, List.set_cons_succ, Nat.reduceAdd]
            refine Steps.nil ?_
            intro v w' hJ
            obtain ⟨cs, hblk, hf⟩ := hJ.end_old 0 _ rfl g9 rfl (Nat.le_of_ble_eq_true rfl)
            obtain ⟨PL2, cPL2, rfl, hNL⟩ := hf
            obtain ⟨cs, hblk2, hf⟩ := hJ.end_old 1 _ rfl g11 rfl (Nat.le_of_ble_eq_true rfl)
            obtain ⟨PH2, cPH2, rfl, hNH⟩ := hf
            obtain ⟨PT, cT, hT, hTn⟩ := BT.out
            have hng : g12 ∉ oldsOf BS := by simp [oldsOf, BS, Bx.nat, Bx.rat, Bx.ref]; omega
            replace HB := Lib.hid (hJ.but.to_below HB.out HB.out.size (by intro g hg; have h1 := HGE.out; have h2 := HG9.out; simp [oldsOf, BS, Bx.nat, Bx.rat, Bx.ref] at hg; rcases hg with rfl | rfl <;> omega))
            replace BT := Lib.hid (show Box w' g12 T2 from ⟨PT, cT, hJ.but.blk hT hng, hTn.keep hJ.keep⟩)
            replace E9 := Lib.hid (show Blk w' g9 26 #[.slice PL2 (wl 64 (lo2)) cPL2] from hblk)
            replace E11 := Lib.hid (show Blk w' g11 26 #[.slice PH2 (wl 64 (hi2)) cPH2] from hblk2)
            replace NL := Lib.hid (show N64 w' (.agg #[.slice PL2 (wl 64 (lo2)) cPL2]) (lo2) from hNL)
            replace NH := Lib.hid (show N64 w' (.agg #[.slice PH2 (wl 64 (hi2)) cPH2]) (hi2) from hNH)
            clear hJ hblk hblk2 hNL hNH hT hTn hng
            clear BS FS
            obtain ⟨PT, cT, hT, hTn⟩ := BT.out
            have k9 := E9.out.cell 0
            have k12 := hT.cell 0
            go_wp2_with fail
            with_reducible refine (HC1.out _ _ _ NL.out hTn).mono ?_
            rintro _ w6 ⟨rfl, hb⟩
            clear hT hTn k9 k12
            replace E9 := Lib.hid (blk_below E9.out hb)
            replace E11 := Lib.hid (blk_below E11.out hb)
            replace NL := Lib.hid (NL.out.below hb)
            replace NH := Lib.hid (NH.out.below hb)
            replace BT := Lib.hid (BT.out.below hb)
            replace HB := Lib.hid (cbt HB.out hb)
            clear hb
            by_cases hge : T2 ≤ lo2
            · have dge : decide (0 ≤ cmpN lo2 T2) = true := decide_eq_true (cmpN_ge hge)
              go_wp2_with fail
              let FS : List Kept1 := [.n (lo2), .n (lo2 / 2 ^ 1), .n (hi2), .n (ceilD hi2 1), .any, .any]
              let BS : List Bx := [Bx.nat (.inr (g9)) 4 #[(.slice PL2 (wl 64 lo2) cPL2)] (lo2 / 2 ^ 1), Bx.nat (.inr (g11)) 5 #[(.slice PH2 (wl 64 hi2) cPH2)] (ceilD hi2 1)]
              refine region_mono (Held w6 (fun j => FS.getD j .any) BS) (by kernel_rfl) (by kernel_rfl) (by kernel_rfl) (Held.start _ _ _ (by simp [BS, Bx.nat, Bx.rat, Bx.ref] <;> exact ⟨E9.out, E11.out⟩) (by simp [BS, Bx.nat, Bx.rat, Bx.ref] <;> omega)) ?_
              refine Steps.held ?_ ?_
              · intro L v w' hJ
                have kb := hJ.out.yet 0 _ rfl (g9) rfl (by kernel_rfl)
                have k0 : w'.cell? ⟨g9, 0, none⟩ = some (.slice PL2 (wl 64 lo2) cPL2) := kb.cell 0
                clear kb
                go_wp2_with fail
                exact ⟨rfl, rfl, hJ.out.same (by rfl) (NL.out.keep hJ.out.held.keep)⟩
              simp only [Act.put, List.setIfInBounds_toArray, List.set_cons_zero, List.set_cons_succ, Nat.reduceAdd]
              refine Steps.held ?_ ?_
              · intro L v w' hJ
                have X0 := Lib.hid (show N64 w' (v 0) (lo2) from hJ.out.fact 0 (by kernel_rfl))
                go_wp2_with fail
                with_reducible refine (HDW1.out _ _ X0.out).mono ?_
                rintro e w1 ⟨u, rfl, hu, hb⟩
                go_wp2_with fail
                exact ⟨rfl, rfl, hJ.out.call (by rfl) hb (hu)⟩
              simp only [Act.put, List.setIfInBounds_toArray, List.set_cons_zero, List.set_cons_succ, Nat.reduceAdd]
              refine Steps.held ?_ ?_
              · intro L v w' hJ
                have kb := hJ.out.yet 1 _ rfl (g11) rfl (by kernel_rfl)
                have k0 : w'.cell? ⟨g11, 0, none⟩ = some (.slice PH2 (wl 64 hi2) cPH2) := kb.cell 0
                clear kb
                go_wp2_with fail
                exact ⟨rfl, rfl, hJ.out.same (by rfl) (NH.out.keep hJ.out.held.keep)⟩
              simp only [Act.put, List.setIfInBounds_toArray, List.set_cons_zero, List.set_cons_succ, Nat.reduceAdd]
              refine Steps.held ?_ ?_
              · intro L v w' hJ
                have X0 := Lib.hid (show N64 w' (v 2) (hi2) from hJ.out.fact 2 (by kernel_rfl))
                go_wp2_with fail
                with_reducible refine (HHF1.out _ _ X0.out).mono ?_
                rintro e w1 ⟨u, rfl, hu, hb⟩
                go_wp2_with fail
                exact ⟨rfl, rfl, hJ.out.call (by rfl) hb (hu)⟩
              simp only [Act.put, List.setIfInBounds_toArray, List.set_cons_zero, List.set_cons_succ, Nat.reduceAdd]
              refine Steps.held ?_ ?_
              · intro L v w' hJ
                obtain ⟨hown, hst⟩ := hJ.out.oldbox 0 _ rfl (g9) rfl
                have hN : N64 w' (v 1) (lo2 / 2 ^ 1) := hJ.out.fact 1 (by kernel_rfl)
                obtain ⟨P, c, hv, h1, h2, h3⟩ := hN
                have HN := Lib.hid (show N64 w' (.agg #[.slice P (wl 64 (lo2 / 2 ^ 1)) c]) (lo2 / 2 ^ 1) from ⟨P, c, rfl, h1, h2, h3⟩)
                have kb := hJ.out.box 0 _ rfl rfl (g9) hown
                have k0 : w'.cell? ⟨(g9), 0, none⟩ = some ((.slice PL2 (wl 64 lo2) cPL2)) := kb.cell 0
                have f0 := kb.frozen 0
                have HO := Lib.hid hown
                have HS := Lib.hid hst
                clear kb h1 h2 h3 hown hst
                simp only [hv]
                clear hv
                go_wp2_with fail
                exact ⟨rfl, rfl, hJ.out.fill1 0 _ rfl rfl (by rfl) (g9) HO.out HS.out _ rfl rfl (fun W k => ⟨P, c, rfl, HN.out.keep k⟩) (fun _ => trivial)⟩
              simp only [Act.put, List.setIfInBounds_toArray, List.set_cons_zero, List.set_cons_succ, Nat.reduceAdd]
              refine Steps.held ?_ ?_
              · intro L v w' hJ
                obtain ⟨hown, hst⟩ := hJ.out.oldbox 1 _ rfl (g11) rfl
                have hN : N64 w' (v 3) (ceilD hi2 1) := hJ.out.fact 3 (by kernel_rfl)
                obtain ⟨P, c, hv, h1, h2, h3⟩ := hN
                have HN := Lib.hid (show N64 w' (.agg #[.slice P (wl 64 (ceilD hi2 1)) c]) (ceilD hi2 1) from ⟨P, c, rfl, h1, h2, h3⟩)
                have kb := hJ.out.box 1 _ rfl rfl (g11) hown
                have k0 : w'.cell? ⟨(g11), 0, none⟩ = some ((.slice PH2 (wl 64 hi2) cPH2)) := kb.cell 0
                have f0 := kb.frozen 0
                have HO := Lib.hid hown
                have HS := Lib.hid hst
                clear kb h1 h2 h3 hown hst
                simp only [hv]
                clear hv
                go_wp2_with fail
                exact ⟨rfl, rfl, hJ.out.fill1 1 _ rfl rfl (by rfl) (g11) HO.out HS.out _ rfl rfl (fun W k => ⟨P, c, rfl, HN.out.keep k⟩) (fun _ => trivial)⟩
              simp only [Act.put, List.setIfInBounds_toArray, List.set_cons_zero, List.set_cons_succ, Nat.reduceAdd]
              refine Steps.nil ?_
              intro v w' hJ
              obtain ⟨cs, hblk, hf⟩ := hJ.end_old 0 _ rfl g9 rfl (Nat.le_of_ble_eq_true rfl)
              obtain ⟨PL3, cPL3, rfl, hNL⟩ := hf
              obtain ⟨cs, hblk2, hf⟩ := hJ.end_old 1 _ rfl g11 rfl (Nat.le_of_ble_eq_true rfl)
              obtain ⟨PH3, cPH3, rfl, hNH⟩ := hf
              obtain ⟨PT, cT, hT, hTn⟩ := BT.out
              have hng : g12 ∉ oldsOf BS := by simp [oldsOf, BS, Bx.nat, Bx.rat, Bx.ref]; omega
              replace HB := Lib.hid (hJ.but.to_below HB.out HB.out.size (by intro g hg; have h1 := HGE.out; have h2 := HG9.out; simp [oldsOf, BS, Bx.nat, Bx.rat, Bx.ref] at hg; rcases hg with rfl | rfl <;> omega))
              replace BT := Lib.hid (show Box w' g12 T2 from ⟨PT, cT, hJ.but.blk hT hng, hTn.keep hJ.keep⟩)
              replace E9 := Lib.hid (show Blk w' g9 26 #[.slice PL3 (wl 64 (lo2 / 2 ^ 1)) cPL3] from hblk)
              replace E11 := Lib.hid (show Blk w' g11 26 #[.slice PH3 (wl 64 (ceilD hi2 1)) cPH3] from hblk2)
              replace NL := Lib.hid (show N64 w' (.agg #[.slice PL3 (wl 64 (lo2 / 2 ^ 1)) cPL3]) (lo2 / 2 ^ 1) from hNL)
              replace NH := Lib.hid (show N64 w' (.agg #[.slice PH3 (wl 64 (ceilD hi2 1)) cPH3]) (ceilD hi2 1) from hNH)
              clear hJ hblk hblk2 hNL hNH hT hTn hng
              clear BS FS
              have HI2 := Lib.hid (HONE.out hge)
              go_wp2_with fail
              exact ⟨⟨i + 1, _, _, _, _, _, Nat.succ_le_of_lt hlt, congrArg (Value.int .i64) hw3, congrArg (Value.int .i64) (two_out1 out), HI2, Lib.hid ⟨_, _, E9.out, NL.out⟩, Lib.hid ⟨_, _, E11.out, NH.out⟩, BT, HB⟩, by rw [hw3]; exact less_i hlt⟩
            · have dge : decide (0 ≤ cmpN lo2 T2) = false := by rw [cmpN_lt (Nat.lt_of_not_le hge)]; rfl
              obtain ⟨PT, cT, hT, hTn⟩ := BT.out
              have k11 := E11.out.cell 0
              have k12 := hT.cell 0
              go_wp2_with fail
              with_reducible refine (HC2.out _ _ _ NH.out hTn).mono ?_
              rintro _ w7 ⟨rfl, hb⟩
              clear hT hTn k11 k12
              replace E9 := Lib.hid (blk_below E9.out hb)
              replace E11 := Lib.hid (blk_below E11.out hb)
              replace NL := Lib.hid (NL.out.below hb)
              replace NH := Lib.hid (NH.out.below hb)
              replace BT := Lib.hid (BT.out.below hb)
              replace HB := Lib.hid (cbt HB.out hb)
              clear hb
              by_cases hgt : T2 < hi2
              · have dgt : decide (0 < cmpN hi2 T2) = true := by rw [cmpN_gt hgt]; rfl
                have hf := HFEW.out (Nat.lt_of_not_le hge) hgt
                have hw5 := wrap_D hD hDM2
                have HN2 := Lib.hid (cbt hBr.out HB.out)
                have hD2 := few_D hf hlt HBB.out HDM.out
                have hD3 := hD1.out
                clear hf
                go_wp2_with fail
                exact ⟨⟨2 * D, congrArg (Value.int .i64) (two_D D), hD2, Lib.hid (two_pos_D hD3), HN2⟩, less_D hD3 hD2⟩
              · have dgt : decide (0 < cmpN hi2 T2) = false := by
                  rcases Nat.lt_or_eq_of_le (Nat.le_of_not_lt hgt) with h | h
                  · rw [cmpN_lt h]; rfl
                  · rw [h, cmpN_self]; rfl
                have HI2 := Lib.hid (HNONE.out (Nat.le_of_not_lt hgt))
                go_wp2_with fail
                exact ⟨⟨i + 1, _, _, _, _, _, Nat.succ_le_of_lt hlt, congrArg (Value.int .i64) hw3, congrArg (Value.int .i64) (Int.mul_comm out 2), HI2, Lib.hid ⟨_, _, E9.out, NL.out⟩, Lib.hid ⟨_, _, E11.out, NH.out⟩, BT, HB⟩, by rw [hw3]; exact less_i hlt⟩
          · have hie : i = b := by omega
            subst hie
            have dlt : decide ((i : Int) < (i : Int)) = false := decide_eq_false (by omega)
            have HW := Lib.hid (HI.out.e.w HI.out.pos HI.out.le HI.out.lt (pw_pos HD0.out i))
            have HEND := Lib.hid (cbt HB0.out (cbt hBr.out HB.out))
            go_wp2_with fail
            rw [Exit.noGoto_ret]
            exact bodyPost_ret (v := .tuple #[.int .i64 out, .int .i64 0]) (by simp [results, Try.results37, go_sem]) rfl ⟨out, rfl, HW.out, HEND.out⟩
end Go.Proofs.Yteikhnmmkanndaa
namespace Go.Proofs.Yteikhnmmkanndaa
open Go.RowKit Go.Proofs.YteikhnmmkanndaaW.PrintWords Go.Proofs.Yteikhnmmkanndaa.PAll
set_option linter.unusedSimpArgs false
set_option linter.unusedVariables false
theorem LogW.to_start {n d : Nat} {k : Int} (h : LogW n d k) : LogE n d k (n * 2 ^ (-k).toNat) (d * 2 ^ k.toNat) := LogE.start n d k
theorem LogW.square {n d : Nat} {u v : Int} (hd : 0 < d) (hu : LogW n d u) (hv : LogW (n * n) (d * d) v) : u = v / 2 := by
  obtain ⟨P, hP⟩ : ∃ P, n * 2 ^ (-u).toNat = P := ⟨_, rfl⟩
  obtain ⟨Q, hQ⟩ : ∃ Q, d * 2 ^ u.toNat = Q := ⟨_, rfl⟩
  have he := (LogE.start n d u).sq
  have hq : 0 < d * 2 ^ u.toNat := Nat.mul_pos hd (Nat.two_pow_pos _)
  obtain ⟨h1, h2⟩ := hu
  rw [hP, hQ] at h1 h2 he
  rw [hQ] at hq
  have hqq := Nat.mul_pos hq hq
  have a := Nat.mul_le_mul h1 h1
  have b := Nat.mul_lt_mul'' h2 h2
  rw [Nat.mul_mul_mul_comm] at b
  by_cases h : P * P < 2 * (Q * Q)
  · have := (he.w hqq a h (Nat.mul_pos hd hd)).unique hv
    omega
  · have := (he.bit.w (by omega) (by omega) (by omega) (Nat.mul_pos hd hd)).unique hv
    omega
theorem LogW.down {n d : Nat} (hd : 0 < d) : ∀ (r a : Nat) {u v : Int}, LogW (n ^ 2 ^ a) (d ^ 2 ^ a) u → LogW (n ^ 2 ^ (a + r)) (d ^ 2 ^ (a + r)) v → n ≠ 0 → u = v / 2 ^ r
  | 0, a, u, v, hu, hv, _ => by rw [Int.pow_zero, Int.ediv_one]; exact hu.unique hv
  | r + 1, a, u, v, hu, hv, h0 => by
    have hn : 0 < n := Nat.pos_of_ne_zero h0
    have hw := wholeN_W (pw_pos hn (a + 1)) (pw_pos hd (a + 1))
    have h1 := LogW.down hd r (a + 1) hw (by rwa [show a + 1 + r = a + (r + 1) by omega]) h0
    rw [← pow_sq, ← pow_sq] at hw
    have h2 := hu.square (pw_pos hd a) hw
    rw [h2, pow_sq, pow_sq, h1]
    rw [Int.ediv_ediv_of_nonneg (by exact Int.le_of_lt (Int.pow_pos (by decide))), Int.pow_succ]
theorem LogE.prod (n d m e : Nat) (u v : Int) : LogE (n * m) (d * e) (u + v) (n * 2 ^ (-u).toNat * (m * 2 ^ (-v).toNat)) (d * 2 ^ u.toNat * (e * 2 ^ v.toNat)) := by
  unfold LogE
  have h : 2 ^ (-u).toNat * 2 ^ (-v).toNat * 2 ^ (u + v).toNat = 2 ^ (-(u + v)).toNat * (2 ^ u.toNat * 2 ^ v.toNat) := by
    rw [← Nat.pow_add, ← Nat.pow_add, ← Nat.pow_add, ← Nat.pow_add]
    congr 1
    omega
  rw [Nat.mul_mul_mul_comm n, Nat.mul_mul_mul_comm d, Nat.mul_mul_mul_comm (n * m), h, Nat.mul_mul_mul_comm (n * m)]
theorem LogW.prod {n d m e : Nat} {u v z : Int} (hd : 0 < d) (he : 0 < e) (hu : LogW n d u) (hv : LogW m e v) (hz : LogW (n * m) (d * e) z) : 0 ≤ z - u - v ∧ z - u - v ≤ 1 := by
  have hle := LogE.prod n d m e u v
  have hq : 0 < d * 2 ^ u.toNat := Nat.mul_pos hd (Nat.two_pow_pos _)
  have hs : 0 < e * 2 ^ v.toNat := Nat.mul_pos he (Nat.two_pow_pos _)
  obtain ⟨h1, h2⟩ := hu
  obtain ⟨h3, h4⟩ := hv
  have hde := Nat.mul_pos hd he
  generalize n * 2 ^ (-u).toNat = P at *
  generalize d * 2 ^ u.toNat = Q at *
  generalize m * 2 ^ (-v).toNat = R at *
  generalize e * 2 ^ v.toNat = S at *
  have hqs := Nat.mul_pos hq hs
  have a := Nat.mul_le_mul h1 h3
  have b := Nat.mul_lt_mul'' h2 h4
  rw [Nat.mul_mul_mul_comm] at b
  by_cases h : P * R < 2 * (Q * S)
  · have := (hle.w hqs a h hde).unique hz
    omega
  · have := (hle.bit.w (by omega) (by omega) (by omega) hde).unique hz
    omega
theorem LogW.mono {n d m e : Nat} {u v : Int} (hd : 0 < d) (h : n * e ≤ m * d) (hu : LogW n d u) (hv : LogW m e v) : u ≤ v := by
  have h1 : e * 2 ^ u.toNat ≤ m * 2 ^ (-u).toNat := by
    refine Nat.le_of_mul_le_mul_right ?_ hd
    calc e * 2 ^ u.toNat * d = e * (d * 2 ^ u.toNat) := by rw [Nat.mul_assoc, Nat.mul_comm (2 ^ u.toNat)]
      _ ≤ e * (n * 2 ^ (-u).toNat) := Nat.mul_le_mul_left _ hu.1
      _ = n * e * 2 ^ (-u).toNat := by rw [Nat.mul_left_comm, Nat.mul_assoc]
      _ ≤ m * d * 2 ^ (-u).toNat := Nat.mul_le_mul_right _ h
      _ = m * 2 ^ (-u).toNat * d := Nat.mul_right_comm _ _ _
  rcases (show u ≤ v ∨ v < u by omega) with hle | hlt
  · exact hle
  · exfalso
    have hc := pow_cross hlt
    have a := Nat.mul_lt_mul_of_pos_right hv.2 (Nat.two_pow_pos (-u).toNat)
    have b := Nat.mul_le_mul_right (2 ^ (-v).toNat) h1
    have c := Nat.mul_le_mul_left e hc
    have e1 : 2 * (e * 2 ^ v.toNat) * 2 ^ (-u).toNat = e * (2 ^ v.toNat * 2 * 2 ^ (-u).toNat) := by
      rw [Nat.mul_left_comm 2 e, Nat.mul_comm 2 (2 ^ v.toNat), Nat.mul_assoc, Nat.mul_assoc]
    have e2 : e * (2 ^ u.toNat * 2 ^ (-v).toNat) = e * 2 ^ u.toNat * 2 ^ (-v).toNat := by rw [Nat.mul_assoc]
    have e3 : m * 2 ^ (-v).toNat * 2 ^ (-u).toNat = m * 2 ^ (-u).toNat * 2 ^ (-v).toNat := Nat.mul_right_comm _ _ _
    rw [e1] at a
    rw [e2] at c
    omega
theorem pow_cross_le {n d m e : Nat} (h : n * e ≤ m * d) (k : Nat) : n ^ k * e ^ k ≤ m ^ k * d ^ k := by
  rw [← Nat.mul_pow, ← Nat.mul_pow]
  exact Nat.pow_le_pow_left h k
theorem LogW.mono_pow {n d m e b : Nat} {u v : Int} (hd : 0 < d) (h : n * e ≤ m * d) (hu : LogW (n ^ 2 ^ b) (d ^ 2 ^ b) u) (hv : LogW (m ^ 2 ^ b) (e ^ 2 ^ b) v) : u ≤ v := LogW.mono (pw_pos hd b) (pow_cross_le h _) hu hv
theorem LogW.same_pow {n d m e b : Nat} {u v : Int} (hd : 0 < d) (he : 0 < e) (h : n * e = m * d) (hu : LogW (n ^ 2 ^ b) (d ^ 2 ^ b) u) (hv : LogW (m ^ 2 ^ b) (e ^ 2 ^ b) v) : u = v :=
  Int.le_antisymm (LogW.mono_pow hd (Nat.le_of_eq h) hu hv) (LogW.mono_pow he (Nat.le_of_eq h.symm) hv hu)
theorem rint_lit (x : Nat) (hx : x < 2 ^ 64) (k : Int) (hk : k = (x : Int)) (W : World) : Calls Try.prog 74 #[.int .u64 k] W (MkF W x 1) := by
  subst hk
  exact rint_any x hx W
theorem llog_lit (v : Value) (n d b : Nat) (kb k : Int) (W : World) (ha : F64 W v n d) (hkb : kb = (b : Int)) (hn0 : 0 < n) (hd0 : 0 < d) (hn : n < 2 ^ 100) (hd : d < 2 ^ 100) (hb : b ≤ 12) (hk : LogW (n ^ 2 ^ b) (d ^ 2 ^ b) k) :
    Calls Try.prog 37 #[v, .int .i64 kb] W fun x w' => x = .returned (.tuple #[.int .i64 k, .int .i64 0]) ∧ Below W.heap.size W w' := by
  subst hkb
  refine (llog_any v n d 100 b W ha hn0 hd0 hn hd (by decide) hb).mono ?_
  rintro x w' ⟨z, rfl, hz, hb⟩
  rw [hz.unique hk]
  exact ⟨rfl, hb⟩
set_option maxRecDepth 100000 in
set_option maxHeartbeats 4000000 in
theorem live27_any (w : World) : Calls Try.prog 35 #[] w fun e w' => e = .returned (.bool true) ∧ Below w.heap.size w w' := by
  have O1 : Hid (∀ W, Calls Try.prog 74 #[.int .u64 1] W (MkF W 1 1)) := Lib.hid (fun W => rint_lit 1 (by decide) 1 rfl W)
  have O3 : Hid (∀ W, Calls Try.prog 74 #[.int .u64 3] W (MkF W 3 1)) := Lib.hid (fun W => rint_lit 3 (by decide) 3 rfl W)
  have O8 : Hid (∀ W, Calls Try.prog 74 #[.int .u64 8] W (MkF W 8 1)) := Lib.hid (fun W => rint_lit 8 (by decide) 8 rfl W)
  have L3 : Hid (∀ v W, F64 W v 3 1 → Calls Try.prog 37 #[v, .int .i64 4] W (fun x w' => x = .returned (.tuple #[.int .i64 25, .int .i64 0]) ∧ Below W.heap.size W w')) := Lib.hid (fun v W h => llog_lit v 3 1 4 4 25 W h rfl (by decide) (by decide) (by decide) (by decide) (by decide) (by unfold LogW; decide +kernel))
  have L13 : Hid (∀ v W, F64 W v 1 3 → Calls Try.prog 37 #[v, .int .i64 4] W (fun x w' => x = .returned (.tuple #[.int .i64 (-26), .int .i64 0]) ∧ Below W.heap.size W w')) := Lib.hid (fun v W h => llog_lit v 1 3 4 4 (-26) W h rfl (by decide) (by decide) (by decide) (by decide) (by decide) (by unfold LogW; decide +kernel))
  have L8 : Hid (∀ v W, F64 W v 8 1 → Calls Try.prog 37 #[v, .int .i64 4] W (fun x w' => x = .returned (.tuple #[.int .i64 48, .int .i64 0]) ∧ Below W.heap.size W w')) := Lib.hid (fun v W h => llog_lit v 8 1 4 4 48 W h rfl (by decide) (by decide) (by decide) (by decide) (by decide) (by unfold LogW; decide +kernel))
  have HDV : Hid (∀ va vb W, F64 W va 1 1 → F64 W vb 3 1 → Calls Try.prog 71 #[va, vb] W fun x w' => ∃ v, x = .returned (.tuple #[v, .int .i64 0]) ∧ F64 w' v 1 3 ∧ Below W.heap.size W w') := Lib.hid (fun va vb W h1 h2 => rdivF_any va vb 1 1 3 1 W h1 h2 (Nat.le_trans (w64_lit (by decide)) (by decide)) (Nat.le_trans (w64_lit (by decide)) (by decide)) (Nat.le_trans (w64_lit (by decide)) (by decide)) (Nat.le_trans (w64_lit (by decide)) (by decide)) (by decide))
  have HB0 := Lib.hid (Below.refl w.heap.size w)
  go_enter Try.func35, Try.ntmps35
  go_wp2_with fail
  with_reducible refine (O3.out _).mono ?_
  rintro e w1 ⟨u, rfl, hu, hb⟩
  replace HB0 := Lib.hid (cbt HB0.out hb)
  have NA := Lib.hid hu
  clear hb hu
  have Z0 := NA.out
  obtain ⟨AS0, pS0, cS0, BS0, qS0, eS0, xS0, rfl, _, _, _⟩ := Z0
  have e1 := Blk.new w1 47 #[.slice AS0 pS0 cS0, .slice BS0 qS0 eS0]
  have hb := cba (Below.refl _ w1) (.cells #[.slice AS0 pS0 cS0, .slice BS0 qS0 eS0] 47)
  go_upto_region 2 with (fail)
  obtain ⟨S, hS⟩ : ∃ S, (w1.alloc (.cells #[.slice AS0 pS0 cS0, .slice BS0 qS0 eS0] 47)) = S := ⟨_, rfl⟩
  rw [hS] at e1 hb ⊢
  obtain ⟨g1, hg⟩ : ∃ g, w1.heap.size = g := ⟨_, rfl⟩
  rw [hg] at e1
  simp only [hg]
  replace NA := Lib.hid (NA.out.below hb)
  replace HB0 := Lib.hid (cbt HB0.out hb)
  have E1 := Lib.hid e1
  clear hS hg hb e1
  let FS : List Kept1 := [.f (1) (1), .f (3) (1), .two (.f (1) (3)) (.eq (.int .i64 0)), .two (.f (1) (3)) (.eq (.int .i64 0)), .f (1) (3), .eq (.int .i64 0), .any, .any, .eq (.int .i64 0)]
  let BS : List Bx := [Bx.rat (.inl 6) 7 #[.slice none 0 0, .slice none 0 0] (1) (3)]
  refine region_mono (Held S (fun j => FS.getD j .any) BS) (by kernel_rfl) (by kernel_rfl) (by kernel_rfl) (Held.start _ _ _ (by simp [BS, Bx.nat, Bx.rat, Bx.ref]) (by simp [BS, Bx.nat, Bx.rat, Bx.ref])) ?_
  refine Steps.held ?_ ?_
  · intro L v w' hJ
    go_wp2_with fail
    with_reducible refine (O1.out _).mono ?_
    rintro e w1 ⟨u, rfl, hu, hb⟩
    go_wp2_with fail
    exact ⟨rfl, rfl, hJ.out.call (by rfl) hb (hu)⟩
  simp only [Act.put, List.setIfInBounds_toArray, List.set_cons_zero, List.set_cons_succ, Nat.reduceAdd]
  refine Steps.held ?_ ?_
  · intro L v w' hJ
    have kb := hJ.out.blk E1.out (by simp [oldsOf, BS, Bx.nat, Bx.rat, Bx.ref])
    have k0 := kb.cell 0
    have k1 := kb.cell 1
    clear kb
    go_wp2_with fail
    exact ⟨rfl, rfl, hJ.out.same (by rfl) (NA.out.keep hJ.out.held.keep)⟩
  simp only [Act.put, List.setIfInBounds_toArray, List.set_cons_zero, List.set_cons_succ, Nat.reduceAdd]
  refine Steps.held ?_ ?_
  · intro L v w' hJ
    have X0 := Lib.hid (show F64 w' (v 0) (1) (1) from hJ.out.fact 0 (by kernel_rfl))
    have X1 := Lib.hid (show F64 w' (v 1) (3) (1) from hJ.out.fact 1 (by kernel_rfl))
    go_wp2_with fail
    with_reducible refine (HDV.out _ _ _ X0.out X1.out).mono ?_
    rintro e w1 ⟨u, rfl, hu, hb⟩
    go_wp2_with fail
    exact ⟨rfl, rfl, hJ.out.call (by rfl) hb (⟨_, _, rfl, hu, rfl⟩)⟩
  simp only [Act.put, List.setIfInBounds_toArray, List.set_cons_zero, List.set_cons_succ, Nat.reduceAdd]
  refine Steps.held ?_ ?_
  · intro L v w' hJ
    go_wp2_with fail
    exact ⟨rfl, rfl, hJ.out.same (by rfl) (hJ.out.fact 2 (by kernel_rfl))⟩
  simp only [Act.put, List.setIfInBounds_toArray, List.set_cons_zero, List.set_cons_succ, Nat.reduceAdd]
  refine Steps.held ?_ ?_
  · intro L v w' hJ
    obtain ⟨x0, x1, hv, h0, h1⟩ := hJ.out.fact 3 (by kernel_rfl)
    simp only [hv]
    clear hv
    go_wp2_with fail
    exact ⟨rfl, rfl, hJ.out.same (by rfl) (h0)⟩
  simp only [Act.put, List.setIfInBounds_toArray, List.set_cons_zero, List.set_cons_succ, Nat.reduceAdd]
  refine Steps.held ?_ ?_
  · intro L v w' hJ
    obtain ⟨x0, x1, hv, h0, h1⟩ := hJ.out.fact 3 (by kernel_rfl)
    simp only [hv]
    clear hv
    go_wp2_with fail
    exact ⟨rfl, rfl, hJ.out.same (by rfl) (h1)⟩
  simp only [Act.put, List.setIfInBounds_toArray, List.set_cons_zero, List.set_cons_succ, Nat.reduceAdd]
  refine Steps.held ?_ ?_
  · intro L v w' hJ
    go_wp2_with fail
    exact ⟨rfl, rfl, hJ.out.made 0 _ rfl rfl (by rfl) trivial⟩
  simp only [Act.put, List.setIfInBounds_toArray, List.set_cons_zero, List.set_cons_succ, Nat.reduceAdd]
  refine Steps.held ?_ ?_
  · intro L v w' hJ
    obtain ⟨g, hg, hge, hown, hst⟩ := hJ.out.newbox 0 _ rfl 6 rfl (by kernel_rfl)
    have hN : F64 w' (v 4) (1) (3) := hJ.out.fact 4 (by kernel_rfl)
    obtain ⟨A1, p1, c1, B1, q1, e1, x1, hv, h1, h2, h3⟩ := hN
    have HN := Lib.hid (show F64 w' (.agg #[.slice A1 p1 c1, .slice B1 q1 e1]) (1) (3) from ⟨A1, p1, c1, B1, q1, e1, x1, rfl, h1, h2, h3⟩)
    have kb := hJ.out.box 0 _ rfl rfl g hown
    have k0 : w'.cell? ⟨g, 0, none⟩ = some (.slice none 0 0) := kb.cell 0
    have k1 : w'.cell? ⟨g, 1, none⟩ = some (.slice none 0 0) := kb.cell 1
    have f0 := kb.frozen 0
    have f1 := kb.frozen 1
    have HO := Lib.hid hown
    have HS := Lib.hid hst
    clear kb h1 h2 h3 hown hst
    simp only [hg, hv]
    clear hg hv
    go_wp2_with fail
    exact ⟨rfl, rfl, hJ.out.fill2 0 _ rfl rfl (by rfl) g HO.out HS.out _ _ rfl rfl rfl (fun W k => HN.out.keep k) (fun _ => trivial)⟩
  simp only [Act.put, List.setIfInBounds_toArray, List.set_cons_zero, List.set_cons_succ, Nat.reduceAdd]
  refine Steps.held ?_ ?_
  · intro L v w' hJ
    have hv5 : v 5 = .int .i64 0 := hJ.out.fact 5 (by kernel_rfl)
    simp only [hv5]
    clear hv5
    go_wp2_with fail
    exact ⟨rfl, rfl, hJ.out.same (by rfl) (rfl)⟩
  simp only [Act.put, List.setIfInBounds_toArray, List.set_cons_zero, List.set_cons_succ, Nat.reduceAdd]
  refine Steps.nil ?_
  intro v w' hJ
  have h8 : v 8 = .int .i64 0 := hJ.end_fact 8 (by decide)
  simp only [h8]
  clear h8
  obtain ⟨g2, cs6, hv6, hge6, hb6, hf6⟩ := hJ.end_new 0 _ rfl 6 rfl (by decide) (Nat.le_of_ble_eq_true rfl)
  have hfx : F64 w' (.agg cs6) 1 3 := hf6
  obtain ⟨A6, p6, c6, B6, q6, e6, x6, hcs6, h1, h2, h3⟩ := hfx
  have hcs6' := Value.agg.inj hcs6
  subst hcs6'
  simp only [hv6]
  have E2 := Lib.hid (show Blk w' g2 47 #[.slice A6 p6 c6, .slice B6 q6 e6] from hb6)
  have NE2 := Lib.hid (show F64 w' (.agg #[.slice A6 p6 c6, .slice B6 q6 e6]) 1 3 from hf6)
  clear hv6 hb6 hf6 hcs6 h1 h2
  have hbr := hJ.but.below
  replace NA := Lib.hid (NA.out.below hbr)
  replace E1 := Lib.hid (blk_below E1.out hbr)
  replace HB0 := Lib.hid (cbt HB0.out hbr)
  clear hJ hbr
  have k_E1_0 := E1.out.cell 0
  have k_E1_1 := E1.out.cell 1
  have k_E2_0 := E2.out.cell 0
  have k_E2_1 := E2.out.cell 1
  go_wp2_with fail
  with_reducible refine (L3.out _ _ NA.out).mono ?_
  rintro e w3 ⟨rfl, hb⟩
  clear k_E1_0 k_E1_1 k_E2_0 k_E2_1
  replace NA := Lib.hid (NA.out.below hb)
  replace NE2 := Lib.hid (NE2.out.below hb)
  replace E1 := Lib.hid (blk_below E1.out hb)
  replace E2 := Lib.hid (blk_below E2.out hb)
  replace HB0 := Lib.hid (cbt HB0.out hb)
  clear hb
  have k_E1_0 := E1.out.cell 0
  have k_E1_1 := E1.out.cell 1
  have k_E2_0 := E2.out.cell 0
  have k_E2_1 := E2.out.cell 1
  go_wp2_with fail
  with_reducible refine (L13.out _ _ NE2.out).mono ?_
  rintro e w4 ⟨rfl, hb⟩
  clear k_E1_0 k_E1_1 k_E2_0 k_E2_1
  replace NA := Lib.hid (NA.out.below hb)
  replace NE2 := Lib.hid (NE2.out.below hb)
  replace E1 := Lib.hid (blk_below E1.out hb)
  replace E2 := Lib.hid (blk_below E2.out hb)
  replace HB0 := Lib.hid (cbt HB0.out hb)
  clear hb
  have k_E1_0 := E1.out.cell 0
  have k_E1_1 := E1.out.cell 1
  have k_E2_0 := E2.out.cell 0
  have k_E2_1 := E2.out.cell 1
  go_wp2_with fail
  with_reducible refine (O8.out _).mono ?_
  rintro e w5 ⟨u, rfl, hu, hb⟩
  clear k_E1_0 k_E1_1 k_E2_0 k_E2_1
  replace NA := Lib.hid (NA.out.below hb)
  replace NE2 := Lib.hid (NE2.out.below hb)
  replace E1 := Lib.hid (blk_below E1.out hb)
  replace E2 := Lib.hid (blk_below E2.out hb)
  replace HB0 := Lib.hid (cbt HB0.out hb)
  have N8 := Lib.hid hu
  clear hb hu
  have k_E1_0 := E1.out.cell 0
  have k_E1_1 := E1.out.cell 1
  have k_E2_0 := E2.out.cell 0
  have k_E2_1 := E2.out.cell 1
  go_wp2_with fail
  with_reducible refine (L8.out _ _ N8.out).mono ?_
  rintro e w6 ⟨rfl, hb⟩
  clear k_E1_0 k_E1_1 k_E2_0 k_E2_1
  replace NA := Lib.hid (NA.out.below hb)
  replace NE2 := Lib.hid (NE2.out.below hb)
  replace N8 := Lib.hid (N8.out.below hb)
  replace E1 := Lib.hid (blk_below E1.out hb)
  replace E2 := Lib.hid (blk_below E2.out hb)
  replace HB0 := Lib.hid (cbt HB0.out hb)
  clear hb
  have k_E1_0 := E1.out.cell 0
  have k_E1_1 := E1.out.cell 1
  have k_E2_0 := E2.out.cell 0
  have k_E2_1 := E2.out.cell 1
  go_wp2_with fail
  go_ret
  exact ⟨rfl, HB0.out⟩
end Go.Proofs.Yteikhnmmkanndaa
namespace Go.Proofs.Yteikhnmmkanndaa
open Go.RowKit Go.Proofs.YteikhnmmkanndaaW.PrintWords
set_option linter.unusedSimpArgs false
set_option linter.unusedVariables false
theorem Sz.lt {B m : Nat} {a : Nat × Nat} (h : Sz B a) (hm : 8 * B ≤ m) : a.1 < 2 ^ m ∧ a.2 < 2 ^ m := by
  have h1 := (wl_le (by decide) a.1 B).1 h.1
  have h2 := (wl_le (by decide) a.2 B).1 h.2
  have h3 : 2 ^ (8 * B) ≤ 2 ^ m := Nat.pow_le_pow_right (by decide) hm
  omega
theorem fld52 (A : Option Addr) (n c : Nat) (B : Option Addr) (q e : Nat) (W : World) : (Instr.field 52 (.agg #[.slice A n c, .slice B q e]) 0).run Try.prog W = .ok (.slice A n c) W := by kernel_rfl
def lg (a : Nat × Nat) (b : Nat) : Int := wholeN (a.1 ^ 2 ^ b) (a.2 ^ 2 ^ b)
theorem lg_W {a : Nat × Nat} (h1 : 0 < a.1) (h2 : 0 < a.2) (b : Nat) : LogW (a.1 ^ 2 ^ b) (a.2 ^ 2 ^ b) (lg a b) := wholeN_W (pw_pos h1 b) (pw_pos h2 b)
theorem lg_le {a : Nat × Nat} {m b : Nat} (h1 : 0 < a.1) (h2 : 0 < a.2) (h : a.1 < 2 ^ m ∧ a.2 < 2 ^ m) (hm : m ≤ 20000) (hb : b ≤ 12) : -81920000 ≤ lg a b ∧ lg a b ≤ 81920000 := by
  have hw := (lg_W h1 h2 b).bound (pw_pos h1 b) (pw_pos h2 b) (pw_lt h.1 b) (pw_lt h.2 b)
  have : m * 2 ^ b ≤ 20000 * 2 ^ 12 := Nat.mul_le_mul hm (show 2 ^ b ≤ 2 ^ 12 from Nat.pow_le_pow_right (by decide) hb)
  omega
theorem c_log {a : Nat × Nat} {v : Value} {W : World} {m b : Nat} {kb : Int} (ha : F64 W v a.1 a.2) (hkb : kb = (b : Int)) (h1 : 0 < a.1) (h2 : 0 < a.2) (h : a.1 < 2 ^ m ∧ a.2 < 2 ^ m) (hm : m ≤ 20000) (hb : b ≤ 12) :
    Calls Try.prog 37 #[v, .int .i64 kb] W fun x w' => x = .returned (.tuple #[.int .i64 (lg a b), .int .i64 0]) ∧ Below W.heap.size W w' := by
  subst hkb
  refine (llog_any v a.1 a.2 m b W ha h1 h2 h.1 h.2 hm hb).mono ?_
  rintro x w' ⟨z, rfl, hz, hb⟩
  rw [hz.unique (lg_W h1 h2 b)]
  exact ⟨rfl, hb⟩
theorem c_ref_len {v : Value} {l m : List Int} {W : World} {a : Nat × Nat} (h : Calls Try.prog 38 #[v] W (MkR W a.1 a.2)) : Calls Try.prog 38 #[v] W fun x w' => ∃ A p c B q e, x = .returned (.agg #[.slice A p c, .slice B q e]) ∧ RF w' (.agg #[.slice A p c, .slice B q e]) a.1 a.2 ∧ p = wl 8 a.1 ∧ Below W.heap.size W w' := by
  refine h.mono ?_
  rintro x w' ⟨u, rfl, hu, hb⟩
  have hu2 := hu
  obtain ⟨A, p, c, B, q, e, rfl, h1, _⟩ := hu2
  exact ⟨A, p, c, B, q, e, rfl, hu, len_R256 h1, hb⟩
end Go.Proofs.Yteikhnmmkanndaa
namespace Go.Proofs.Yteikhnmmkanndaa
open Go.RowKit Go.Proofs.YteikhnmmkanndaaW.PrintWords
set_option linter.unusedSimpArgs false
set_option linter.unusedVariables false
theorem u8_nat {k : Int} (h : (Lit.int .u8 k).wf = true) : ∃ a : Nat, k = (a : Int) ∧ a < 256 := by
  unfold Lit.wf at h
  rw [Bool.and_eq_true, decide_eq_true_iff, decide_eq_true_iff] at h
  have h1 : 0 ≤ k := h.1
  have h2 : k < 256 := by have := h.2; simp [IntKind.max, IntKind.bits, IntKind.signed] at this; omega
  exact ⟨k.toNat, by omega, by omega⟩
end Go.Proofs.Yteikhnmmkanndaa
namespace Go.Proofs.Yteikhnmmkanndaa
open Go.RowKit Go.Proofs.YteikhnmmkanndaaW.PrintWords
set_option linter.unusedSimpArgs false
set_option linter.unusedVariables false
theorem rn_pos {n d : Nat} (h : 0 < n) : 0 < rn n d := Nat.div_gcd_pos_of_pos_left d h
theorem lg_mul {a b : Nat × Nat} (ha : Red a) (hb : Red b) (h1 : 0 < a.1) (h2 : 0 < b.1) (k : Nat) : 0 ≤ lg (mulR a b) k - lg a k - lg b k ∧ lg (mulR a b) k - lg a k - lg b k ≤ 1 := by
  have hm := mulR_red ha hb
  have hX : 0 < a.1 * b.1 := Nat.mul_pos h1 h2
  have hY : 0 < a.2 * b.2 := Nat.mul_pos ha.2 hb.2
  have hz := lg_W (a := mulR a b) (rn_pos hX) hm.2 k
  have hw := wholeN_W (pw_pos hX k) (pw_pos hY k)
  have he := LogW.same_pow (b := k) hm.2 hY (rn_mul (a.1 * b.1) (a.2 * b.2)) hz hw
  rw [he]
  rw [Nat.mul_pow, Nat.mul_pow] at hw ⊢
  exact LogW.prod (pw_pos ha.2 k) (pw_pos hb.2 k) (lg_W h1 ha.2 k) (lg_W h2 hb.2 k) hw
theorem lg_cmp {a b : Nat × Nat} (ha : Red a) (hb : Red b) (h1 : 0 < a.1) (h2 : 0 < b.1) (k : Nat) : (cmpN (a.1 * b.2) (b.1 * a.2) = -1 ∧ lg a k ≤ lg b k) ∨ (cmpN (a.1 * b.2) (b.1 * a.2) = 0 ∧ lg a k = lg b k) ∨ (cmpN (a.1 * b.2) (b.1 * a.2) = 1 ∧ lg b k ≤ lg a k) := by
  have hu := lg_W h1 ha.2 k
  have hv := lg_W h2 hb.2 k
  rcases Nat.lt_trichotomy (a.1 * b.2) (b.1 * a.2) with h | h | h
  · exact .inl ⟨cmpN_lt h, LogW.mono_pow ha.2 (Nat.le_of_lt h) hu hv⟩
  · exact .inr (.inl ⟨by rw [h, cmpN_self], LogW.same_pow ha.2 hb.2 h hu hv⟩)
  · exact .inr (.inr ⟨cmpN_gt h, LogW.mono_pow hb.2 (Nat.le_of_lt h) hv hu⟩)
set_option maxRecDepth 100000 in
set_option maxHeartbeats 4000000 in
theorem logSums_law (vx : Value) (lx mx : List Int) (vy : Value) (ly my : List Int) (k1 : Int) (w : World) (hx : Frc w vx lx mx) (ylx : Bys lx) (ymx : Bys mx) (hy : Frc w vy ly my) (yly : Bys ly) (ymy : Bys my) (hk1 : (Lit.int .u8 k1).wf = true) : Calls Try.prog 9 #[vx, vy, .int .u8 k1] w fun e w' => e = .returned (.bool true) ∧ Below w.heap.size w w' := by
  have Hx := Lib.hid hx
  obtain ⟨Ux, nx, cx, Vx, kx, dx, rfl, _, _, hlx, hkx⟩ := hx
  have Hy := Lib.hid hy
  obtain ⟨Uy, ny, cy, Vy, ky, dy, rfl, _, _, hly, hky⟩ := hy
  have HLV := Lib.hid live27_any
  obtain ⟨a1, rfl, ha1⟩ := u8_nat hk1
  clear hk1
  by_cases h0 : nx ≤ 60
  · by_cases h1 : kx ≤ 60
    · by_cases h2 : ny ≤ 60
      · by_cases h3 : ky ≤ 60
        · have d0 : decide (60 < (nx : Int)) = false := decide_eq_false (by omega)
          have d1 : decide (60 < (kx : Int)) = false := decide_eq_false (by omega)
          have d2 : decide (60 < (ny : Int)) = false := decide_eq_false (by omega)
          have d3 : decide (60 < (ky : Int)) = false := decide_eq_false (by omega)
          have hsa := (frcR_sz (B := 60) ylx ymx (by omega) (by omega))
          have hra := frcR_red lx mx
          have HTa := Lib.hid (fun v W h => c_to (v := v) (W := W) (l := lx) (m := mx) h ylx ymx (by omega) (by omega))
          have HRa := Lib.hid (fun v W h => c_ref_len (l := lx) (m := mx) (c_ref (v := v) (W := W) (l := lx) (m := mx) h ylx ymx (by omega) (by omega)))
          obtain ⟨a, ha⟩ : ∃ a, frcR lx mx = a := ⟨_, rfl⟩
          rw [ha] at hsa hra HTa HRa
          clear ha
          have hsb := (frcR_sz (B := 60) yly ymy (by omega) (by omega))
          have hrb := frcR_red ly my
          have HTb := Lib.hid (fun v W h => c_to (v := v) (W := W) (l := ly) (m := my) h yly ymy (by omega) (by omega))
          have HRb := Lib.hid (fun v W h => c_ref_len (l := ly) (m := my) (c_ref (v := v) (W := W) (l := ly) (m := my) h yly ymy (by omega) (by omega)))
          obtain ⟨b, hb⟩ : ∃ a, frcR ly my = a := ⟨_, rfl⟩
          rw [hb] at hsb hrb HTb HRb
          clear hb
          by_cases hza : a.1 = 0
          · have HPa := Lib.hid ((wl_eq_zero (k := 8) (by decide)).2 hza)
            clear hza hsa hsb hra hrb HTa HTb HRb
            clear hlx hkx hly hky h0 h1 h2 h3 ylx ymx yly ymy
            have e0 := (Blk.new (w) 45 #[(.slice Ux nx cx), (.slice Vx kx dx)]).alloc (.cells #[(.slice Uy ny cy), (.slice Vy ky dy)] 45)
            have e1 := Blk.new ((w).alloc (.cells #[(.slice Ux nx cx), (.slice Vx kx dx)] 45)) 45 #[(.slice Uy ny cy), (.slice Vy ky dy)]
            have hb := cba (cba (Below.refl _ w) (.cells #[(.slice Ux nx cx), (.slice Vx kx dx)] 45)) (.cells #[(.slice Uy ny cy), (.slice Vy ky dy)] 45)
            simp only [World.size_alloc] at e1
            have hsz : w.heap.size ≤ w.heap.size := Nat.le_refl _
            go_enter Try.func9, Try.ntmps9
            go_upto_region 1 with (fail)
            obtain ⟨S, hS⟩ : ∃ S, ((w).alloc (.cells #[(.slice Ux nx cx), (.slice Vx kx dx)] 45)).alloc (.cells #[(.slice Uy ny cy), (.slice Vy ky dy)] 45) = S := ⟨_, rfl⟩
            rw [hS] at e0 e1 hb ⊢
            replace Hx := Lib.hid (Hx.out.below hb)
            replace Hy := Lib.hid (Hy.out.below hb)
            have HB0 := Lib.hid hb
            have E0 := Lib.hid e0
            have E1 := Lib.hid e1
            clear hS hb hsz e0 e1
            have k_E0_0 := E0.out.cell 0
            have k_E0_1 := E0.out.cell 1
            have k_E1_0 := E1.out.cell 0
            have k_E1_1 := E1.out.cell 1
            go_wp2_with fail
            with_reducible refine (HRa.out _ _ Hx.out).mono ?_
            rintro e w2 ⟨A2, p2, c2, B2, q2, e2, rfl, hr, hp, hb⟩
            clear k_E0_0 k_E0_1 k_E1_0 k_E1_1
            replace Hx := Lib.hid (Hx.out.below hb)
            replace Hy := Lib.hid (Hy.out.below hb)
            replace E0 := Lib.hid (blk_below E0.out hb)
            replace E1 := Lib.hid (blk_below E1.out hb)
            replace HB0 := Lib.hid (cbt HB0.out hb)
            have dp2 : ((p2 : Int) == 0) = true := beq_iff_eq.2 (by rw [hp, HPa.out]; rfl)
            clear hp
            have hfd2 := fld52 A2 p2 c2 B2 q2 e2
            clear hb hr
            have k_E0_0 := E0.out.cell 0
            have k_E0_1 := E0.out.cell 1
            have k_E1_0 := E1.out.cell 0
            have k_E1_1 := E1.out.cell 1
            go_wp2_with fail
            with_reducible refine (HLV.out _).mono ?_
            rintro e w9 ⟨rfl, hb⟩
            clear k_E0_0 k_E0_1 k_E1_0 k_E1_1
            replace Hx := Lib.hid (Hx.out.below hb)
            replace Hy := Lib.hid (Hy.out.below hb)
            replace E0 := Lib.hid (blk_below E0.out hb)
            replace E1 := Lib.hid (blk_below E1.out hb)
            replace HB0 := Lib.hid (cbt HB0.out hb)
            clear hb
            have k_E0_0 := E0.out.cell 0
            have k_E0_1 := E0.out.cell 1
            have k_E1_0 := E1.out.cell 0
            have k_E1_1 := E1.out.cell 1
            go_wp2_with fail
            go_ret
            exact ⟨rfl, HB0.out⟩
          · have ha0 : 0 < a.1 := Nat.pos_of_ne_zero hza
            clear hza
            by_cases hzb : b.1 = 0
            · have HPb := Lib.hid ((wl_eq_zero (k := 8) (by decide)).2 hzb)
              have HPNa : Hid (wl 8 a.1 ≠ 0) := Lib.hid (fun h => by have := (wl_eq_zero (k := 8) (by decide)).1 h; omega)
              clear hzb ha0 hsa hsb hra hrb HTa HTb
              clear hlx hkx hly hky h0 h1 h2 h3 ylx ymx yly ymy
              have e0 := (Blk.new (w) 45 #[(.slice Ux nx cx), (.slice Vx kx dx)]).alloc (.cells #[(.slice Uy ny cy), (.slice Vy ky dy)] 45)
              have e1 := Blk.new ((w).alloc (.cells #[(.slice Ux nx cx), (.slice Vx kx dx)] 45)) 45 #[(.slice Uy ny cy), (.slice Vy ky dy)]
              have hb := cba (cba (Below.refl _ w) (.cells #[(.slice Ux nx cx), (.slice Vx kx dx)] 45)) (.cells #[(.slice Uy ny cy), (.slice Vy ky dy)] 45)
              simp only [World.size_alloc] at e1
              have hsz : w.heap.size ≤ w.heap.size := Nat.le_refl _
              go_enter Try.func9, Try.ntmps9
              go_upto_region 1 with (fail)
              obtain ⟨S, hS⟩ : ∃ S, ((w).alloc (.cells #[(.slice Ux nx cx), (.slice Vx kx dx)] 45)).alloc (.cells #[(.slice Uy ny cy), (.slice Vy ky dy)] 45) = S := ⟨_, rfl⟩
              rw [hS] at e0 e1 hb ⊢
              replace Hx := Lib.hid (Hx.out.below hb)
              replace Hy := Lib.hid (Hy.out.below hb)
              have HB0 := Lib.hid hb
              have E0 := Lib.hid e0
              have E1 := Lib.hid e1
              clear hS hb hsz e0 e1
              have k_E0_0 := E0.out.cell 0
              have k_E0_1 := E0.out.cell 1
              have k_E1_0 := E1.out.cell 0
              have k_E1_1 := E1.out.cell 1
              go_wp2_with fail
              with_reducible refine (HRa.out _ _ Hx.out).mono ?_
              rintro e w2 ⟨A2, p2, c2, B2, q2, e2, rfl, hr, hp, hb⟩
              clear k_E0_0 k_E0_1 k_E1_0 k_E1_1
              replace Hx := Lib.hid (Hx.out.below hb)
              replace Hy := Lib.hid (Hy.out.below hb)
              replace E0 := Lib.hid (blk_below E0.out hb)
              replace E1 := Lib.hid (blk_below E1.out hb)
              replace HB0 := Lib.hid (cbt HB0.out hb)
              have dp2 : ((p2 : Int) == 0) = false := beq_eq_false_iff_ne.2 (by have := HPNa.out; omega)
              clear hp
              have hfd2 := fld52 A2 p2 c2 B2 q2 e2
              clear hb hr
              have k_E0_0 := E0.out.cell 0
              have k_E0_1 := E0.out.cell 1
              have k_E1_0 := E1.out.cell 0
              have k_E1_1 := E1.out.cell 1
              go_wp2_with fail
              with_reducible refine (HRb.out _ _ Hy.out).mono ?_
              rintro e w3 ⟨A3, p3, c3, B3, q3, e3, rfl, hr, hp, hb⟩
              clear k_E0_0 k_E0_1 k_E1_0 k_E1_1
              replace Hx := Lib.hid (Hx.out.below hb)
              replace Hy := Lib.hid (Hy.out.below hb)
              replace E0 := Lib.hid (blk_below E0.out hb)
              replace E1 := Lib.hid (blk_below E1.out hb)
              replace HB0 := Lib.hid (cbt HB0.out hb)
              have dp3 : ((p3 : Int) == 0) = true := beq_iff_eq.2 (by rw [hp, HPb.out]; rfl)
              clear hp
              have hfd3 := fld52 A3 p3 c3 B3 q3 e3
              clear hb hr
              have k_E0_0 := E0.out.cell 0
              have k_E0_1 := E0.out.cell 1
              have k_E1_0 := E1.out.cell 0
              have k_E1_1 := E1.out.cell 1
              go_wp2_with fail
              with_reducible refine (HLV.out _).mono ?_
              rintro e w9 ⟨rfl, hb⟩
              clear k_E0_0 k_E0_1 k_E1_0 k_E1_1
              replace Hx := Lib.hid (Hx.out.below hb)
              replace Hy := Lib.hid (Hy.out.below hb)
              replace E0 := Lib.hid (blk_below E0.out hb)
              replace E1 := Lib.hid (blk_below E1.out hb)
              replace HB0 := Lib.hid (cbt HB0.out hb)
              clear hb
              have k_E0_0 := E0.out.cell 0
              have k_E0_1 := E0.out.cell 1
              have k_E1_0 := E1.out.cell 0
              have k_E1_1 := E1.out.cell 1
              go_wp2_with fail
              go_ret
              exact ⟨rfl, HB0.out⟩
            · have hb0 : 0 < b.1 := Nat.pos_of_ne_zero hzb
              clear hzb
              have HPNa : Hid (wl 8 a.1 ≠ 0) := Lib.hid (fun h => by have := (wl_eq_zero (k := 8) (by decide)).1 h; omega)
              have HPNb : Hid (wl 8 b.1 ≠ 0) := Lib.hid (fun h => by have := (wl_eq_zero (k := 8) (by decide)).1 h; omega)
              have hb1 : a1 % 13 ≤ 12 := by omega
              have e1 : Int.tmod (a1 : Int) 13 = ((a1 % 13 : Nat) : Int) := rfl
              obtain ⟨b1, hb1e⟩ : ∃ b, a1 % 13 = b := ⟨_, rfl⟩
              rw [hb1e] at hb1 e1
              have la := hsa.lt (m := 2000) (by decide)
              have lb := hsb.lt (m := 2000) (by decide)
              have lp := (hsa.mul hsb).lt (m := 2000) (by decide)
              have hrp := mulR_red hra hrb
              have hp0 : 0 < (mulR a b).1 := rn_pos (Nat.mul_pos ha0 hb0)
              have HLa := Lib.hid (fun v W h => c_log (a := a) (v := v) (W := W) (kb := (b1 : Int)) h rfl ha0 hra.2 la (by decide) hb1)
              have HLb := Lib.hid (fun v W h => c_log (a := b) (v := v) (W := W) (kb := (b1 : Int)) h rfl hb0 hrb.2 lb (by decide) hb1)
              have HLp := Lib.hid (fun v W h => c_log (a := mulR a b) (v := v) (W := W) (kb := (b1 : Int)) h rfl hp0 hrp.2 lp (by decide) hb1)
              have HMU := Lib.hid (fun va vb W h1 h2 => c_mul (va := va) (vb := vb) (W := W) (B := 80) (by decide) (hsa.mono (by decide)) (hsb.mono (by decide)) h1 h2)
              have HCM := Lib.hid (fun va vb W h1 h2 => c_cmp (va := va) (vb := vb) (W := W) (B := 80) (by decide) (hsa.mono (by decide)) (hsb.mono (by decide)) h1 h2)
              have ba := lg_le (b := b1) ha0 hra.2 la (by decide) hb1
              have bb := lg_le (b := b1) hb0 hrb.2 lb (by decide) hb1
              have bp := lg_le (b := b1) hp0 hrp.2 lp (by decide) hb1
              have hsum := lg_mul hra hrb ha0 hb0 b1
              have HCMP := Lib.hid (lg_cmp hra hrb ha0 hb0 b1)
              generalize mulR a b = p at *
              obtain ⟨cc, hcc⟩ : ∃ c, cmpN (a.1 * b.2) (b.1 * a.2) = c := ⟨_, rfl⟩
              rw [hcc] at HCM HCMP
              obtain ⟨zu, hu⟩ : ∃ z, lg a b1 = z := ⟨_, rfl⟩
              obtain ⟨zv, hv⟩ : ∃ z, lg b b1 = z := ⟨_, rfl⟩
              obtain ⟨z, hz⟩ : ∃ z, lg p b1 = z := ⟨_, rfl⟩
              rw [hu] at HLa ba hsum HCMP
              rw [hv] at HLb bb hsum HCMP
              rw [hz] at HLp bp hsum
              have hs1 : decide (z - zu - zv < 0) = false := decide_eq_false (by omega)
              have hs2 : decide (1 < z - zu - zv) = false := decide_eq_false (by omega)
              have ba1 := ba.1
              have ba2 := ba.2
              have bb1 := bb.1
              have bb2 := bb.2
              have bp1 := bp.1
              have bp2 := bp.2
              clear hcc hu hv hz hb1e hsum la lb lp hsa hsb hra hrb hrp hp0 ha0 hb0 ba bb bp
              clear hlx hkx hly hky h0 h1 h2 h3 ylx ymx yly ymy
              have e0 := (Blk.new (w) 45 #[(.slice Ux nx cx), (.slice Vx kx dx)]).alloc (.cells #[(.slice Uy ny cy), (.slice Vy ky dy)] 45)
              have e1 := Blk.new ((w).alloc (.cells #[(.slice Ux nx cx), (.slice Vx kx dx)] 45)) 45 #[(.slice Uy ny cy), (.slice Vy ky dy)]
              have hb := cba (cba (Below.refl _ w) (.cells #[(.slice Ux nx cx), (.slice Vx kx dx)] 45)) (.cells #[(.slice Uy ny cy), (.slice Vy ky dy)] 45)
              simp only [World.size_alloc] at e1
              have hsz : w.heap.size ≤ w.heap.size := Nat.le_refl _
              go_enter Try.func9, Try.ntmps9
              go_upto_region 1 with (fail)
              obtain ⟨S, hS⟩ : ∃ S, ((w).alloc (.cells #[(.slice Ux nx cx), (.slice Vx kx dx)] 45)).alloc (.cells #[(.slice Uy ny cy), (.slice Vy ky dy)] 45) = S := ⟨_, rfl⟩
              rw [hS] at e0 e1 hb ⊢
              replace Hx := Lib.hid (Hx.out.below hb)
              replace Hy := Lib.hid (Hy.out.below hb)
              have HB0 := Lib.hid hb
              have E0 := Lib.hid e0
              have E1 := Lib.hid e1
              clear hS hb hsz e0 e1
              have k_E0_0 := E0.out.cell 0
              have k_E0_1 := E0.out.cell 1
              have k_E1_0 := E1.out.cell 0
              have k_E1_1 := E1.out.cell 1
              go_wp2_with fail
              with_reducible refine (HRa.out _ _ Hx.out).mono ?_
              rintro e w2 ⟨A2, p2, c2, B2, q2, e2, rfl, hr, hp, hb⟩
              clear k_E0_0 k_E0_1 k_E1_0 k_E1_1
              replace Hx := Lib.hid (Hx.out.below hb)
              replace Hy := Lib.hid (Hy.out.below hb)
              replace E0 := Lib.hid (blk_below E0.out hb)
              replace E1 := Lib.hid (blk_below E1.out hb)
              replace HB0 := Lib.hid (cbt HB0.out hb)
              have dp2 : ((p2 : Int) == 0) = false := beq_eq_false_iff_ne.2 (by have := HPNa.out; omega)
              clear hp
              have hfd2 := fld52 A2 p2 c2 B2 q2 e2
              clear hb hr
              have k_E0_0 := E0.out.cell 0
              have k_E0_1 := E0.out.cell 1
              have k_E1_0 := E1.out.cell 0
              have k_E1_1 := E1.out.cell 1
              go_wp2_with fail
              with_reducible refine (HRb.out _ _ Hy.out).mono ?_
              rintro e w3 ⟨A3, p3, c3, B3, q3, e3, rfl, hr, hp, hb⟩
              clear k_E0_0 k_E0_1 k_E1_0 k_E1_1
              replace Hx := Lib.hid (Hx.out.below hb)
              replace Hy := Lib.hid (Hy.out.below hb)
              replace E0 := Lib.hid (blk_below E0.out hb)
              replace E1 := Lib.hid (blk_below E1.out hb)
              replace HB0 := Lib.hid (cbt HB0.out hb)
              have dp3 : ((p3 : Int) == 0) = false := beq_eq_false_iff_ne.2 (by have := HPNb.out; omega)
              clear hp
              have hfd3 := fld52 A3 p3 c3 B3 q3 e3
              clear hb hr
              have k_E0_0 := E0.out.cell 0
              have k_E0_1 := E0.out.cell 1
              have k_E1_0 := E1.out.cell 0
              have k_E1_1 := E1.out.cell 1
              go_wp2_with fail
              clear k_E0_0 k_E0_1 k_E1_0 k_E1_1 dp2 dp3 hfd2 hfd3
              let FS : List Kept1 := [.frc (lx) (mx), .f (a.1) (a.2), .frc (ly) (my), .f (b.1) (b.2), .any, .any, .any, .any]
              let BS : List Bx := [Bx.rat (.inl 4) 6 #[.slice none 0 0, .slice none 0 0] (a.1) (a.2), Bx.rat (.inl 5) 7 #[.slice none 0 0, .slice none 0 0] (b.1) (b.2)]
              refine region_mono (Held w3 (fun j => FS.getD j .any) BS) (by kernel_rfl) (by kernel_rfl) (by kernel_rfl) (Held.start _ _ _ (by simp [BS, Bx.nat, Bx.rat, Bx.ref]) (by simp [BS, Bx.nat, Bx.rat, Bx.ref])) ?_
              refine Steps.held ?_ ?_
              · intro L v w' hJ
                have kb := hJ.out.blk E0.out (by simp [oldsOf, BS, Bx.nat, Bx.rat, Bx.ref])
                have k0 := kb.cell 0
                have k1 := kb.cell 1
                clear kb
                go_wp2_with fail
                exact ⟨rfl, rfl, hJ.out.same (by rfl) (Hx.out.keep hJ.out.held.keep)⟩
              simp only [Act.put, List.setIfInBounds_toArray, List.set_cons_zero, List.set_cons_succ, Nat.reduceAdd]
              refine Steps.held ?_ ?_
              · intro L v w' hJ
                have X0 := Lib.hid (show Frc w' (v 0) (lx) (mx) from hJ.out.fact 0 (by kernel_rfl))
                go_wp2_with fail
                with_reducible refine (HTa.out _ _ X0.out).mono ?_
                rintro e w1 ⟨u, rfl, hu, hb⟩
                go_wp2_with fail
                exact ⟨rfl, rfl, hJ.out.call (by rfl) hb (hu)⟩
              simp only [Act.put, List.setIfInBounds_toArray, List.set_cons_zero, List.set_cons_succ, Nat.reduceAdd]
              refine Steps.held ?_ ?_
              · intro L v w' hJ
                have kb := hJ.out.blk E1.out (by simp [oldsOf, BS, Bx.nat, Bx.rat, Bx.ref])
                have k0 := kb.cell 0
                have k1 := kb.cell 1
                clear kb
                go_wp2_with fail
                exact ⟨rfl, rfl, hJ.out.same (by rfl) (Hy.out.keep hJ.out.held.keep)⟩
              simp only [Act.put, List.setIfInBounds_toArray, List.set_cons_zero, List.set_cons_succ, Nat.reduceAdd]
              refine Steps.held ?_ ?_
              · intro L v w' hJ
                have X0 := Lib.hid (show Frc w' (v 2) (ly) (my) from hJ.out.fact 2 (by kernel_rfl))
                go_wp2_with fail
                with_reducible refine (HTb.out _ _ X0.out).mono ?_
                rintro e w1 ⟨u, rfl, hu, hb⟩
                go_wp2_with fail
                exact ⟨rfl, rfl, hJ.out.call (by rfl) hb (hu)⟩
              simp only [Act.put, List.setIfInBounds_toArray, List.set_cons_zero, List.set_cons_succ, Nat.reduceAdd]
              refine Steps.held ?_ ?_
              · intro L v w' hJ
                go_wp2_with fail
                exact ⟨rfl, rfl, hJ.out.made 0 _ rfl rfl (by rfl) trivial⟩
              simp only [Act.put, List.setIfInBounds_toArray, List.set_cons_zero, List.set_cons_succ, Nat.reduceAdd]
              refine Steps.held ?_ ?_
              · intro L v w' hJ
                go_wp2_with fail
                exact ⟨rfl, rfl, hJ.out.made 1 _ rfl rfl (by rfl) trivial⟩
              simp only [Act.put, List.setIfInBounds_toArray, List.set_cons_zero, List.set_cons_succ, Nat.reduceAdd]
              refine Steps.held ?_ ?_
              · intro L v w' hJ
                obtain ⟨g, hg, hge, hown, hst⟩ := hJ.out.newbox 0 _ rfl 4 rfl (by kernel_rfl)
                have hN : F64 w' (v 1) (a.1) (a.2) := hJ.out.fact 1 (by kernel_rfl)
                obtain ⟨A1, p1, c1, B1, q1, e1, x1, hv, h1, h2, h3⟩ := hN
                have HN := Lib.hid (show F64 w' (.agg #[.slice A1 p1 c1, .slice B1 q1 e1]) (a.1) (a.2) from ⟨A1, p1, c1, B1, q1, e1, x1, rfl, h1, h2, h3⟩)
                have kb := hJ.out.box 0 _ rfl rfl g hown
                have k0 : w'.cell? ⟨g, 0, none⟩ = some (.slice none 0 0) := kb.cell 0
                have k1 : w'.cell? ⟨g, 1, none⟩ = some (.slice none 0 0) := kb.cell 1
                have f0 := kb.frozen 0
                have f1 := kb.frozen 1
                have HO := Lib.hid hown
                have HS := Lib.hid hst
                clear kb h1 h2 h3 hown hst
                simp only [hg, hv]
                clear hg hv
                go_wp2_with fail
                exact ⟨rfl, rfl, hJ.out.fill2 0 _ rfl rfl (by rfl) g HO.out HS.out _ _ rfl rfl rfl (fun W k => HN.out.keep k) (fun _ => trivial)⟩
              simp only [Act.put, List.setIfInBounds_toArray, List.set_cons_zero, List.set_cons_succ, Nat.reduceAdd]
              refine Steps.held ?_ ?_
              · intro L v w' hJ
                obtain ⟨g, hg, hge, hown, hst⟩ := hJ.out.newbox 1 _ rfl 5 rfl (by kernel_rfl)
                have hN : F64 w' (v 3) (b.1) (b.2) := hJ.out.fact 3 (by kernel_rfl)
                obtain ⟨A1, p1, c1, B1, q1, e1, x1, hv, h1, h2, h3⟩ := hN
                have HN := Lib.hid (show F64 w' (.agg #[.slice A1 p1 c1, .slice B1 q1 e1]) (b.1) (b.2) from ⟨A1, p1, c1, B1, q1, e1, x1, rfl, h1, h2, h3⟩)
                have kb := hJ.out.box 1 _ rfl rfl g hown
                have k0 : w'.cell? ⟨g, 0, none⟩ = some (.slice none 0 0) := kb.cell 0
                have k1 : w'.cell? ⟨g, 1, none⟩ = some (.slice none 0 0) := kb.cell 1
                have f0 := kb.frozen 0
                have f1 := kb.frozen 1
                have HO := Lib.hid hown
                have HS := Lib.hid hst
                clear kb h1 h2 h3 hown hst
                simp only [hg, hv]
                clear hg hv
                go_wp2_with fail
                exact ⟨rfl, rfl, hJ.out.fill2 1 _ rfl rfl (by rfl) g HO.out HS.out _ _ rfl rfl rfl (fun W k => HN.out.keep k) (fun _ => trivial)⟩
              simp only [Act.put, List.setIfInBounds_toArray, List.set_cons_zero, List.set_cons_succ, Nat.reduceAdd]
              refine Steps.nil ?_
              intro v w' hJ
              obtain ⟨g5, cs4, hv4, hge4, hb4, hf4⟩ := hJ.end_new 0 _ rfl 4 rfl (by decide) (Nat.le_of_ble_eq_true rfl)
              have hfx : F64 w' (.agg cs4) a.1 a.2 := hf4
              obtain ⟨A4, p4, c4, B4, q4, e4, x4, hcs4, h1, h2, h3⟩ := hfx
              have hcs4' := Value.agg.inj hcs4
              subst hcs4'
              simp only [hv4]
              have E5 := Lib.hid (show Blk w' g5 47 #[.slice A4 p4 c4, .slice B4 q4 e4] from hb4)
              have NE5 := Lib.hid (show F64 w' (.agg #[.slice A4 p4 c4, .slice B4 q4 e4]) a.1 a.2 from hf4)
              clear hv4 hb4 hf4 hcs4 h1 h2
              obtain ⟨g6, cs5, hv5, hge5, hb5, hf5⟩ := hJ.end_new 1 _ rfl 5 rfl (by decide) (Nat.le_of_ble_eq_true rfl)
              have hfx : F64 w' (.agg cs5) b.1 b.2 := hf5
              obtain ⟨A5, p5, c5, B5, q5, e5, x5, hcs5, h1, h2, h3⟩ := hfx
              have hcs5' := Value.agg.inj hcs5
              subst hcs5'
              simp only [hv5]
              have E6 := Lib.hid (show Blk w' g6 47 #[.slice A5 p5 c5, .slice B5 q5 e5] from hb5)
              have NE6 := Lib.hid (show F64 w' (.agg #[.slice A5 p5 c5, .slice B5 q5 e5]) b.1 b.2 from hf5)
              clear hv5 hb5 hf5 hcs5 h1 h2
              have hbr := hJ.but.below
              replace HB0 := Lib.hid (cbt HB0.out hbr)
              clear hJ hbr
              clear Hx Hy E0 E1
              have k_E5_0 := E5.out.cell 0
              have k_E5_1 := E5.out.cell 1
              have k_E6_0 := E6.out.cell 0
              have k_E6_1 := E6.out.cell 1
              go_wp2_with fail
              with_reducible refine (HLa.out _ _ NE5.out).mono ?_
              rintro e w4 ⟨rfl, hb⟩
              clear k_E5_0 k_E5_1 k_E6_0 k_E6_1
              replace NE5 := Lib.hid (NE5.out.below hb)
              replace NE6 := Lib.hid (NE6.out.below hb)
              replace E5 := Lib.hid (blk_below E5.out hb)
              replace E6 := Lib.hid (blk_below E6.out hb)
              replace HB0 := Lib.hid (cbt HB0.out hb)
              clear hb
              have k_E5_0 := E5.out.cell 0
              have k_E5_1 := E5.out.cell 1
              have k_E6_0 := E6.out.cell 0
              have k_E6_1 := E6.out.cell 1
              go_wp2_with fail
              with_reducible refine (HLb.out _ _ NE6.out).mono ?_
              rintro e w5 ⟨rfl, hb⟩
              clear k_E5_0 k_E5_1 k_E6_0 k_E6_1
              replace NE5 := Lib.hid (NE5.out.below hb)
              replace NE6 := Lib.hid (NE6.out.below hb)
              replace E5 := Lib.hid (blk_below E5.out hb)
              replace E6 := Lib.hid (blk_below E6.out hb)
              replace HB0 := Lib.hid (cbt HB0.out hb)
              clear hb
              have k_E5_0 := E5.out.cell 0
              have k_E5_1 := E5.out.cell 1
              have k_E6_0 := E6.out.cell 0
              have k_E6_1 := E6.out.cell 1
              go_wp2_with fail
              with_reducible refine (HMU.out _ _ _ NE5.out NE6.out).mono ?_
              rintro e w6 ⟨u, rfl, hu, hb⟩
              clear k_E5_0 k_E5_1 k_E6_0 k_E6_1
              replace NE5 := Lib.hid (NE5.out.below hb)
              replace NE6 := Lib.hid (NE6.out.below hb)
              replace E5 := Lib.hid (blk_below E5.out hb)
              replace E6 := Lib.hid (blk_below E6.out hb)
              replace HB0 := Lib.hid (cbt HB0.out hb)
              have NP := Lib.hid hu
              clear hb hu
              have k_E5_0 := E5.out.cell 0
              have k_E5_1 := E5.out.cell 1
              have k_E6_0 := E6.out.cell 0
              have k_E6_1 := E6.out.cell 1
              go_wp2_with fail
              with_reducible refine (HLp.out _ _ NP.out).mono ?_
              rintro e w7 ⟨rfl, hb⟩
              clear k_E5_0 k_E5_1 k_E6_0 k_E6_1
              replace NE5 := Lib.hid (NE5.out.below hb)
              replace NE6 := Lib.hid (NE6.out.below hb)
              replace NP := Lib.hid (NP.out.below hb)
              replace E5 := Lib.hid (blk_below E5.out hb)
              replace E6 := Lib.hid (blk_below E6.out hb)
              replace HB0 := Lib.hid (cbt HB0.out hb)
              clear hb
              have k_E5_0 := E5.out.cell 0
              have k_E5_1 := E5.out.cell 1
              have k_E6_0 := E6.out.cell 0
              have k_E6_1 := E6.out.cell 1
              go_wp2_with fail
              with_reducible refine (HCM.out _ _ _ NE5.out NE6.out).mono ?_
              rintro e w8 ⟨rfl, hb⟩
              clear k_E5_0 k_E5_1 k_E6_0 k_E6_1
              replace NE5 := Lib.hid (NE5.out.below hb)
              replace NE6 := Lib.hid (NE6.out.below hb)
              replace NP := Lib.hid (NP.out.below hb)
              replace E5 := Lib.hid (blk_below E5.out hb)
              replace E6 := Lib.hid (blk_below E6.out hb)
              replace HB0 := Lib.hid (cbt HB0.out hb)
              clear hb
              have k_E5_0 := E5.out.cell 0
              have k_E5_1 := E5.out.cell 1
              have k_E6_0 := E6.out.cell 0
              have k_E6_1 := E6.out.cell 1
              rcases HCMP.out with ⟨rfl, hc⟩ | ⟨rfl, rfl⟩ | ⟨rfl, hc⟩
              · have dc : decide (zu ≤ zv) = true := decide_eq_true hc
                clear hc HCMP
                go_wp2_with fail
                with_reducible refine (HLV.out _).mono ?_
                rintro e w9 ⟨rfl, hb⟩
                clear k_E5_0 k_E5_1 k_E6_0 k_E6_1
                replace NE5 := Lib.hid (NE5.out.below hb)
                replace NE6 := Lib.hid (NE6.out.below hb)
                replace NP := Lib.hid (NP.out.below hb)
                replace E5 := Lib.hid (blk_below E5.out hb)
                replace E6 := Lib.hid (blk_below E6.out hb)
                replace HB0 := Lib.hid (cbt HB0.out hb)
                clear hb
                have k_E5_0 := E5.out.cell 0
                have k_E5_1 := E5.out.cell 1
                have k_E6_0 := E6.out.cell 0
                have k_E6_1 := E6.out.cell 1
                go_wp2_with fail
                go_ret
                exact ⟨rfl, HB0.out⟩
              · clear HCMP
                go_wp2_with fail
                with_reducible refine (HLV.out _).mono ?_
                rintro e w9 ⟨rfl, hb⟩
                clear k_E5_0 k_E5_1 k_E6_0 k_E6_1
                replace NE5 := Lib.hid (NE5.out.below hb)
                replace NE6 := Lib.hid (NE6.out.below hb)
                replace NP := Lib.hid (NP.out.below hb)
                replace E5 := Lib.hid (blk_below E5.out hb)
                replace E6 := Lib.hid (blk_below E6.out hb)
                replace HB0 := Lib.hid (cbt HB0.out hb)
                clear hb
                have k_E5_0 := E5.out.cell 0
                have k_E5_1 := E5.out.cell 1
                have k_E6_0 := E6.out.cell 0
                have k_E6_1 := E6.out.cell 1
                go_wp2_with fail
                go_ret
                exact ⟨rfl, HB0.out⟩
              · have dc : decide (zv ≤ zu) = true := decide_eq_true hc
                clear hc HCMP
                go_wp2_with fail
                with_reducible refine (HLV.out _).mono ?_
                rintro e w9 ⟨rfl, hb⟩
                clear k_E5_0 k_E5_1 k_E6_0 k_E6_1
                replace NE5 := Lib.hid (NE5.out.below hb)
                replace NE6 := Lib.hid (NE6.out.below hb)
                replace NP := Lib.hid (NP.out.below hb)
                replace E5 := Lib.hid (blk_below E5.out hb)
                replace E6 := Lib.hid (blk_below E6.out hb)
                replace HB0 := Lib.hid (cbt HB0.out hb)
                clear hb
                have k_E5_0 := E5.out.cell 0
                have k_E5_1 := E5.out.cell 1
                have k_E6_0 := E6.out.cell 0
                have k_E6_1 := E6.out.cell 1
                go_wp2_with fail
                go_ret
                exact ⟨rfl, HB0.out⟩
        · have d0 : decide (60 < (nx : Int)) = false := decide_eq_false (by omega)
          have d1 : decide (60 < (kx : Int)) = false := decide_eq_false (by omega)
          have d2 : decide (60 < (ny : Int)) = false := decide_eq_false (by omega)
          have d3 : decide (60 < (ky : Int)) = true := decide_eq_true (by omega)
          clear hlx hkx hly hky h0 h1 h2 h3
          have e0 := (Blk.new (w) 45 #[(.slice Ux nx cx), (.slice Vx kx dx)]).alloc (.cells #[(.slice Uy ny cy), (.slice Vy ky dy)] 45)
          have e1 := Blk.new ((w).alloc (.cells #[(.slice Ux nx cx), (.slice Vx kx dx)] 45)) 45 #[(.slice Uy ny cy), (.slice Vy ky dy)]
          have hb := cba (cba (Below.refl _ w) (.cells #[(.slice Ux nx cx), (.slice Vx kx dx)] 45)) (.cells #[(.slice Uy ny cy), (.slice Vy ky dy)] 45)
          simp only [World.size_alloc] at e1
          have hsz : w.heap.size ≤ w.heap.size := Nat.le_refl _
          go_enter Try.func9, Try.ntmps9
          go_upto_region 1 with (fail)
          obtain ⟨S, hS⟩ : ∃ S, ((w).alloc (.cells #[(.slice Ux nx cx), (.slice Vx kx dx)] 45)).alloc (.cells #[(.slice Uy ny cy), (.slice Vy ky dy)] 45) = S := ⟨_, rfl⟩
          rw [hS] at e0 e1 hb ⊢
          replace Hx := Lib.hid (Hx.out.below hb)
          replace Hy := Lib.hid (Hy.out.below hb)
          have HB0 := Lib.hid hb
          have E0 := Lib.hid e0
          have E1 := Lib.hid e1
          clear hS hb hsz e0 e1
          have k_E0_0 := E0.out.cell 0
          have k_E0_1 := E0.out.cell 1
          have k_E1_0 := E1.out.cell 0
          have k_E1_1 := E1.out.cell 1
          go_wp2_with fail
          with_reducible refine (HLV.out _).mono ?_
          rintro e w9 ⟨rfl, hb⟩
          clear k_E0_0 k_E0_1 k_E1_0 k_E1_1
          replace Hx := Lib.hid (Hx.out.below hb)
          replace Hy := Lib.hid (Hy.out.below hb)
          replace E0 := Lib.hid (blk_below E0.out hb)
          replace E1 := Lib.hid (blk_below E1.out hb)
          replace HB0 := Lib.hid (cbt HB0.out hb)
          clear hb
          have k_E0_0 := E0.out.cell 0
          have k_E0_1 := E0.out.cell 1
          have k_E1_0 := E1.out.cell 0
          have k_E1_1 := E1.out.cell 1
          go_wp2_with fail
          go_ret
          exact ⟨rfl, HB0.out⟩
      · have d0 : decide (60 < (nx : Int)) = false := decide_eq_false (by omega)
        have d1 : decide (60 < (kx : Int)) = false := decide_eq_false (by omega)
        have d2 : decide (60 < (ny : Int)) = true := decide_eq_true (by omega)
        clear hlx hkx hly hky h0 h1 h2
        have e0 := (Blk.new (w) 45 #[(.slice Ux nx cx), (.slice Vx kx dx)]).alloc (.cells #[(.slice Uy ny cy), (.slice Vy ky dy)] 45)
        have e1 := Blk.new ((w).alloc (.cells #[(.slice Ux nx cx), (.slice Vx kx dx)] 45)) 45 #[(.slice Uy ny cy), (.slice Vy ky dy)]
        have hb := cba (cba (Below.refl _ w) (.cells #[(.slice Ux nx cx), (.slice Vx kx dx)] 45)) (.cells #[(.slice Uy ny cy), (.slice Vy ky dy)] 45)
        simp only [World.size_alloc] at e1
        have hsz : w.heap.size ≤ w.heap.size := Nat.le_refl _
        go_enter Try.func9, Try.ntmps9
        go_upto_region 1 with (fail)
        obtain ⟨S, hS⟩ : ∃ S, ((w).alloc (.cells #[(.slice Ux nx cx), (.slice Vx kx dx)] 45)).alloc (.cells #[(.slice Uy ny cy), (.slice Vy ky dy)] 45) = S := ⟨_, rfl⟩
        rw [hS] at e0 e1 hb ⊢
        replace Hx := Lib.hid (Hx.out.below hb)
        replace Hy := Lib.hid (Hy.out.below hb)
        have HB0 := Lib.hid hb
        have E0 := Lib.hid e0
        have E1 := Lib.hid e1
        clear hS hb hsz e0 e1
        have k_E0_0 := E0.out.cell 0
        have k_E0_1 := E0.out.cell 1
        have k_E1_0 := E1.out.cell 0
        have k_E1_1 := E1.out.cell 1
        go_wp2_with fail
        with_reducible refine (HLV.out _).mono ?_
        rintro e w9 ⟨rfl, hb⟩
        clear k_E0_0 k_E0_1 k_E1_0 k_E1_1
        replace Hx := Lib.hid (Hx.out.below hb)
        replace Hy := Lib.hid (Hy.out.below hb)
        replace E0 := Lib.hid (blk_below E0.out hb)
        replace E1 := Lib.hid (blk_below E1.out hb)
        replace HB0 := Lib.hid (cbt HB0.out hb)
        clear hb
        have k_E0_0 := E0.out.cell 0
        have k_E0_1 := E0.out.cell 1
        have k_E1_0 := E1.out.cell 0
        have k_E1_1 := E1.out.cell 1
        go_wp2_with fail
        go_ret
        exact ⟨rfl, HB0.out⟩
    · have d0 : decide (60 < (nx : Int)) = false := decide_eq_false (by omega)
      have d1 : decide (60 < (kx : Int)) = true := decide_eq_true (by omega)
      clear hlx hkx hly hky h0 h1
      have e0 := (Blk.new (w) 45 #[(.slice Ux nx cx), (.slice Vx kx dx)]).alloc (.cells #[(.slice Uy ny cy), (.slice Vy ky dy)] 45)
      have e1 := Blk.new ((w).alloc (.cells #[(.slice Ux nx cx), (.slice Vx kx dx)] 45)) 45 #[(.slice Uy ny cy), (.slice Vy ky dy)]
      have hb := cba (cba (Below.refl _ w) (.cells #[(.slice Ux nx cx), (.slice Vx kx dx)] 45)) (.cells #[(.slice Uy ny cy), (.slice Vy ky dy)] 45)
      simp only [World.size_alloc] at e1
      have hsz : w.heap.size ≤ w.heap.size := Nat.le_refl _
      go_enter Try.func9, Try.ntmps9
      go_upto_region 1 with (fail)
      obtain ⟨S, hS⟩ : ∃ S, ((w).alloc (.cells #[(.slice Ux nx cx), (.slice Vx kx dx)] 45)).alloc (.cells #[(.slice Uy ny cy), (.slice Vy ky dy)] 45) = S := ⟨_, rfl⟩
      rw [hS] at e0 e1 hb ⊢
      replace Hx := Lib.hid (Hx.out.below hb)
      replace Hy := Lib.hid (Hy.out.below hb)
      have HB0 := Lib.hid hb
      have E0 := Lib.hid e0
      have E1 := Lib.hid e1
      clear hS hb hsz e0 e1
      have k_E0_0 := E0.out.cell 0
      have k_E0_1 := E0.out.cell 1
      have k_E1_0 := E1.out.cell 0
      have k_E1_1 := E1.out.cell 1
      go_wp2_with fail
      with_reducible refine (HLV.out _).mono ?_
      rintro e w9 ⟨rfl, hb⟩
      clear k_E0_0 k_E0_1 k_E1_0 k_E1_1
      replace Hx := Lib.hid (Hx.out.below hb)
      replace Hy := Lib.hid (Hy.out.below hb)
      replace E0 := Lib.hid (blk_below E0.out hb)
      replace E1 := Lib.hid (blk_below E1.out hb)
      replace HB0 := Lib.hid (cbt HB0.out hb)
      clear hb
      have k_E0_0 := E0.out.cell 0
      have k_E0_1 := E0.out.cell 1
      have k_E1_0 := E1.out.cell 0
      have k_E1_1 := E1.out.cell 1
      go_wp2_with fail
      go_ret
      exact ⟨rfl, HB0.out⟩
  · have d0 : decide (60 < (nx : Int)) = true := decide_eq_true (by omega)
    clear hlx hkx hly hky h0
    have e0 := (Blk.new (w) 45 #[(.slice Ux nx cx), (.slice Vx kx dx)]).alloc (.cells #[(.slice Uy ny cy), (.slice Vy ky dy)] 45)
    have e1 := Blk.new ((w).alloc (.cells #[(.slice Ux nx cx), (.slice Vx kx dx)] 45)) 45 #[(.slice Uy ny cy), (.slice Vy ky dy)]
    have hb := cba (cba (Below.refl _ w) (.cells #[(.slice Ux nx cx), (.slice Vx kx dx)] 45)) (.cells #[(.slice Uy ny cy), (.slice Vy ky dy)] 45)
    simp only [World.size_alloc] at e1
    have hsz : w.heap.size ≤ w.heap.size := Nat.le_refl _
    go_enter Try.func9, Try.ntmps9
    go_upto_region 1 with (fail)
    obtain ⟨S, hS⟩ : ∃ S, ((w).alloc (.cells #[(.slice Ux nx cx), (.slice Vx kx dx)] 45)).alloc (.cells #[(.slice Uy ny cy), (.slice Vy ky dy)] 45) = S := ⟨_, rfl⟩
    rw [hS] at e0 e1 hb ⊢
    replace Hx := Lib.hid (Hx.out.below hb)
    replace Hy := Lib.hid (Hy.out.below hb)
    have HB0 := Lib.hid hb
    have E0 := Lib.hid e0
    have E1 := Lib.hid e1
    clear hS hb hsz e0 e1
    have k_E0_0 := E0.out.cell 0
    have k_E0_1 := E0.out.cell 1
    have k_E1_0 := E1.out.cell 0
    have k_E1_1 := E1.out.cell 1
    go_wp2_with fail
    with_reducible refine (HLV.out _).mono ?_
    rintro e w9 ⟨rfl, hb⟩
    clear k_E0_0 k_E0_1 k_E1_0 k_E1_1
    replace Hx := Lib.hid (Hx.out.below hb)
    replace Hy := Lib.hid (Hy.out.below hb)
    replace E0 := Lib.hid (blk_below E0.out hb)
    replace E1 := Lib.hid (blk_below E1.out hb)
    replace HB0 := Lib.hid (cbt HB0.out hb)
    clear hb
    have k_E0_0 := E0.out.cell 0
    have k_E0_1 := E0.out.cell 1
    have k_E1_0 := E1.out.cell 0
    have k_E1_1 := E1.out.cell 1
    go_wp2_with fail
    go_ret
    exact ⟨rfl, HB0.out⟩
end Go.Proofs.Yteikhnmmkanndaa
namespace Go.Proofs.Yteikhnmmkanndaa
open Go.ChangeShapes Go.WideShapes Go.RowKit Go.Proofs.YteikhnmmkanndaaW.PrintWords
section
variable {H : Type} {enc : TypeId × Value → H} {w : World} {base : Nat} {spare : Nat → Bool} {held : Bool}
theorem open_bytes1 {fuel : Nat} {u : Value} {x : DataW H × List MemPlace} (h : DataW.trod enc Try.prog w base spare held fuel 22 [u] = some x) :
    ∃ A n c, ∃ l : List Int, u = .slice A n c ∧ l.length = n ∧ ByS w (.slice A n c) l ∧ Bys l := by
  rcases open_ints Try.underlying22 (e := 5) (k := .u8) (by kernel_rfl) (by kernel_rfl) h with ⟨hcs, _⟩ | ⟨a, l, c, zs, hcs, _⟩
  · obtain rfl : u = .slice none 0 0 := by simpa using hcs
    obtain ⟨l, h1, h2, h3⟩ := open_bytes_at h
    exact ⟨_, _, _, l, rfl, h1, h2, h3⟩
  · obtain rfl : u = .slice (some a) l c := by simpa using hcs
    obtain ⟨l, h1, h2, h3⟩ := open_bytes_at h
    exact ⟨_, _, _, l, rfl, h1, h2, h3⟩
theorem open_frc_at {fuel : Nat} {cs : Array Value} {x : DataW H × List MemPlace} (h2 : cs.size = 2) (h : DataW.trod enc Try.prog w base spare held fuel 45 cs.toList = some x) : ∃ l m : List Int, Frc w (.agg cs) l m ∧ Bys l ∧ Bys m := by
  obtain ⟨y0, y1, n, _, _, h0, h1⟩ := trod_struct2 Try.underlying45 h
  have hc : Try.prog.cellsOf 22 = 1 := by kernel_rfl
  simp only [hc] at h0 h1
  obtain ⟨l⟩ := cs
  rcases l with _ | ⟨a, _ | ⟨b, _ | ⟨c, t⟩⟩⟩
  · exact absurd h2 (by simp)
  · exact absurd h2 (by simp)
  · obtain ⟨A, p, c, l, rfl, hl, hA, yl⟩ := open_bytes1 (u := a) h0
    obtain ⟨B, q, d, m, rfl, hm, hB, ym⟩ := open_bytes1 (u := b) h1
    exact ⟨l, m, ⟨A, p, c, B, q, d, rfl, hA, hB, hl, hm⟩, yl, ym⟩
  · exact absurd h2 (by simp)
end
end Go.Proofs.Yteikhnmmkanndaa
