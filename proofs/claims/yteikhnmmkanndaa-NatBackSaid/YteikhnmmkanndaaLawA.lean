/- The walks of the laws NatMuls. -/
import Derived.Test.YteikhnmmkanndaaM4
namespace Go.Proofs.Yteikhnmmkanndaa
open Go.RowKit Go.Proofs.YteikhnmmkanndaaW.PrintWords

theorem be_w64 {l : List Int} (h : Bys l) : wl 64 (be l) ≤ l.length :=
  (wl_le (by decide) _ _).2 (Nat.lt_of_lt_of_le (be_lt h) (Nat.pow_le_pow_right (by decide) (by omega)))
theorem wl_mul_le {k x y a b : Nat} (hk : 0 < k) (hx : wl k x ≤ a) (hy : wl k y ≤ b) : wl k (x * y) ≤ a + b := by
  rw [wl_le hk] at hx hy ⊢
  rw [Nat.mul_add, Nat.pow_add]
  exact Nat.mul_lt_mul'' hx hy

theorem is_yes (va vb : Value) (x : Nat) (w : World) (ha : N64 w va x) (hb : R256 w vb x) (hx : wl 64 x ≤ 1099511627) (hy : wl 8 x ≤ 1000000000) : Calls Try.prog 26 #[va, vb] w fun e w' => e = .returned (.bool true) ∧ Below w.heap.size w w' :=
  (is_any va vb x x w ha hb hx hy).mono (fun _ _ ⟨he, hb⟩ => ⟨by rw [he, decide_eq_true rfl], hb⟩)

set_option maxRecDepth 100000 in
set_option maxHeartbeats 2000000 in
theorem natMuls_law (A : Option Addr) (n c : Nat) (la : List Int) (B : Option Addr) (m d : Nat) (lb : List Int) (w : World) (hla : la.length = n) (ha : ByS w (.slice A n c) la) (hba : Bys la) (hlb : lb.length = m) (hb : ByS w (.slice B m d) lb) (hbb : Bys lb) :
    Calls Try.prog 4 #[.slice A n c, .slice B m d] w fun e w' => e = .returned (.bool true) ∧ Below w.heap.size w w' := by
  have HA := Lib.hid ha
  have HB := Lib.hid hb
  have HBA := Lib.hid hba
  have HBB := Lib.hid hbb
  have HLA := Lib.hid hla
  have HLB := Lib.hid hlb
  clear ha hb hba hbb hla hlb
  by_cases h1 : n ≤ 60
  · by_cases h2 : m ≤ 60
    · have d1 : decide (60 < (n : Int)) = false := decide_eq_false (by omega)
      have d2 : decide (60 < (m : Int)) = false := decide_eq_false (by omega)
      have x64 := be_w64 HBA.out
      have x8 := be_wl HBA.out
      have y64 := be_w64 HBB.out
      have y8 := be_wl HBB.out
      rw [HLA.out] at x64 x8
      rw [HLB.out] at y64 y8
      have p64 := wl_mul_le (by decide) x64 y64
      have p8 := wl_mul_le (by decide) x8 y8
      have ba : la.length ≤ 1099511627776 := by rw [HLA.out]; omega
      have bb : lb.length ≤ 1099511627776 := by rw [HLB.out]; omega
      obtain ⟨x, hx⟩ : ∃ x, be la = x := ⟨_, rfl⟩
      obtain ⟨y, hy⟩ : ∃ y, be lb = y := ⟨_, rfl⟩
      have HRA := Lib.hid (fun W h => nread_any (.slice A n c) la W h HBA.out ba)
      have HRB := Lib.hid (fun W h => nread_any (.slice B m d) lb W h HBB.out bb)
      have HOA := Lib.hid (fun W h => rof_any (.slice A n c) la W h HBA.out ba)
      have HOB := Lib.hid (fun W h => rof_any (.slice B m d) lb W h HBB.out bb)
      rw [hx] at HRA HOA x64 x8 p64 p8
      rw [hy] at HRB HOB y64 y8 p64 p8
      have HMU := Lib.hid (fun va vb W h1 h2 => nmul_any va vb x y W h1 h2 (by omega) (by omega))
      have HRM := Lib.hid (fun W va vb (h1 : R256 W va x) (h2 : R256 W vb y) => rmul_any h1 h2 (by omega) (by omega))
      have HIS := Lib.hid (fun va vb W h1 h2 => is_yes va vb (x * y) W h1 h2 (by omega) (by omega))
      clear x64 x8 y64 y8 p64 p8 ba bb hx hy
      go_enter Try.func4, Try.ntmps4
      go_wp2_with fail
      refine (HRA.out _ HA.out).mono ?_
      rintro e w1 ⟨v1, rfl, hn1, hb1⟩
      have N1 := Lib.hid hn1
      have B1 := Lib.hid hb1
      clear hn1 hb1
      go_wp2_with fail
      refine (HRB.out _ (HB.out.below B1.out)).mono ?_
      rintro e w2 ⟨v2, rfl, hn2, hb2⟩
      have N2 := Lib.hid hn2
      have N1' := Lib.hid (N1.out.below hb2)
      have B2 := Lib.hid (cbt B1.out hb2)
      clear hn2 hb2
      go_wp2_with fail
      refine (HMU.out _ _ _ N1'.out N2.out).mono ?_
      rintro e w3 ⟨v3, rfl, hn3, hb3⟩
      have N3 := Lib.hid hn3
      have B3 := Lib.hid (cbt B2.out hb3)
      clear hn3 hb3
      go_wp2_with fail
      refine (HOA.out _ (HA.out.below B3.out)).mono ?_
      rintro e w4 ⟨v4, rfl, hn4, hb4⟩
      have N4 := Lib.hid hn4
      have N3' := Lib.hid (N3.out.below hb4)
      have B4 := Lib.hid (cbt B3.out hb4)
      clear hn4 hb4
      go_wp2_with fail
      refine (HOB.out _ (HB.out.below B4.out)).mono ?_
      rintro e w5 ⟨v5, rfl, hn5, hb5⟩
      have N5 := Lib.hid hn5
      have N4' := Lib.hid (N4.out.below hb5)
      have N3'' := Lib.hid (N3'.out.below hb5)
      have B5 := Lib.hid (cbt B4.out hb5)
      clear hn5 hb5
      go_wp2_with fail
      refine (HRM.out _ _ _ N4'.out N5.out).mono ?_
      rintro e w6 ⟨v6, rfl, hn6, hb6⟩
      have N6 := Lib.hid hn6
      have N3w := Lib.hid (N3''.out.below hb6)
      have B6 := Lib.hid (cbt B5.out hb6)
      clear hn6 hb6
      go_wp2_with fail
      refine (HIS.out _ _ _ N3w.out N6.out).mono ?_
      rintro e w7 ⟨rfl, hb7⟩
      have B7 := Lib.hid (cbt B6.out hb7)
      clear hb7
      go_wp2_with fail
      refine (live_any _).mono ?_
      rintro e w8 ⟨rfl, hb8⟩
      have B8 := Lib.hid (cbt B7.out hb8)
      clear hb8
      go_wp2_with fail
      go_ret
      exact ⟨rfl, B8.out⟩
    · have d1 : decide (60 < (n : Int)) = false := decide_eq_false (by omega)
      have d2 : decide (60 < (m : Int)) = true := decide_eq_true (by omega)
      go_enter Try.func4, Try.ntmps4
      go_wp2_with fail
      refine (live_any _).mono ?_
      rintro e w1 ⟨rfl, hb1⟩
      go_wp2_with fail
      go_ret
      exact ⟨rfl, hb1⟩
  · have d1 : decide (60 < (n : Int)) = true := decide_eq_true (by omega)
    go_enter Try.func4, Try.ntmps4
    go_wp2_with fail
    refine (live_any _).mono ?_
    rintro e w1 ⟨rfl, hb1⟩
    go_wp2_with fail
    go_ret
    exact ⟨rfl, hb1⟩
end Go.Proofs.Yteikhnmmkanndaa
