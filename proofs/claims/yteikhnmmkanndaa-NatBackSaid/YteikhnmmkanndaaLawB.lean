/- The walk of the law NatShifts. -/
import Derived.Test.YteikhnmmkanndaaLawA
namespace Go.Proofs.Yteikhnmmkanndaa
open Go.RowKit Go.Proofs.YteikhnmmkanndaaW.PrintWords

theorem wl_shift400 {k x a : Nat} {n : Int} (hk : 0 < k) (hx : wl k x ≤ a) (hn : n ≤ 400) : wl k (x * 2 ^ n.toNat) ≤ a + 401 := by
  refine wl_mul_le hk hx ?_
  rw [wl_le hk]
  refine Nat.pow_lt_pow_right (by decide) ?_
  have : 401 ≤ k * 401 := Nat.le_mul_of_pos_left _ hk
  omega
theorem wl_div_le {k x a m : Nat} (hk : 0 < k) (hx : wl k x ≤ a) : wl k (x / m) ≤ a := Nat.le_trans (wl_mono hk (Nat.div_le_self _ _)) hx

set_option maxRecDepth 100000 in
set_option maxHeartbeats 2000000 in
theorem natShifts_law (A : Option Addr) (n c : Nat) (la : List Int) (k : Int) (w : World) (hla : la.length = n) (ha : ByS w (.slice A n c) la) (hba : Bys la) (hk : (Lit.int .i64 k).wf = true) :
    Calls Try.prog 6 #[.slice A n c, .int .i64 k] w fun e w' => e = .returned (.bool true) ∧ Below w.heap.size w w' := by
  have HA := Lib.hid ha
  have HBA := Lib.hid hba
  have HLA := Lib.hid hla
  clear ha hba hla
  by_cases h1 : n ≤ 40
  · by_cases h2 : k ≤ 400
    · have d1 : decide (40 < (n : Int)) = false := decide_eq_false (by omega)
      have d2 : decide (400 < k) = false := decide_eq_false (by omega)
      have x64 := be_w64 HBA.out
      have x8 := be_wl HBA.out
      rw [HLA.out] at x64 x8
      have ba : la.length ≤ 1099511627776 := by rw [HLA.out]; omega
      obtain ⟨x, hx⟩ : ∃ x, be la = x := ⟨_, rfl⟩
      have HRA := Lib.hid (fun W h => nread_any (.slice A n c) la W h HBA.out ba)
      have HOA := Lib.hid (fun W h => rof_any (.slice A n c) la W h HBA.out ba)
      rw [hx] at HRA HOA x64 x8
      have hk0 : -9223372036854775808 ≤ k := by
        unfold Lit.wf at hk
        rw [Bool.and_eq_true, decide_eq_true_iff, decide_eq_true_iff] at hk
        exact hk.1
      have u64 := wl_shift400 (by decide) x64 h2
      have u8 := wl_shift400 (by decide) x8 h2
      have q64 := wl_div_le (m := 2 ^ k.toNat) (by decide) x64
      have q8 := wl_div_le (m := 2 ^ k.toNat) (by decide) x8
      have HU := Lib.hid (fun v W h => nup_any v x W h (by omega) k (by omega))
      have HD := Lib.hid (fun v W h => ndown_any v x W h (by omega) k (by omega))
      have HRU := Lib.hid (fun W v (h : R256 W v x) => rup_any h k (by omega) hk0 (by omega))
      have HRD := Lib.hid (fun W v (h : R256 W v x) => rdown_any h k (by omega) (by omega))
      have HI1 := Lib.hid (fun va vb W h1 h2 => is_yes va vb (x * 2 ^ k.toNat) W h1 h2 (by omega) (by omega))
      have HI2 := Lib.hid (fun va vb W h1 h2 => is_yes va vb (x / 2 ^ k.toNat) W h1 h2 (by omega) (by omega))
      obtain ⟨xu, hxu⟩ : ∃ xu, x * 2 ^ k.toNat = xu := ⟨_, rfl⟩
      obtain ⟨xd, hxd⟩ : ∃ xd, x / 2 ^ k.toNat = xd := ⟨_, rfl⟩
      rw [hxu] at HU HRU HI1
      rw [hxd] at HD HRD HI2
      clear x64 x8 ba hx u64 u8 q64 q8 hk hk0 hxu hxd
      go_enter Try.func6, Try.ntmps6
      go_wp2_with fail
      refine (HRA.out _ HA.out).mono ?_
      rintro e w1 ⟨v1, rfl, hn1, hb1⟩
      have N1 := Lib.hid hn1
      obtain ⟨A1, c1, rfl, hq1, hq2, hq3⟩ := hn1
      have B1 := Lib.hid hb1
      clear hb1 hq1 hq2 hq3
      go_wp2_with fail
      refine (HOA.out _ (HA.out.below B1.out)).mono ?_
      rintro e w2 ⟨v2, rfl, hn2, hb2⟩
      have N2 := Lib.hid hn2
      have N1' := Lib.hid (N1.out.below hb2)
      have B2 := Lib.hid (cbt B1.out hb2)
      clear hn2 hb2
      have e3 := Blk.new w2 26 #[.slice A1 (wl 64 x) c1]
      have hb3 := cba B2.out (.cells #[.slice A1 (wl 64 x) c1] 26)
      have K3 := Lib.hid e3
      have B3 := Lib.hid hb3
      have N1w := Lib.hid (N1'.out.below (cba (Below.refl _ w2) (.cells #[.slice A1 (wl 64 x) c1] 26)))
      have N2w := Lib.hid (N2.out.below (cba (Below.refl _ w2) (.cells #[.slice A1 (wl 64 x) c1] 26)))
      have k3 : (w2.alloc (.cells #[.slice A1 (wl 64 x) c1] 26)).cell? ⟨w2.heap.size, 0, none⟩ = some (.slice A1 (wl 64 x) c1) := e3.cell 0
      clear e3 hb3
      go_wp2_with fail
      refine (HU.out _ _ N1w.out).mono ?_
      rintro e w4 ⟨v4, rfl, hn4, hb4⟩
      have N4 := Lib.hid hn4
      have B4 := Lib.hid (cbt B3.out hb4)
      have K4 := Lib.hid (blk_below K3.out hb4)
      have N1x := Lib.hid (N1w.out.below hb4)
      have N2x := Lib.hid (N2w.out.below hb4)
      clear hn4 hb4 k3
      go_wp2_with fail
      refine (HRU.out _ _ N2x.out).mono ?_
      rintro e w5 ⟨v5, rfl, hn5, hb5⟩
      have N5 := Lib.hid hn5
      have N4' := Lib.hid (N4.out.below hb5)
      have B5 := Lib.hid (cbt B4.out hb5)
      have K5 := Lib.hid (blk_below K4.out hb5)
      have N1y := Lib.hid (N1x.out.below hb5)
      have N2y := Lib.hid (N2x.out.below hb5)
      clear hn5 hb5
      go_wp2_with fail
      refine (HI1.out _ _ _ N4'.out N5.out).mono ?_
      rintro e w6 ⟨rfl, hb6⟩
      have B6 := Lib.hid (cbt B5.out hb6)
      have k6 : w6.cell? ⟨w2.heap.size, 0, none⟩ = some (.slice A1 (wl 64 x) c1) := (blk_below K5.out hb6).cell 0
      have N1z := Lib.hid (N1y.out.below hb6)
      have N2z := Lib.hid (N2y.out.below hb6)
      clear hb6
      go_wp2_with fail
      refine (HD.out _ _ N1z.out).mono ?_
      rintro e w7 ⟨v7, rfl, hn7, hb7⟩
      have N7 := Lib.hid hn7
      have B7 := Lib.hid (cbt B6.out hb7)
      have N2q := Lib.hid (N2z.out.below hb7)
      clear hn7 hb7 k6
      go_wp2_with fail
      refine (HRD.out _ _ N2q.out).mono ?_
      rintro e w8 ⟨v8, rfl, hn8, hb8⟩
      have N8 := Lib.hid hn8
      have N7' := Lib.hid (N7.out.below hb8)
      have B8 := Lib.hid (cbt B7.out hb8)
      clear hn8 hb8
      go_wp2_with fail
      refine (HI2.out _ _ _ N7'.out N8.out).mono ?_
      rintro e w9 ⟨rfl, hb9⟩
      have B9 := Lib.hid (cbt B8.out hb9)
      clear hb9
      go_wp2_with fail
      refine (live_any _).mono ?_
      rintro e w10 ⟨rfl, hb10⟩
      have B10 := Lib.hid (cbt B9.out hb10)
      clear hb10
      go_wp2_with fail
      go_ret
      exact ⟨rfl, B10.out⟩
    · have d1 : decide (40 < (n : Int)) = false := decide_eq_false (by omega)
      have d2 : decide (400 < k) = true := decide_eq_true (by omega)
      go_enter Try.func6, Try.ntmps6
      go_wp2_with fail
      refine (live_any _).mono ?_
      rintro e w1 ⟨rfl, hb1⟩
      go_wp2_with fail
      go_ret
      exact ⟨rfl, hb1⟩
  · have d1 : decide (40 < (n : Int)) = true := decide_eq_true (by omega)
    go_enter Try.func6, Try.ntmps6
    go_wp2_with fail
    refine (live_any _).mono ?_
    rintro e w1 ⟨rfl, hb1⟩
    go_wp2_with fail
    go_ret
    exact ⟨rfl, hb1⟩
end Go.Proofs.Yteikhnmmkanndaa
