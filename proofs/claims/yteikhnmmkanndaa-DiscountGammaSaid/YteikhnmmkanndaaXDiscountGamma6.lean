/- Laid together by prune.py out of the texts that the row needs: the declarations that its theorem uses. -/
import Derived.Test.YteikhnmmkanndaaXDiscountGamma5
namespace Go.Proofs.Yteikhnmmkanndaa
open Go.RowKit Go.Proofs.YteikhnmmkanndaaW.PrintWords
set_option linter.unusedSimpArgs false
set_option linter.unusedVariables false
def dNum (m1 m2 k mk ml : Nat) : Nat × Nat := if m1 = 0 ∨ mk = 0 then (0, 1) else lessR (k, 1) (mulR (mulR (k + 1, 1) (divR (m1, 1) (m1 + 2 * m2, 1))) (divR (ml, 1) (mk, 1)))
theorem rn_one (x : Nat) : rn x 1 = x := by unfold rn; rw [Nat.gcd_one_right, Nat.div_one]
theorem rd_one (x : Nat) : rd x 1 = 1 := by unfold rd; rw [Nat.gcd_one_right]
theorem red_int (x : Nat) : Red (x, 1) := ⟨Nat.gcd_one_right _, Nat.one_pos⟩
theorem addR_int (a b : Nat) : addR (a, 1) (b, 1) = (a + b, 1) := by
  unfold addR
  simp only [Nat.mul_one]
  rw [rn_one, rd_one]
theorem sz_int {x : Nat} (h : x < 281474976710656) : Sz 6 (x, 1) := ⟨(wl_le (by decide) _ _).2 h, by show wl 8 1 ≤ 6; decide +kernel⟩
theorem byR_pos {a b : Nat × Nat} (h : b.1 ≠ 0) : byR a b = divR a b := if_neg h
set_option maxRecDepth 100000 in
set_option maxHeartbeats 4000000 in
theorem dof_any (T S0 n0 n1 n2 n3 n4 : Int) (m1 m2 m3 m4 : Nat) (h1 : max n1 0 = (m1 : Int)) (h2 : max n2 0 = (m2 : Int)) (h3 : max n3 0 = (m3 : Int)) (h4 : max n4 0 = (m4 : Int)) (b1 : m1 ≤ 1099511627776) (b2 : m2 ≤ 1099511627776) (b3 : m3 ≤ 1099511627776) (b4 : m4 ≤ 1099511627776) (w : World) : Calls Try.prog 80 #[.agg #[.int .i64 T, .int .i64 S0, .int .i64 n0, .int .i64 n1, .int .i64 n2, .int .i64 n3, .int .i64 n4]] w (MkS F64 w (0, 1) (dNum m1 m2 1 m1 m2) (dNum m1 m2 2 m2 m3) (dNum m1 m2 3 m3 m4)) := by
  have HC1 := Lib.hid (fun gc W h => clo1_any gc T S0 n0 n1 n2 n3 n4 m1 h1 (by omega) W h)
  have HC2 := Lib.hid (fun gc W h => clo2_any gc T S0 n0 n1 n2 n3 n4 m2 h2 (by omega) W h)
  have HC3 := Lib.hid (fun gc W h => clo3_any gc T S0 n0 n1 n2 n3 n4 m3 h3 (by omega) W h)
  have HC4 := Lib.hid (fun gc W h => clo4_any gc T S0 n0 n1 n2 n3 n4 m4 h4 (by omega) W h)
  have s1 := sz_int (x := m1) (by omega)
  have s2 := sz_int (x := m2) (by omega)
  have s3 := sz_int (x := m3) (by omega)
  have s4 := sz_int (x := m4) (by omega)
  by_cases hz : m1 = 0
  · have e1 : (dNum m1 m2 1 m1 m2) = (0, 1) := if_pos (.inl hz)
    have e2 : (dNum m1 m2 2 m2 m3) = (0, 1) := if_pos (.inl hz)
    have e3 : (dNum m1 m2 3 m3 m4) = (0, 1) := if_pos (.inl hz)
    rw [e1, e2, e3]
    clear e1 e2 e3
    have HZ := Lib.hid (fun v W h => rzero_yes v m1 1 W h hz)
    clear h1 h2 h3 h4 b1 b2 b3 b4 s1 s2 s3 s4
    have e0 := ((Blk.new (w) 96 #[.int .i64 T, .int .i64 S0, .int .i64 n0, .int .i64 n1, .int .i64 n2, .int .i64 n3, .int .i64 n4]).alloc (.cells #[(.slice none 0 0), (.slice none 0 0), (.slice none 0 0), (.slice none 0 0), (.slice none 0 0), (.slice none 0 0), (.slice none 0 0), (.slice none 0 0)] 99)).alloc (.cells #[(.slice none 0 0), (.slice none 0 0), (.slice none 0 0), (.slice none 0 0), (.slice none 0 0), (.slice none 0 0), (.slice none 0 0), (.slice none 0 0)] 99)
    have e1 := (Blk.new ((w).alloc (.cells #[.int .i64 T, .int .i64 S0, .int .i64 n0, .int .i64 n1, .int .i64 n2, .int .i64 n3, .int .i64 n4] 96)) 99 #[(.slice none 0 0), (.slice none 0 0), (.slice none 0 0), (.slice none 0 0), (.slice none 0 0), (.slice none 0 0), (.slice none 0 0), (.slice none 0 0)]).alloc (.cells #[(.slice none 0 0), (.slice none 0 0), (.slice none 0 0), (.slice none 0 0), (.slice none 0 0), (.slice none 0 0), (.slice none 0 0), (.slice none 0 0)] 99)
    have e2 := Blk.new (((w).alloc (.cells #[.int .i64 T, .int .i64 S0, .int .i64 n0, .int .i64 n1, .int .i64 n2, .int .i64 n3, .int .i64 n4] 96)).alloc (.cells #[(.slice none 0 0), (.slice none 0 0), (.slice none 0 0), (.slice none 0 0), (.slice none 0 0), (.slice none 0 0), (.slice none 0 0), (.slice none 0 0)] 99)) 99 #[(.slice none 0 0), (.slice none 0 0), (.slice none 0 0), (.slice none 0 0), (.slice none 0 0), (.slice none 0 0), (.slice none 0 0), (.slice none 0 0)]
    have hb := cba (cba (cba (Below.refl _ w) (.cells #[.int .i64 T, .int .i64 S0, .int .i64 n0, .int .i64 n1, .int .i64 n2, .int .i64 n3, .int .i64 n4] 96)) (.cells #[(.slice none 0 0), (.slice none 0 0), (.slice none 0 0), (.slice none 0 0), (.slice none 0 0), (.slice none 0 0), (.slice none 0 0), (.slice none 0 0)] 99)) (.cells #[(.slice none 0 0), (.slice none 0 0), (.slice none 0 0), (.slice none 0 0), (.slice none 0 0), (.slice none 0 0), (.slice none 0 0), (.slice none 0 0)] 99)
    simp only [World.size_alloc] at e1 e2
    have hsz : w.heap.size ≤ w.heap.size := Nat.le_refl _
    go_enter Try.func80, Try.ntmps80
    go_upto_region 2 with (fail)
    obtain ⟨S, hS⟩ : ∃ S, (((w).alloc (.cells #[.int .i64 T, .int .i64 S0, .int .i64 n0, .int .i64 n1, .int .i64 n2, .int .i64 n3, .int .i64 n4] 96)).alloc (.cells #[(.slice none 0 0), (.slice none 0 0), (.slice none 0 0), (.slice none 0 0), (.slice none 0 0), (.slice none 0 0), (.slice none 0 0), (.slice none 0 0)] 99)).alloc (.cells #[(.slice none 0 0), (.slice none 0 0), (.slice none 0 0), (.slice none 0 0), (.slice none 0 0), (.slice none 0 0), (.slice none 0 0), (.slice none 0 0)] 99) = S := ⟨_, rfl⟩
    rw [hS] at e0 e1 e2 hb ⊢
    have HB0 := Lib.hid hb
    have E0 := Lib.hid e0
    have E1 := Lib.hid e1
    have E2 := Lib.hid e2
    clear hS hb hsz e0 e1 e2
    have k_E0_0 := E0.out.cell 0
    have k_E0_1 := E0.out.cell 1
    have k_E0_2 := E0.out.cell 2
    have k_E0_3 := E0.out.cell 3
    have k_E0_4 := E0.out.cell 4
    have k_E0_5 := E0.out.cell 5
    have k_E0_6 := E0.out.cell 6
    have k_E1_0 := E1.out.cell 0
    have k_E1_1 := E1.out.cell 1
    have k_E1_2 := E1.out.cell 2
    have k_E1_3 := E1.out.cell 3
    have k_E1_4 := E1.out.cell 4
    have k_E1_5 := E1.out.cell 5
    have k_E1_6 := E1.out.cell 6
    have k_E1_7 := E1.out.cell 7
    have k_E2_0 := E2.out.cell 0
    have k_E2_1 := E2.out.cell 1
    have k_E2_2 := E2.out.cell 2
    have k_E2_3 := E2.out.cell 3
    have k_E2_4 := E2.out.cell 4
    have k_E2_5 := E2.out.cell 5
    have k_E2_6 := E2.out.cell 6
    have k_E2_7 := E2.out.cell 7
    go_wp2_with fail
    with_reducible refine (HC1.out _ _ E0.out).mono ?_
    rintro e w1 ⟨u, rfl, hu, hb⟩
    clear k_E0_0 k_E0_1 k_E0_2 k_E0_3 k_E0_4 k_E0_5 k_E0_6 k_E1_0 k_E1_1 k_E1_2 k_E1_3 k_E1_4 k_E1_5 k_E1_6 k_E1_7 k_E2_0 k_E2_1 k_E2_2 k_E2_3 k_E2_4 k_E2_5 k_E2_6 k_E2_7
    replace E0 := Lib.hid (blk_below E0.out hb)
    replace E1 := Lib.hid (blk_below E1.out hb)
    replace E2 := Lib.hid (blk_below E2.out hb)
    replace HB0 := Lib.hid (cbt HB0.out hb)
    have NA := Lib.hid hu
    clear hb hu
    have k_E0_0 := E0.out.cell 0
    have k_E0_1 := E0.out.cell 1
    have k_E0_2 := E0.out.cell 2
    have k_E0_3 := E0.out.cell 3
    have k_E0_4 := E0.out.cell 4
    have k_E0_5 := E0.out.cell 5
    have k_E0_6 := E0.out.cell 6
    have k_E1_0 := E1.out.cell 0
    have k_E1_1 := E1.out.cell 1
    have k_E1_2 := E1.out.cell 2
    have k_E1_3 := E1.out.cell 3
    have k_E1_4 := E1.out.cell 4
    have k_E1_5 := E1.out.cell 5
    have k_E1_6 := E1.out.cell 6
    have k_E1_7 := E1.out.cell 7
    have k_E2_0 := E2.out.cell 0
    have k_E2_1 := E2.out.cell 1
    have k_E2_2 := E2.out.cell 2
    have k_E2_3 := E2.out.cell 3
    have k_E2_4 := E2.out.cell 4
    have k_E2_5 := E2.out.cell 5
    have k_E2_6 := E2.out.cell 6
    have k_E2_7 := E2.out.cell 7
    go_wp2_with fail
    with_reducible refine (HZ.out _ _ NA.out).mono ?_
    rintro e w1 ⟨rfl, hb⟩
    clear k_E0_0 k_E0_1 k_E0_2 k_E0_3 k_E0_4 k_E0_5 k_E0_6 k_E1_0 k_E1_1 k_E1_2 k_E1_3 k_E1_4 k_E1_5 k_E1_6 k_E1_7 k_E2_0 k_E2_1 k_E2_2 k_E2_3 k_E2_4 k_E2_5 k_E2_6 k_E2_7
    replace NA := Lib.hid (NA.out.below hb)
    replace E0 := Lib.hid (blk_below E0.out hb)
    replace E1 := Lib.hid (blk_below E1.out hb)
    replace E2 := Lib.hid (blk_below E2.out hb)
    replace HB0 := Lib.hid (cbt HB0.out hb)
    clear hb
    have k_E0_0 := E0.out.cell 0
    have k_E0_1 := E0.out.cell 1
    have k_E0_2 := E0.out.cell 2
    have k_E0_3 := E0.out.cell 3
    have k_E0_4 := E0.out.cell 4
    have k_E0_5 := E0.out.cell 5
    have k_E0_6 := E0.out.cell 6
    have k_E1_0 := E1.out.cell 0
    have k_E1_1 := E1.out.cell 1
    have k_E1_2 := E1.out.cell 2
    have k_E1_3 := E1.out.cell 3
    have k_E1_4 := E1.out.cell 4
    have k_E1_5 := E1.out.cell 5
    have k_E1_6 := E1.out.cell 6
    have k_E1_7 := E1.out.cell 7
    have k_E2_0 := E2.out.cell 0
    have k_E2_1 := E2.out.cell 1
    have k_E2_2 := E2.out.cell 2
    have k_E2_3 := E2.out.cell 3
    have k_E2_4 := E2.out.cell 4
    have k_E2_5 := E2.out.cell 5
    have k_E2_6 := E2.out.cell 6
    have k_E2_7 := E2.out.cell 7
    have f0 := E1.out.frozen 0
    have f1 := E1.out.frozen 1
    have f2 := E1.out.frozen 2
    have f3 := E1.out.frozen 3
    have f4 := E1.out.frozen 4
    have f5 := E1.out.frozen 5
    have f6 := E1.out.frozen 6
    have f7 := E1.out.frozen 7
    have HX := Lib.hid (retS (P := F64) (a0 := (0, 1)) (a1 := (0, 1)) (a2 := (0, 1)) (a3 := (0, 1)) keepF E1.out rfl (by omega) HB0.out (show F64 w1 (.agg #[.slice none 0 0, .slice none 0 0]) 0 1 from F64.none) (show F64 w1 (.agg #[.slice none 0 0, .slice none 0 0]) 0 1 from F64.none) (show F64 w1 (.agg #[.slice none 0 0, .slice none 0 0]) 0 1 from F64.none) (show F64 w1 (.agg #[.slice none 0 0, .slice none 0 0]) 0 1 from F64.none))
    clear k_E0_0 k_E0_1 k_E0_2 k_E0_3 k_E0_4 k_E0_5 k_E0_6
    go_wp2_with fail
    exact bodyPost_ret (v := .agg #[.slice none 0 0, .slice none 0 0, .slice none 0 0, .slice none 0 0, .slice none 0 0, .slice none 0 0, .slice none 0 0, .slice none 0 0]) (by simp [results, Try.results80, go_sem, k_E1_0, k_E1_1, k_E1_2, k_E1_3, k_E1_4, k_E1_5, k_E1_6, k_E1_7]) rfl HX.out
  · have hp1 : 0 < m1 := Nat.pos_of_ne_zero hz
    have HZ := Lib.hid (fun v W h => rzero_no v m1 1 W h hp1)
    have s1' := s1.mono (C := 80) (by decide)
    have s2' := s2.mono (C := 80) (by decide)
    have HRW := Lib.hid (fun v W h => c_add3 (v := v) (W := W) (B := 80) (by decide) (red_int m1) (red_int m2) (red_int m2) s1' s2' s2' h)
    rw [addR_int, addR_int, show m1 + m2 + m2 = m1 + 2 * m2 by omega] at HRW
    have sy0 := sz_int (x := m1 + 2 * m2) (by omega)
    have HBY := Lib.hid (fun va vb W h1 h2 => by_any (a := (m1, 1)) (b := (m1 + 2 * m2, 1)) (va := va) (vb := vb) (w := W) (B := 80) (by decide) s1' (sy0.mono (by decide)) h1 h2)
    have hby : byR (m1, 1) (m1 + 2 * m2, 1) = divR (m1, 1) (m1 + 2 * m2, 1) := byR_pos (by show m1 + 2 * m2 ≠ 0; omega)
    rw [hby] at HBY
    have sy := s1.div sy0
    have hd1 : m1 = 0 ∧ (dNum m1 m2 1 m1 m2) = (0, 1) ∨ m1 ≠ 0 ∧ (dNum m1 m2 1 m1 m2) = lessR (1, 1) (mulR (mulR (2, 1) (divR (m1, 1) (m1 + 2 * m2, 1))) (divR (m2, 1) (m1, 1))) := by
      unfold dNum
      by_cases h : m1 = 0
      · exact .inl ⟨h, if_pos (.inr h)⟩
      · exact .inr ⟨h, if_neg (by omega)⟩
    have hd2 : m2 = 0 ∧ (dNum m1 m2 2 m2 m3) = (0, 1) ∨ m2 ≠ 0 ∧ (dNum m1 m2 2 m2 m3) = lessR (2, 1) (mulR (mulR (3, 1) (divR (m1, 1) (m1 + 2 * m2, 1))) (divR (m3, 1) (m2, 1))) := by
      unfold dNum
      by_cases h : m2 = 0
      · exact .inl ⟨h, if_pos (.inr h)⟩
      · exact .inr ⟨h, if_neg (by omega)⟩
    have hd3 : m3 = 0 ∧ (dNum m1 m2 3 m3 m4) = (0, 1) ∨ m3 ≠ 0 ∧ (dNum m1 m2 3 m3 m4) = lessR (3, 1) (mulR (mulR (4, 1) (divR (m1, 1) (m1 + 2 * m2, 1))) (divR (m4, 1) (m3, 1))) := by
      unfold dNum
      by_cases h : m3 = 0
      · exact .inl ⟨h, if_pos (.inr h)⟩
      · exact .inr ⟨h, if_neg (by omega)⟩
    generalize (dNum m1 m2 1 m1 m2) = d1 at *
    generalize (dNum m1 m2 2 m2 m3) = d2 at *
    generalize (dNum m1 m2 3 m3 m4) = d3 at *
    generalize divR (m1, 1) (m1 + 2 * m2, 1) = y at *
    clear hby s1' s2' sy0 hp1 h1 h2 h3 h4 b1 b2 b3 b4
    have HD1 := Lib.hid hd1
    have HD2 := Lib.hid hd2
    have HD3 := Lib.hid hd3
    have HSY := Lib.hid sy
    have HS1 := Lib.hid s1
    have HS2 := Lib.hid s2
    have HS3 := Lib.hid s3
    have HS4 := Lib.hid s4
    clear hd1 hd2 hd3 sy s1 s2 s3 s4 hz
    have e0 := ((Blk.new (w) 96 #[.int .i64 T, .int .i64 S0, .int .i64 n0, .int .i64 n1, .int .i64 n2, .int .i64 n3, .int .i64 n4]).alloc (.cells #[(.slice none 0 0), (.slice none 0 0), (.slice none 0 0), (.slice none 0 0), (.slice none 0 0), (.slice none 0 0), (.slice none 0 0), (.slice none 0 0)] 99)).alloc (.cells #[(.slice none 0 0), (.slice none 0 0), (.slice none 0 0), (.slice none 0 0), (.slice none 0 0), (.slice none 0 0), (.slice none 0 0), (.slice none 0 0)] 99)
    have e1 := (Blk.new ((w).alloc (.cells #[.int .i64 T, .int .i64 S0, .int .i64 n0, .int .i64 n1, .int .i64 n2, .int .i64 n3, .int .i64 n4] 96)) 99 #[(.slice none 0 0), (.slice none 0 0), (.slice none 0 0), (.slice none 0 0), (.slice none 0 0), (.slice none 0 0), (.slice none 0 0), (.slice none 0 0)]).alloc (.cells #[(.slice none 0 0), (.slice none 0 0), (.slice none 0 0), (.slice none 0 0), (.slice none 0 0), (.slice none 0 0), (.slice none 0 0), (.slice none 0 0)] 99)
    have e2 := Blk.new (((w).alloc (.cells #[.int .i64 T, .int .i64 S0, .int .i64 n0, .int .i64 n1, .int .i64 n2, .int .i64 n3, .int .i64 n4] 96)).alloc (.cells #[(.slice none 0 0), (.slice none 0 0), (.slice none 0 0), (.slice none 0 0), (.slice none 0 0), (.slice none 0 0), (.slice none 0 0), (.slice none 0 0)] 99)) 99 #[(.slice none 0 0), (.slice none 0 0), (.slice none 0 0), (.slice none 0 0), (.slice none 0 0), (.slice none 0 0), (.slice none 0 0), (.slice none 0 0)]
    have hb := cba (cba (cba (Below.refl _ w) (.cells #[.int .i64 T, .int .i64 S0, .int .i64 n0, .int .i64 n1, .int .i64 n2, .int .i64 n3, .int .i64 n4] 96)) (.cells #[(.slice none 0 0), (.slice none 0 0), (.slice none 0 0), (.slice none 0 0), (.slice none 0 0), (.slice none 0 0), (.slice none 0 0), (.slice none 0 0)] 99)) (.cells #[(.slice none 0 0), (.slice none 0 0), (.slice none 0 0), (.slice none 0 0), (.slice none 0 0), (.slice none 0 0), (.slice none 0 0), (.slice none 0 0)] 99)
    simp only [World.size_alloc] at e1 e2
    have hsz : w.heap.size ≤ w.heap.size := Nat.le_refl _
    go_enter Try.func80, Try.ntmps80
    go_upto_region 2 with (fail)
    obtain ⟨S, hS⟩ : ∃ S, (((w).alloc (.cells #[.int .i64 T, .int .i64 S0, .int .i64 n0, .int .i64 n1, .int .i64 n2, .int .i64 n3, .int .i64 n4] 96)).alloc (.cells #[(.slice none 0 0), (.slice none 0 0), (.slice none 0 0), (.slice none 0 0), (.slice none 0 0), (.slice none 0 0), (.slice none 0 0), (.slice none 0 0)] 99)).alloc (.cells #[(.slice none 0 0), (.slice none 0 0), (.slice none 0 0), (.slice none 0 0), (.slice none 0 0), (.slice none 0 0), (.slice none 0 0), (.slice none 0 0)] 99) = S := ⟨_, rfl⟩
    rw [hS] at e0 e1 e2 hb ⊢
    have HB0 := Lib.hid hb
    have E0 := Lib.hid e0
    have E1 := Lib.hid e1
    have E2 := Lib.hid e2
    clear hS hb hsz e0 e1 e2
    have k_E0_0 := E0.out.cell 0
    have k_E0_1 := E0.out.cell 1
    have k_E0_2 := E0.out.cell 2
    have k_E0_3 := E0.out.cell 3
    have k_E0_4 := E0.out.cell 4
    have k_E0_5 := E0.out.cell 5
    have k_E0_6 := E0.out.cell 6
    have k_E1_0 := E1.out.cell 0
    have k_E1_1 := E1.out.cell 1
    have k_E1_2 := E1.out.cell 2
    have k_E1_3 := E1.out.cell 3
    have k_E1_4 := E1.out.cell 4
    have k_E1_5 := E1.out.cell 5
    have k_E1_6 := E1.out.cell 6
    have k_E1_7 := E1.out.cell 7
    have k_E2_0 := E2.out.cell 0
    have k_E2_1 := E2.out.cell 1
    have k_E2_2 := E2.out.cell 2
    have k_E2_3 := E2.out.cell 3
    have k_E2_4 := E2.out.cell 4
    have k_E2_5 := E2.out.cell 5
    have k_E2_6 := E2.out.cell 6
    have k_E2_7 := E2.out.cell 7
    go_wp2_with fail
    with_reducible refine (HC1.out _ _ E0.out).mono ?_
    rintro e w1 ⟨u, rfl, hu, hb⟩
    clear k_E0_0 k_E0_1 k_E0_2 k_E0_3 k_E0_4 k_E0_5 k_E0_6 k_E1_0 k_E1_1 k_E1_2 k_E1_3 k_E1_4 k_E1_5 k_E1_6 k_E1_7 k_E2_0 k_E2_1 k_E2_2 k_E2_3 k_E2_4 k_E2_5 k_E2_6 k_E2_7
    replace E0 := Lib.hid (blk_below E0.out hb)
    replace E1 := Lib.hid (blk_below E1.out hb)
    replace E2 := Lib.hid (blk_below E2.out hb)
    replace HB0 := Lib.hid (cbt HB0.out hb)
    have NA := Lib.hid hu
    clear hb hu
    have k_E0_0 := E0.out.cell 0
    have k_E0_1 := E0.out.cell 1
    have k_E0_2 := E0.out.cell 2
    have k_E0_3 := E0.out.cell 3
    have k_E0_4 := E0.out.cell 4
    have k_E0_5 := E0.out.cell 5
    have k_E0_6 := E0.out.cell 6
    have k_E1_0 := E1.out.cell 0
    have k_E1_1 := E1.out.cell 1
    have k_E1_2 := E1.out.cell 2
    have k_E1_3 := E1.out.cell 3
    have k_E1_4 := E1.out.cell 4
    have k_E1_5 := E1.out.cell 5
    have k_E1_6 := E1.out.cell 6
    have k_E1_7 := E1.out.cell 7
    have k_E2_0 := E2.out.cell 0
    have k_E2_1 := E2.out.cell 1
    have k_E2_2 := E2.out.cell 2
    have k_E2_3 := E2.out.cell 3
    have k_E2_4 := E2.out.cell 4
    have k_E2_5 := E2.out.cell 5
    have k_E2_6 := E2.out.cell 6
    have k_E2_7 := E2.out.cell 7
    go_wp2_with fail
    with_reducible refine (HZ.out _ _ NA.out).mono ?_
    rintro e w1 ⟨rfl, hb⟩
    clear k_E0_0 k_E0_1 k_E0_2 k_E0_3 k_E0_4 k_E0_5 k_E0_6 k_E1_0 k_E1_1 k_E1_2 k_E1_3 k_E1_4 k_E1_5 k_E1_6 k_E1_7 k_E2_0 k_E2_1 k_E2_2 k_E2_3 k_E2_4 k_E2_5 k_E2_6 k_E2_7
    replace NA := Lib.hid (NA.out.below hb)
    replace E0 := Lib.hid (blk_below E0.out hb)
    replace E1 := Lib.hid (blk_below E1.out hb)
    replace E2 := Lib.hid (blk_below E2.out hb)
    replace HB0 := Lib.hid (cbt HB0.out hb)
    clear hb
    have k_E0_0 := E0.out.cell 0
    have k_E0_1 := E0.out.cell 1
    have k_E0_2 := E0.out.cell 2
    have k_E0_3 := E0.out.cell 3
    have k_E0_4 := E0.out.cell 4
    have k_E0_5 := E0.out.cell 5
    have k_E0_6 := E0.out.cell 6
    have k_E1_0 := E1.out.cell 0
    have k_E1_1 := E1.out.cell 1
    have k_E1_2 := E1.out.cell 2
    have k_E1_3 := E1.out.cell 3
    have k_E1_4 := E1.out.cell 4
    have k_E1_5 := E1.out.cell 5
    have k_E1_6 := E1.out.cell 6
    have k_E1_7 := E1.out.cell 7
    have k_E2_0 := E2.out.cell 0
    have k_E2_1 := E2.out.cell 1
    have k_E2_2 := E2.out.cell 2
    have k_E2_3 := E2.out.cell 3
    have k_E2_4 := E2.out.cell 4
    have k_E2_5 := E2.out.cell 5
    have k_E2_6 := E2.out.cell 6
    have k_E2_7 := E2.out.cell 7
    go_wp2_with fail
    with_reducible refine (HC1.out _ _ E0.out).mono ?_
    rintro e w1 ⟨u, rfl, hu, hb⟩
    clear k_E0_0 k_E0_1 k_E0_2 k_E0_3 k_E0_4 k_E0_5 k_E0_6 k_E1_0 k_E1_1 k_E1_2 k_E1_3 k_E1_4 k_E1_5 k_E1_6 k_E1_7 k_E2_0 k_E2_1 k_E2_2 k_E2_3 k_E2_4 k_E2_5 k_E2_6 k_E2_7
    replace E0 := Lib.hid (blk_below E0.out hb)
    replace E1 := Lib.hid (blk_below E1.out hb)
    replace E2 := Lib.hid (blk_below E2.out hb)
    replace HB0 := Lib.hid (cbt HB0.out hb)
    have N1 := Lib.hid hu
    clear hb hu
    have k_E0_0 := E0.out.cell 0
    have k_E0_1 := E0.out.cell 1
    have k_E0_2 := E0.out.cell 2
    have k_E0_3 := E0.out.cell 3
    have k_E0_4 := E0.out.cell 4
    have k_E0_5 := E0.out.cell 5
    have k_E0_6 := E0.out.cell 6
    have k_E1_0 := E1.out.cell 0
    have k_E1_1 := E1.out.cell 1
    have k_E1_2 := E1.out.cell 2
    have k_E1_3 := E1.out.cell 3
    have k_E1_4 := E1.out.cell 4
    have k_E1_5 := E1.out.cell 5
    have k_E1_6 := E1.out.cell 6
    have k_E1_7 := E1.out.cell 7
    have k_E2_0 := E2.out.cell 0
    have k_E2_1 := E2.out.cell 1
    have k_E2_2 := E2.out.cell 2
    have k_E2_3 := E2.out.cell 3
    have k_E2_4 := E2.out.cell 4
    have k_E2_5 := E2.out.cell 5
    have k_E2_6 := E2.out.cell 6
    have k_E2_7 := E2.out.cell 7
    go_wp2_with fail
    with_reducible refine (HC1.out _ _ E0.out).mono ?_
    rintro e w1 ⟨u, rfl, hu, hb⟩
    clear k_E0_0 k_E0_1 k_E0_2 k_E0_3 k_E0_4 k_E0_5 k_E0_6 k_E1_0 k_E1_1 k_E1_2 k_E1_3 k_E1_4 k_E1_5 k_E1_6 k_E1_7 k_E2_0 k_E2_1 k_E2_2 k_E2_3 k_E2_4 k_E2_5 k_E2_6 k_E2_7
    replace N1 := Lib.hid (N1.out.below hb)
    replace E0 := Lib.hid (blk_below E0.out hb)
    replace E1 := Lib.hid (blk_below E1.out hb)
    replace E2 := Lib.hid (blk_below E2.out hb)
    replace HB0 := Lib.hid (cbt HB0.out hb)
    have NX := Lib.hid hu
    clear hb hu
    have k_E0_0 := E0.out.cell 0
    have k_E0_1 := E0.out.cell 1
    have k_E0_2 := E0.out.cell 2
    have k_E0_3 := E0.out.cell 3
    have k_E0_4 := E0.out.cell 4
    have k_E0_5 := E0.out.cell 5
    have k_E0_6 := E0.out.cell 6
    have k_E1_0 := E1.out.cell 0
    have k_E1_1 := E1.out.cell 1
    have k_E1_2 := E1.out.cell 2
    have k_E1_3 := E1.out.cell 3
    have k_E1_4 := E1.out.cell 4
    have k_E1_5 := E1.out.cell 5
    have k_E1_6 := E1.out.cell 6
    have k_E1_7 := E1.out.cell 7
    have k_E2_0 := E2.out.cell 0
    have k_E2_1 := E2.out.cell 1
    have k_E2_2 := E2.out.cell 2
    have k_E2_3 := E2.out.cell 3
    have k_E2_4 := E2.out.cell 4
    have k_E2_5 := E2.out.cell 5
    have k_E2_6 := E2.out.cell 6
    have k_E2_7 := E2.out.cell 7
    go_wp2_with fail
    with_reducible refine (HC2.out _ _ E0.out).mono ?_
    rintro e w1 ⟨u, rfl, hu, hb⟩
    clear k_E0_0 k_E0_1 k_E0_2 k_E0_3 k_E0_4 k_E0_5 k_E0_6 k_E1_0 k_E1_1 k_E1_2 k_E1_3 k_E1_4 k_E1_5 k_E1_6 k_E1_7 k_E2_0 k_E2_1 k_E2_2 k_E2_3 k_E2_4 k_E2_5 k_E2_6 k_E2_7
    replace N1 := Lib.hid (N1.out.below hb)
    replace NX := Lib.hid (NX.out.below hb)
    replace E0 := Lib.hid (blk_below E0.out hb)
    replace E1 := Lib.hid (blk_below E1.out hb)
    replace E2 := Lib.hid (blk_below E2.out hb)
    replace HB0 := Lib.hid (cbt HB0.out hb)
    have NY := Lib.hid hu
    clear hb hu
    have k_E0_0 := E0.out.cell 0
    have k_E0_1 := E0.out.cell 1
    have k_E0_2 := E0.out.cell 2
    have k_E0_3 := E0.out.cell 3
    have k_E0_4 := E0.out.cell 4
    have k_E0_5 := E0.out.cell 5
    have k_E0_6 := E0.out.cell 6
    have k_E1_0 := E1.out.cell 0
    have k_E1_1 := E1.out.cell 1
    have k_E1_2 := E1.out.cell 2
    have k_E1_3 := E1.out.cell 3
    have k_E1_4 := E1.out.cell 4
    have k_E1_5 := E1.out.cell 5
    have k_E1_6 := E1.out.cell 6
    have k_E1_7 := E1.out.cell 7
    have k_E2_0 := E2.out.cell 0
    have k_E2_1 := E2.out.cell 1
    have k_E2_2 := E2.out.cell 2
    have k_E2_3 := E2.out.cell 3
    have k_E2_4 := E2.out.cell 4
    have k_E2_5 := E2.out.cell 5
    have k_E2_6 := E2.out.cell 6
    have k_E2_7 := E2.out.cell 7
    go_wp2_with fail
    with_reducible refine (HC2.out _ _ E0.out).mono ?_
    rintro e w1 ⟨u, rfl, hu, hb⟩
    clear k_E0_0 k_E0_1 k_E0_2 k_E0_3 k_E0_4 k_E0_5 k_E0_6 k_E1_0 k_E1_1 k_E1_2 k_E1_3 k_E1_4 k_E1_5 k_E1_6 k_E1_7 k_E2_0 k_E2_1 k_E2_2 k_E2_3 k_E2_4 k_E2_5 k_E2_6 k_E2_7
    replace N1 := Lib.hid (N1.out.below hb)
    replace NX := Lib.hid (NX.out.below hb)
    replace NY := Lib.hid (NY.out.below hb)
    replace E0 := Lib.hid (blk_below E0.out hb)
    replace E1 := Lib.hid (blk_below E1.out hb)
    replace E2 := Lib.hid (blk_below E2.out hb)
    replace HB0 := Lib.hid (cbt HB0.out hb)
    have NZ := Lib.hid hu
    clear hb hu
    have k_E0_0 := E0.out.cell 0
    have k_E0_1 := E0.out.cell 1
    have k_E0_2 := E0.out.cell 2
    have k_E0_3 := E0.out.cell 3
    have k_E0_4 := E0.out.cell 4
    have k_E0_5 := E0.out.cell 5
    have k_E0_6 := E0.out.cell 6
    have k_E1_0 := E1.out.cell 0
    have k_E1_1 := E1.out.cell 1
    have k_E1_2 := E1.out.cell 2
    have k_E1_3 := E1.out.cell 3
    have k_E1_4 := E1.out.cell 4
    have k_E1_5 := E1.out.cell 5
    have k_E1_6 := E1.out.cell 6
    have k_E1_7 := E1.out.cell 7
    have k_E2_0 := E2.out.cell 0
    have k_E2_1 := E2.out.cell 1
    have k_E2_2 := E2.out.cell 2
    have k_E2_3 := E2.out.cell 3
    have k_E2_4 := E2.out.cell 4
    have k_E2_5 := E2.out.cell 5
    have k_E2_6 := E2.out.cell 6
    have k_E2_7 := E2.out.cell 7
    have Z0 := NX.out
    obtain ⟨AX0, pX0, cX0, BX0, qX0, eX0, xX0, rfl, _, _, _⟩ := Z0
    have Z1 := NY.out
    obtain ⟨AX1, pX1, cX1, BX1, qX1, eX1, xX1, rfl, _, _, _⟩ := Z1
    have Z2 := NZ.out
    obtain ⟨AX2, pX2, cX2, BX2, qX2, eX2, xX2, rfl, _, _, _⟩ := Z2
    have HROW := Lib.hid (RowF.three (Blk.new w1 47 #[.slice AX0 pX0 cX0, .slice BX0 qX0 eX0, .slice AX1 pX1 cX1, .slice BX1 qX1 eX1, .slice AX2 pX2 cX2, .slice BX2 qX2 eX2]) (NX.out.below (cba (Below.refl _ w1) (.cells #[.slice AX0 pX0 cX0, .slice BX0 qX0 eX0, .slice AX1 pX1 cX1, .slice BX1 qX1 eX1, .slice AX2 pX2 cX2, .slice BX2 qX2 eX2] 47))) (NY.out.below (cba (Below.refl _ w1) (.cells #[.slice AX0 pX0 cX0, .slice BX0 qX0 eX0, .slice AX1 pX1 cX1, .slice BX1 qX1 eX1, .slice AX2 pX2 cX2, .slice BX2 qX2 eX2] 47))) (NZ.out.below (cba (Below.refl _ w1) (.cells #[.slice AX0 pX0 cX0, .slice BX0 qX0 eX0, .slice AX1 pX1 cX1, .slice BX1 qX1 eX1, .slice AX2 pX2 cX2, .slice BX2 qX2 eX2] 47))))
    go_wp2_with fail
    with_reducible refine (HRW.out _ _ HROW.out).mono ?_
    rintro e w4 ⟨u9, rfl, hu, hb'⟩
    have hb := cbt (cba (Below.refl _ w1) (.cells #[.slice AX0 pX0 cX0, .slice BX0 qX0 eX0, .slice AX1 pX1 cX1, .slice BX1 qX1 eX1, .slice AX2 pX2 cX2, .slice BX2 qX2 eX2] 47)) hb'
    clear hb' HROW
    clear k_E0_0 k_E0_1 k_E0_2 k_E0_3 k_E0_4 k_E0_5 k_E0_6 k_E1_0 k_E1_1 k_E1_2 k_E1_3 k_E1_4 k_E1_5 k_E1_6 k_E1_7 k_E2_0 k_E2_1 k_E2_2 k_E2_3 k_E2_4 k_E2_5 k_E2_6 k_E2_7
    replace N1 := Lib.hid (N1.out.below hb)
    replace E0 := Lib.hid (blk_below E0.out hb)
    replace E1 := Lib.hid (blk_below E1.out hb)
    replace E2 := Lib.hid (blk_below E2.out hb)
    replace HB0 := Lib.hid (cbt HB0.out hb)
    have NS := Lib.hid hu
    clear hb hu
    have k_E0_0 := E0.out.cell 0
    have k_E0_1 := E0.out.cell 1
    have k_E0_2 := E0.out.cell 2
    have k_E0_3 := E0.out.cell 3
    have k_E0_4 := E0.out.cell 4
    have k_E0_5 := E0.out.cell 5
    have k_E0_6 := E0.out.cell 6
    have k_E1_0 := E1.out.cell 0
    have k_E1_1 := E1.out.cell 1
    have k_E1_2 := E1.out.cell 2
    have k_E1_3 := E1.out.cell 3
    have k_E1_4 := E1.out.cell 4
    have k_E1_5 := E1.out.cell 5
    have k_E1_6 := E1.out.cell 6
    have k_E1_7 := E1.out.cell 7
    have k_E2_0 := E2.out.cell 0
    have k_E2_1 := E2.out.cell 1
    have k_E2_2 := E2.out.cell 2
    have k_E2_3 := E2.out.cell 3
    have k_E2_4 := E2.out.cell 4
    have k_E2_5 := E2.out.cell 5
    have k_E2_6 := E2.out.cell 6
    have k_E2_7 := E2.out.cell 7
    go_wp2_with fail
    with_reducible refine (HBY.out _ _ _ N1.out NS.out).mono ?_
    rintro e w5 ⟨u, rfl, hu, hb⟩
    clear k_E0_0 k_E0_1 k_E0_2 k_E0_3 k_E0_4 k_E0_5 k_E0_6 k_E1_0 k_E1_1 k_E1_2 k_E1_3 k_E1_4 k_E1_5 k_E1_6 k_E1_7 k_E2_0 k_E2_1 k_E2_2 k_E2_3 k_E2_4 k_E2_5 k_E2_6 k_E2_7
    replace N1 := Lib.hid (N1.out.below hb)
    replace NS := Lib.hid (NS.out.below hb)
    replace E0 := Lib.hid (blk_below E0.out hb)
    replace E1 := Lib.hid (blk_below E1.out hb)
    replace E2 := Lib.hid (blk_below E2.out hb)
    replace HB0 := Lib.hid (cbt HB0.out hb)
    have NQ := Lib.hid hu
    clear hb hu
    have k_E0_0 := E0.out.cell 0
    have k_E0_1 := E0.out.cell 1
    have k_E0_2 := E0.out.cell 2
    have k_E0_3 := E0.out.cell 3
    have k_E0_4 := E0.out.cell 4
    have k_E0_5 := E0.out.cell 5
    have k_E0_6 := E0.out.cell 6
    have k_E1_0 := E1.out.cell 0
    have k_E1_1 := E1.out.cell 1
    have k_E1_2 := E1.out.cell 2
    have k_E1_3 := E1.out.cell 3
    have k_E1_4 := E1.out.cell 4
    have k_E1_5 := E1.out.cell 5
    have k_E1_6 := E1.out.cell 6
    have k_E1_7 := E1.out.cell 7
    have k_E2_0 := E2.out.cell 0
    have k_E2_1 := E2.out.cell 1
    have k_E2_2 := E2.out.cell 2
    have k_E2_3 := E2.out.cell 3
    have k_E2_4 := E2.out.cell 4
    have k_E2_5 := E2.out.cell 5
    have k_E2_6 := E2.out.cell 6
    have k_E2_7 := E2.out.cell 7
    have hl2 := E2.out.lt
    have Z0 := NQ.out
    obtain ⟨AX0, pX0, cX0, BX0, qX0, eX0, xX0, rfl, _, _, _⟩ := Z0
    have e5 := Blk.new w5 47 #[.slice AX0 pX0 cX0, .slice BX0 qX0 eX0]
    have hb := cba (Below.refl _ w5) (.cells #[.slice AX0 pX0 cX0, .slice BX0 qX0 eX0] 47)
    go_upto_region 6 with (fail)
    obtain ⟨X, hS⟩ : ∃ S, (w5.alloc (.cells #[.slice AX0 pX0 cX0, .slice BX0 qX0 eX0] 47)) = S := ⟨_, rfl⟩
    rw [hS] at e5 hb ⊢
    obtain ⟨g5, hg⟩ : ∃ g, w5.heap.size = g := ⟨_, rfl⟩
    rw [hg] at e5 hl2
    simp only [hg]
    replace NQ := Lib.hid (NQ.out.below hb)
    replace E0 := Lib.hid (blk_below E0.out hb)
    replace E1 := Lib.hid (blk_below E1.out hb)
    replace E2 := Lib.hid (blk_below E2.out hb)
    replace HB0 := Lib.hid (cbt HB0.out hb)
    have E5 := Lib.hid e5
    clear hS hg hb e5 k_E0_0 k_E0_1 k_E0_2 k_E0_3 k_E0_4 k_E0_5 k_E0_6 k_E1_0 k_E1_1 k_E1_2 k_E1_3 k_E1_4 k_E1_5 k_E1_6 k_E1_7 k_E2_0 k_E2_1 k_E2_2 k_E2_3 k_E2_4 k_E2_5 k_E2_6 k_E2_7
    have HB5 := Lib.hid (show BoxF X g5 y.1 y.2 from ⟨_, _, _, _, _, _, E5.out, NQ.out⟩)
    have HSB := Lib.hid (show BoxSF X (w.heap.size + 1 + 1) (0, 1) (0, 1) (0, 1) (0, 1) from ⟨_, _, _, _, _, _, _, _, _, _, _, _, _, _, _, _, _, _, _, _, _, _, _, _, E2.out, F64.none, F64.none, F64.none, F64.none⟩)
    clear E5 NQ E2
    go_wp2_with fail
    go_loopw [6] (fun v6 wr => ∃ (k : Nat) (j : Int), (k = 1 ∧ j = 1 ∨ k = 2 ∧ j = 2 ∨ k = 3 ∧ j = 3 ∨ k = 4 ∧ j = 4) ∧ v6 = .int .i64 j ∧ Hid (BoxSF wr (w.heap.size + 1 + 1) (0, 1) (cond (Nat.blt 1 k) d1 (0, 1)) (cond (Nat.blt 2 k) d2 (0, 1)) (cond (Nat.blt 3 k) d3 (0, 1))) ∧ Hid (Blk wr w.heap.size 96 #[.int .i64 T, .int .i64 S0, .int .i64 n0, .int .i64 n1, .int .i64 n2, .int .i64 n3, .int .i64 n4]) ∧ Hid (Blk wr (w.heap.size + 1) 99 #[(.slice none 0 0), (.slice none 0 0), (.slice none 0 0), (.slice none 0 0), (.slice none 0 0), (.slice none 0 0), (.slice none 0 0), (.slice none 0 0)]) ∧ Hid (BoxF wr g5 y.1 y.2) ∧ Hid (Below w.heap.size w wr)) (fun v6 _ => 4 - (intOf v6).toNat)
    case atStart => exact ⟨1, 1, .inl ⟨rfl, rfl⟩, rfl, HSB, E0, E1, HB5, HB0⟩
    case round =>
      obtain ⟨k, j, hk, rfl, HBO, HE0, HE1, HB5, HBW⟩ := hrel
      clear HSB E0 E1 HB0
      rcases hk with ⟨rfl, rfl⟩ | ⟨rfl, rfl⟩ | ⟨rfl, rfl⟩ | ⟨rfl, rfl⟩
      · rcases HD1.out with ⟨hm, hdk⟩ | ⟨hm, hdk⟩
        · obtain ⟨A0, p0, c0, B0, q0, e0, A1, p1, c1, B1, q1, e1, A2, p2, c2, B2, q2, e2, A3, p3, c3, B3, q3, e3, hbk, h0, h1, h2, h3⟩ := HBO.out
          have E3 := Lib.hid hbk
          have F0 := Lib.hid (show F64 wr (.agg #[.slice A0 p0 c0, .slice B0 q0 e0]) (0, 1).1 (0, 1).2 from h0)
          have F1 := Lib.hid (show F64 wr (.agg #[.slice A1 p1 c1, .slice B1 q1 e1]) (0, 1).1 (0, 1).2 from h1)
          have F2 := Lib.hid (show F64 wr (.agg #[.slice A2 p2 c2, .slice B2 q2 e2]) (0, 1).1 (0, 1).2 from h2)
          have F3 := Lib.hid (show F64 wr (.agg #[.slice A3 p3 c3, .slice B3 q3 e3]) (0, 1).1 (0, 1).2 from h3)
          clear hbk h0 h1 h2 h3 HBO
          have HZ := Lib.hid (fun v W h => rzero_yes v m1 1 W h hm)
          clear hm
          have k_HE0_0 := HE0.out.cell 0
          have k_HE0_1 := HE0.out.cell 1
          have k_HE0_2 := HE0.out.cell 2
          have k_HE0_3 := HE0.out.cell 3
          have k_HE0_4 := HE0.out.cell 4
          have k_HE0_5 := HE0.out.cell 5
          have k_HE0_6 := HE0.out.cell 6
          have k_HE1_0 := HE1.out.cell 0
          have k_HE1_1 := HE1.out.cell 1
          have k_HE1_2 := HE1.out.cell 2
          have k_HE1_3 := HE1.out.cell 3
          have k_HE1_4 := HE1.out.cell 4
          have k_HE1_5 := HE1.out.cell 5
          have k_HE1_6 := HE1.out.cell 6
          have k_HE1_7 := HE1.out.cell 7
          have k_E3_0 := E3.out.cell 0
          have k_E3_1 := E3.out.cell 1
          have k_E3_2 := E3.out.cell 2
          have k_E3_3 := E3.out.cell 3
          have k_E3_4 := E3.out.cell 4
          have k_E3_5 := E3.out.cell 5
          have k_E3_6 := E3.out.cell 6
          have k_E3_7 := E3.out.cell 7
          go_wp2_with fail
          with_reducible refine (HC1.out _ _ HE0.out).mono ?_
          rintro e w1 ⟨u, rfl, hu, hb⟩
          clear k_HE0_0 k_HE0_1 k_HE0_2 k_HE0_3 k_HE0_4 k_HE0_5 k_HE0_6 k_HE1_0 k_HE1_1 k_HE1_2 k_HE1_3 k_HE1_4 k_HE1_5 k_HE1_6 k_HE1_7 k_E3_0 k_E3_1 k_E3_2 k_E3_3 k_E3_4 k_E3_5 k_E3_6 k_E3_7
          replace HB5 := Lib.hid (HB5.out.below hb)
          replace F0 := Lib.hid (F0.out.below hb)
          replace F1 := Lib.hid (F1.out.below hb)
          replace F2 := Lib.hid (F2.out.below hb)
          replace F3 := Lib.hid (F3.out.below hb)
          replace HE0 := Lib.hid (blk_below HE0.out hb)
          replace HE1 := Lib.hid (blk_below HE1.out hb)
          replace E3 := Lib.hid (blk_below E3.out hb)
          replace HBW := Lib.hid (cbt HBW.out hb)
          have NA := Lib.hid hu
          clear hb hu
          have k_HE0_0 := HE0.out.cell 0
          have k_HE0_1 := HE0.out.cell 1
          have k_HE0_2 := HE0.out.cell 2
          have k_HE0_3 := HE0.out.cell 3
          have k_HE0_4 := HE0.out.cell 4
          have k_HE0_5 := HE0.out.cell 5
          have k_HE0_6 := HE0.out.cell 6
          have k_HE1_0 := HE1.out.cell 0
          have k_HE1_1 := HE1.out.cell 1
          have k_HE1_2 := HE1.out.cell 2
          have k_HE1_3 := HE1.out.cell 3
          have k_HE1_4 := HE1.out.cell 4
          have k_HE1_5 := HE1.out.cell 5
          have k_HE1_6 := HE1.out.cell 6
          have k_HE1_7 := HE1.out.cell 7
          have k_E3_0 := E3.out.cell 0
          have k_E3_1 := E3.out.cell 1
          have k_E3_2 := E3.out.cell 2
          have k_E3_3 := E3.out.cell 3
          have k_E3_4 := E3.out.cell 4
          have k_E3_5 := E3.out.cell 5
          have k_E3_6 := E3.out.cell 6
          have k_E3_7 := E3.out.cell 7
          go_wp2_with fail
          with_reducible refine (HZ.out _ _ NA.out).mono ?_
          rintro e w1 ⟨rfl, hb⟩
          clear k_HE0_0 k_HE0_1 k_HE0_2 k_HE0_3 k_HE0_4 k_HE0_5 k_HE0_6 k_HE1_0 k_HE1_1 k_HE1_2 k_HE1_3 k_HE1_4 k_HE1_5 k_HE1_6 k_HE1_7 k_E3_0 k_E3_1 k_E3_2 k_E3_3 k_E3_4 k_E3_5 k_E3_6 k_E3_7
          replace HB5 := Lib.hid (HB5.out.below hb)
          replace F0 := Lib.hid (F0.out.below hb)
          replace F1 := Lib.hid (F1.out.below hb)
          replace F2 := Lib.hid (F2.out.below hb)
          replace F3 := Lib.hid (F3.out.below hb)
          replace NA := Lib.hid (NA.out.below hb)
          replace HE0 := Lib.hid (blk_below HE0.out hb)
          replace HE1 := Lib.hid (blk_below HE1.out hb)
          replace E3 := Lib.hid (blk_below E3.out hb)
          replace HBW := Lib.hid (cbt HBW.out hb)
          clear hb
          have k_HE0_0 := HE0.out.cell 0
          have k_HE0_1 := HE0.out.cell 1
          have k_HE0_2 := HE0.out.cell 2
          have k_HE0_3 := HE0.out.cell 3
          have k_HE0_4 := HE0.out.cell 4
          have k_HE0_5 := HE0.out.cell 5
          have k_HE0_6 := HE0.out.cell 6
          have k_HE1_0 := HE1.out.cell 0
          have k_HE1_1 := HE1.out.cell 1
          have k_HE1_2 := HE1.out.cell 2
          have k_HE1_3 := HE1.out.cell 3
          have k_HE1_4 := HE1.out.cell 4
          have k_HE1_5 := HE1.out.cell 5
          have k_HE1_6 := HE1.out.cell 6
          have k_HE1_7 := HE1.out.cell 7
          have k_E3_0 := E3.out.cell 0
          have k_E3_1 := E3.out.cell 1
          have k_E3_2 := E3.out.cell 2
          have k_E3_3 := E3.out.cell 3
          have k_E3_4 := E3.out.cell 4
          have k_E3_5 := E3.out.cell 5
          have k_E3_6 := E3.out.cell 6
          have k_E3_7 := E3.out.cell 7
          clear k_HE0_0 k_HE0_1 k_HE0_2 k_HE0_3 k_HE0_4 k_HE0_5 k_HE0_6 k_HE1_0 k_HE1_1 k_HE1_2 k_HE1_3 k_HE1_4 k_HE1_5 k_HE1_6 k_HE1_7 k_E3_0 k_E3_1 k_E3_2 k_E3_3 k_E3_4 k_E3_5 k_E3_6 k_E3_7
          have HD := Lib.hid hdk
          clear hdk
          go_wp2_with fail
          go_roundw
          case rel => exact ⟨2, 2, .inr (.inl ⟨rfl, rfl⟩), rfl, Lib.hid ⟨_, _, _, _, _, _, _, _, _, _, _, _, _, _, _, _, _, _, _, _, _, _, _, _, E3.out, F0.out, (by rw [show (cond (Nat.blt 1 2) d1 (0, 1)) = d1 from rfl, HD.out]; exact F1.out), F2.out, F3.out⟩, HE0, HE1, HB5, HBW⟩
          case measure => simp [intOf]
        · obtain ⟨A0, p0, c0, B0, q0, e0, A1, p1, c1, B1, q1, e1, A2, p2, c2, B2, q2, e2, A3, p3, c3, B3, q3, e3, hbk, h0, h1, h2, h3⟩ := HBO.out
          have E3 := Lib.hid hbk
          have F0 := Lib.hid (show F64 wr (.agg #[.slice A0 p0 c0, .slice B0 q0 e0]) (0, 1).1 (0, 1).2 from h0)
          have F1 := Lib.hid (show F64 wr (.agg #[.slice A1 p1 c1, .slice B1 q1 e1]) (0, 1).1 (0, 1).2 from h1)
          have F2 := Lib.hid (show F64 wr (.agg #[.slice A2 p2 c2, .slice B2 q2 e2]) (0, 1).1 (0, 1).2 from h2)
          have F3 := Lib.hid (show F64 wr (.agg #[.slice A3 p3 c3, .slice B3 q3 e3]) (0, 1).1 (0, 1).2 from h3)
          clear hbk h0 h1 h2 h3 HBO
          have HZ := Lib.hid (fun v W h => rzero_no v m1 1 W h (Nat.pos_of_ne_zero hm))
          have HWA : Hid (∀ W, Calls Try.prog 122 #[.int .i64 2] W (MkF W 2 1)) := Lib.hid (fun W => whole_any 2 2 (by decide) (by decide) W)
          have HWB : Hid (∀ W, Calls Try.prog 122 #[.int .i64 1] W (MkF W 1 1)) := Lib.hid (fun W => whole_any 1 1 (by decide) (by decide) W)
          have sk : Sz 6 (1, 1) := sz_int (by decide)
          have sk1 : Sz 6 (2, 1) := sz_int (by decide)
          have sz1 := sk1.mul HSY.out
          have sz2 := HS2.out.div HS1.out
          have sz3 := sz1.mul sz2
          have HM1 : Hid (∀ va vb W, F64 W va 2 1 → F64 W vb y.1 y.2 → Calls Try.prog 43 #[va, vb] W (MkF W (mulR (2, 1) y).1 (mulR (2, 1) y).2)) := Lib.hid (fun va vb W h1 h2 => c_mul (a := (2, 1)) (B := 80) (by decide) (sk1.mono (by decide)) (HSY.out.mono (by decide)) h1 h2)
          have HBY2 : Hid (∀ va vb W, F64 W va m2 1 → F64 W vb m1 1 → Calls Try.prog 123 #[va, vb] W (MkF W (byR (m2, 1) (m1, 1)).1 (byR (m2, 1) (m1, 1)).2)) := Lib.hid (fun va vb W h1 h2 => by_any (a := (m2, 1)) (b := (m1, 1)) (B := 80) (by decide) (HS2.out.mono (by decide)) (HS1.out.mono (by decide)) h1 h2)
          have hby2 : byR (m2, 1) (m1, 1) = divR (m2, 1) (m1, 1) := byR_pos hm
          rw [hby2] at HBY2
          obtain ⟨z1, hz1⟩ : ∃ z, mulR (2, 1) y = z := ⟨_, rfl⟩
          obtain ⟨z2, hz2⟩ : ∃ z, divR (m2, 1) (m1, 1) = z := ⟨_, rfl⟩
          rw [hz1] at HM1 sz1 sz3 hdk
          rw [hz2] at HBY2 sz2 sz3 hdk
          have HM2 := Lib.hid (fun va vb W h1 h2 => c_mul (a := z1) (b := z2) (va := va) (vb := vb) (W := W) (B := 80) (by decide) (sz1.mono (by decide)) (sz2.mono (by decide)) h1 h2)
          obtain ⟨z3, hz3⟩ : ∃ z, mulR z1 z2 = z := ⟨_, rfl⟩
          rw [hz3] at HM2 sz3 hdk
          have HLS : Hid (∀ va vb W, F64 W va 1 1 → F64 W vb z3.1 z3.2 → Calls Try.prog 62 #[va, vb] W (MkF W (lessR (1, 1) z3).1 (lessR (1, 1) z3).2)) := Lib.hid (fun va vb W h1 h2 => c_less (a := (1, 1)) (B := 80) (by decide) (sk.mono (by decide)) (sz3.mono (by decide)) h1 h2)
          rw [← hdk] at HLS
          clear hz1 hz2 hz3 hby2 sk sk1 sz1 sz2 sz3 hdk hm
          obtain ⟨A5, p5, c5, B5, q5, e5, hb5, hF5⟩ := HB5.out
          have E5 := Lib.hid hb5
          have N5 := Lib.hid hF5
          clear hb5 hF5 HB5
          have k_HE0_0 := HE0.out.cell 0
          have k_HE0_1 := HE0.out.cell 1
          have k_HE0_2 := HE0.out.cell 2
          have k_HE0_3 := HE0.out.cell 3
          have k_HE0_4 := HE0.out.cell 4
          have k_HE0_5 := HE0.out.cell 5
          have k_HE0_6 := HE0.out.cell 6
          have k_HE1_0 := HE1.out.cell 0
          have k_HE1_1 := HE1.out.cell 1
          have k_HE1_2 := HE1.out.cell 2
          have k_HE1_3 := HE1.out.cell 3
          have k_HE1_4 := HE1.out.cell 4
          have k_HE1_5 := HE1.out.cell 5
          have k_HE1_6 := HE1.out.cell 6
          have k_HE1_7 := HE1.out.cell 7
          have k_E3_0 := E3.out.cell 0
          have k_E3_1 := E3.out.cell 1
          have k_E3_2 := E3.out.cell 2
          have k_E3_3 := E3.out.cell 3
          have k_E3_4 := E3.out.cell 4
          have k_E3_5 := E3.out.cell 5
          have k_E3_6 := E3.out.cell 6
          have k_E3_7 := E3.out.cell 7
          have k_E5_0 := E5.out.cell 0
          have k_E5_1 := E5.out.cell 1
          go_wp2_with fail
          with_reducible refine (HC1.out _ _ HE0.out).mono ?_
          rintro e w1 ⟨u, rfl, hu, hb⟩
          clear k_HE0_0 k_HE0_1 k_HE0_2 k_HE0_3 k_HE0_4 k_HE0_5 k_HE0_6 k_HE1_0 k_HE1_1 k_HE1_2 k_HE1_3 k_HE1_4 k_HE1_5 k_HE1_6 k_HE1_7 k_E3_0 k_E3_1 k_E3_2 k_E3_3 k_E3_4 k_E3_5 k_E3_6 k_E3_7 k_E5_0 k_E5_1
          replace N5 := Lib.hid (N5.out.below hb)
          replace F0 := Lib.hid (F0.out.below hb)
          replace F1 := Lib.hid (F1.out.below hb)
          replace F2 := Lib.hid (F2.out.below hb)
          replace F3 := Lib.hid (F3.out.below hb)
          replace HE0 := Lib.hid (blk_below HE0.out hb)
          replace HE1 := Lib.hid (blk_below HE1.out hb)
          replace E3 := Lib.hid (blk_below E3.out hb)
          replace E5 := Lib.hid (blk_below E5.out hb)
          replace HBW := Lib.hid (cbt HBW.out hb)
          have NA := Lib.hid hu
          clear hb hu
          have k_HE0_0 := HE0.out.cell 0
          have k_HE0_1 := HE0.out.cell 1
          have k_HE0_2 := HE0.out.cell 2
          have k_HE0_3 := HE0.out.cell 3
          have k_HE0_4 := HE0.out.cell 4
          have k_HE0_5 := HE0.out.cell 5
          have k_HE0_6 := HE0.out.cell 6
          have k_HE1_0 := HE1.out.cell 0
          have k_HE1_1 := HE1.out.cell 1
          have k_HE1_2 := HE1.out.cell 2
          have k_HE1_3 := HE1.out.cell 3
          have k_HE1_4 := HE1.out.cell 4
          have k_HE1_5 := HE1.out.cell 5
          have k_HE1_6 := HE1.out.cell 6
          have k_HE1_7 := HE1.out.cell 7
          have k_E3_0 := E3.out.cell 0
          have k_E3_1 := E3.out.cell 1
          have k_E3_2 := E3.out.cell 2
          have k_E3_3 := E3.out.cell 3
          have k_E3_4 := E3.out.cell 4
          have k_E3_5 := E3.out.cell 5
          have k_E3_6 := E3.out.cell 6
          have k_E3_7 := E3.out.cell 7
          have k_E5_0 := E5.out.cell 0
          have k_E5_1 := E5.out.cell 1
          go_wp2_with fail
          with_reducible refine (HZ.out _ _ NA.out).mono ?_
          rintro e w1 ⟨rfl, hb⟩
          clear k_HE0_0 k_HE0_1 k_HE0_2 k_HE0_3 k_HE0_4 k_HE0_5 k_HE0_6 k_HE1_0 k_HE1_1 k_HE1_2 k_HE1_3 k_HE1_4 k_HE1_5 k_HE1_6 k_HE1_7 k_E3_0 k_E3_1 k_E3_2 k_E3_3 k_E3_4 k_E3_5 k_E3_6 k_E3_7 k_E5_0 k_E5_1
          replace N5 := Lib.hid (N5.out.below hb)
          replace F0 := Lib.hid (F0.out.below hb)
          replace F1 := Lib.hid (F1.out.below hb)
          replace F2 := Lib.hid (F2.out.below hb)
          replace F3 := Lib.hid (F3.out.below hb)
          replace NA := Lib.hid (NA.out.below hb)
          replace HE0 := Lib.hid (blk_below HE0.out hb)
          replace HE1 := Lib.hid (blk_below HE1.out hb)
          replace E3 := Lib.hid (blk_below E3.out hb)
          replace E5 := Lib.hid (blk_below E5.out hb)
          replace HBW := Lib.hid (cbt HBW.out hb)
          clear hb
          have k_HE0_0 := HE0.out.cell 0
          have k_HE0_1 := HE0.out.cell 1
          have k_HE0_2 := HE0.out.cell 2
          have k_HE0_3 := HE0.out.cell 3
          have k_HE0_4 := HE0.out.cell 4
          have k_HE0_5 := HE0.out.cell 5
          have k_HE0_6 := HE0.out.cell 6
          have k_HE1_0 := HE1.out.cell 0
          have k_HE1_1 := HE1.out.cell 1
          have k_HE1_2 := HE1.out.cell 2
          have k_HE1_3 := HE1.out.cell 3
          have k_HE1_4 := HE1.out.cell 4
          have k_HE1_5 := HE1.out.cell 5
          have k_HE1_6 := HE1.out.cell 6
          have k_HE1_7 := HE1.out.cell 7
          have k_E3_0 := E3.out.cell 0
          have k_E3_1 := E3.out.cell 1
          have k_E3_2 := E3.out.cell 2
          have k_E3_3 := E3.out.cell 3
          have k_E3_4 := E3.out.cell 4
          have k_E3_5 := E3.out.cell 5
          have k_E3_6 := E3.out.cell 6
          have k_E3_7 := E3.out.cell 7
          have k_E5_0 := E5.out.cell 0
          have k_E5_1 := E5.out.cell 1
          clear NA k_HE0_0 k_HE0_1 k_HE0_2 k_HE0_3 k_HE0_4 k_HE0_5 k_HE0_6 k_HE1_0 k_HE1_1 k_HE1_2 k_HE1_3 k_HE1_4 k_HE1_5 k_HE1_6 k_HE1_7 k_E3_0 k_E3_1 k_E3_2 k_E3_3 k_E3_4 k_E3_5 k_E3_6 k_E3_7 k_E5_0 k_E5_1
          have hlt3 := E3.out.lt
          go_wp2_with fail
          let FS : List Kept1 := [.eq (.int .i64 1), .eq (.int .i64 2), .f (2) (1), .f (y.1) (y.2), .f (z1.1) (z1.2), .eq (.func (.func 121) #[] #[.pointer (some ⟨w.heap.size, 0, none⟩)]), .eq (.int .i64 1), .eq (.int .i64 2), .f (m2) (1), .eq (.func (.func 121) #[] #[.pointer (some ⟨w.heap.size, 0, none⟩)]), .eq (.int .i64 1), .f (m1) (1), .f (z2.1) (z2.2), .f (z3.1) (z3.2), .any, .any]
          let BS : List Bx := [Bx.rat (.inl 14) 15 #[.slice none 0 0, .slice none 0 0] (z3.1) (z3.2)]
          refine region_mono (Held w1 (fun j => FS.getD j .any) BS) (by kernel_rfl) (by kernel_rfl) (by kernel_rfl) (Held.start _ _ _ (by simp [BS, Bx.nat, Bx.rat, Bx.ref, Bx.part]) (by simp [BS, Bx.nat, Bx.rat, Bx.ref, Bx.part])) ?_
          refine Steps.held ?_ ?_
          · intro L v w' hJ
            go_wp2_with fail
            exact ⟨rfl, rfl, hJ.out.same (by rfl) (rfl)⟩
          simp only [Act.put, List.setIfInBounds_toArray, List.set_cons_zero, List.set_cons_succ, Nat.reduceAdd]
          refine Steps.held ?_ ?_
          · intro L v w' hJ
            have hv0 : v 0 = .int .i64 1 := hJ.out.fact 0 (by kernel_rfl)
            simp only [hv0]
            clear hv0
            go_wp2_with fail
            exact ⟨rfl, rfl, hJ.out.same (by rfl) (rfl)⟩
          simp only [Act.put, List.setIfInBounds_toArray, List.set_cons_zero, List.set_cons_succ, Nat.reduceAdd]
          refine Steps.held ?_ ?_
          · intro L v w' hJ
            have hv1 : v 1 = .int .i64 2 := hJ.out.fact 1 (by kernel_rfl)
            simp only [hv1]
            clear hv1
            go_wp2_with fail
            with_reducible refine (HWA.out _).mono ?_
            rintro e w1 ⟨u, rfl, hu, hb⟩
            go_wp2_with fail
            exact ⟨rfl, rfl, hJ.out.call (by rfl) hb (hu)⟩
          simp only [Act.put, List.setIfInBounds_toArray, List.set_cons_zero, List.set_cons_succ, Nat.reduceAdd]
          refine Steps.held ?_ ?_
          · intro L v w' hJ
            have kb := hJ.out.blk E5.out (by simp [oldsOf, BS, Bx.nat, Bx.rat, Bx.ref, Bx.part])
            have k0 := kb.cell 0
            have k1 := kb.cell 1
            clear kb
            go_wp2_with fail
            exact ⟨rfl, rfl, hJ.out.same (by rfl) (N5.out.keep hJ.out.held.keep)⟩
          simp only [Act.put, List.setIfInBounds_toArray, List.set_cons_zero, List.set_cons_succ, Nat.reduceAdd]
          refine Steps.held ?_ ?_
          · intro L v w' hJ
            have X0 := Lib.hid (show F64 w' (v 2) (2) (1) from hJ.out.fact 2 (by kernel_rfl))
            have X1 := Lib.hid (show F64 w' (v 3) (y.1) (y.2) from hJ.out.fact 3 (by kernel_rfl))
            go_wp2_with fail
            with_reducible refine (HM1.out _ _ _ X0.out X1.out).mono ?_
            rintro e w1 ⟨u, rfl, hu, hb⟩
            go_wp2_with fail
            exact ⟨rfl, rfl, hJ.out.call (by rfl) hb (hu)⟩
          simp only [Act.put, List.setIfInBounds_toArray, List.set_cons_zero, List.set_cons_succ, Nat.reduceAdd]
          refine Steps.held ?_ ?_
          · intro L v w' hJ
            go_wp2_with fail
            exact ⟨rfl, rfl, hJ.out.same (by rfl) (rfl)⟩
          simp only [Act.put, List.setIfInBounds_toArray, List.set_cons_zero, List.set_cons_succ, Nat.reduceAdd]
          refine Steps.held ?_ ?_
          · intro L v w' hJ
            go_wp2_with fail
            exact ⟨rfl, rfl, hJ.out.same (by rfl) (rfl)⟩
          simp only [Act.put, List.setIfInBounds_toArray, List.set_cons_zero, List.set_cons_succ, Nat.reduceAdd]
          refine Steps.held ?_ ?_
          · intro L v w' hJ
            have hv6 : v 6 = .int .i64 1 := hJ.out.fact 6 (by kernel_rfl)
            simp only [hv6]
            clear hv6
            go_wp2_with fail
            exact ⟨rfl, rfl, hJ.out.same (by rfl) (rfl)⟩
          simp only [Act.put, List.setIfInBounds_toArray, List.set_cons_zero, List.set_cons_succ, Nat.reduceAdd]
          refine Steps.held ?_ ?_
          · intro L v w' hJ
            have hv5 : v 5 = .func (.func 121) #[] #[.pointer (some ⟨w.heap.size, 0, none⟩)] := hJ.out.fact 5 (by kernel_rfl)
            simp only [hv5]
            clear hv5
            have hv7 : v 7 = .int .i64 2 := hJ.out.fact 7 (by kernel_rfl)
            simp only [hv7]
            clear hv7
            have kbc := hJ.out.blk HE0.out (by simp [oldsOf, BS, Bx.nat, Bx.rat, Bx.ref, Bx.part] <;> omega)
            go_wp2_with fail
            with_reducible refine (HC2.out _ _ kbc).mono ?_
            rintro e w1 ⟨u, rfl, hu, hb⟩
            go_wp2_with fail
            exact ⟨rfl, rfl, hJ.out.call (by rfl) hb (hu)⟩
          simp only [Act.put, List.setIfInBounds_toArray, List.set_cons_zero, List.set_cons_succ, Nat.reduceAdd]
          refine Steps.held ?_ ?_
          · intro L v w' hJ
            go_wp2_with fail
            exact ⟨rfl, rfl, hJ.out.same (by rfl) (rfl)⟩
          simp only [Act.put, List.setIfInBounds_toArray, List.set_cons_zero, List.set_cons_succ, Nat.reduceAdd]
          refine Steps.held ?_ ?_
          · intro L v w' hJ
            go_wp2_with fail
            exact ⟨rfl, rfl, hJ.out.same (by rfl) (rfl)⟩
          simp only [Act.put, List.setIfInBounds_toArray, List.set_cons_zero, List.set_cons_succ, Nat.reduceAdd]
          refine Steps.held ?_ ?_
          · intro L v w' hJ
            have hv9 : v 9 = .func (.func 121) #[] #[.pointer (some ⟨w.heap.size, 0, none⟩)] := hJ.out.fact 9 (by kernel_rfl)
            simp only [hv9]
            clear hv9
            have hv10 : v 10 = .int .i64 1 := hJ.out.fact 10 (by kernel_rfl)
            simp only [hv10]
            clear hv10
            have kbc := hJ.out.blk HE0.out (by simp [oldsOf, BS, Bx.nat, Bx.rat, Bx.ref, Bx.part] <;> omega)
            go_wp2_with fail
            with_reducible refine (HC1.out _ _ kbc).mono ?_
            rintro e w1 ⟨u, rfl, hu, hb⟩
            go_wp2_with fail
            exact ⟨rfl, rfl, hJ.out.call (by rfl) hb (hu)⟩
          simp only [Act.put, List.setIfInBounds_toArray, List.set_cons_zero, List.set_cons_succ, Nat.reduceAdd]
          refine Steps.held ?_ ?_
          · intro L v w' hJ
            have X0 := Lib.hid (show F64 w' (v 8) (m2) (1) from hJ.out.fact 8 (by kernel_rfl))
            have X1 := Lib.hid (show F64 w' (v 11) (m1) (1) from hJ.out.fact 11 (by kernel_rfl))
            go_wp2_with fail
            with_reducible refine (HBY2.out _ _ _ X0.out X1.out).mono ?_
            rintro e w1 ⟨u, rfl, hu, hb⟩
            go_wp2_with fail
            exact ⟨rfl, rfl, hJ.out.call (by rfl) hb (hu)⟩
          simp only [Act.put, List.setIfInBounds_toArray, List.set_cons_zero, List.set_cons_succ, Nat.reduceAdd]
          refine Steps.held ?_ ?_
          · intro L v w' hJ
            have X0 := Lib.hid (show F64 w' (v 4) (z1.1) (z1.2) from hJ.out.fact 4 (by kernel_rfl))
            have X1 := Lib.hid (show F64 w' (v 12) (z2.1) (z2.2) from hJ.out.fact 12 (by kernel_rfl))
            go_wp2_with fail
            with_reducible refine (HM2.out _ _ _ X0.out X1.out).mono ?_
            rintro e w1 ⟨u, rfl, hu, hb⟩
            go_wp2_with fail
            exact ⟨rfl, rfl, hJ.out.call (by rfl) hb (hu)⟩
          simp only [Act.put, List.setIfInBounds_toArray, List.set_cons_zero, List.set_cons_succ, Nat.reduceAdd]
          refine Steps.held ?_ ?_
          · intro L v w' hJ
            go_wp2_with fail
            exact ⟨rfl, rfl, hJ.out.made 0 _ rfl rfl (by rfl) trivial⟩
          simp only [Act.put, List.setIfInBounds_toArray, List.set_cons_zero, List.set_cons_succ, Nat.reduceAdd]
          refine Steps.held ?_ ?_
          · intro L v w' hJ
            obtain ⟨g, hg, hge, hown, hst⟩ := hJ.out.newbox 0 _ rfl 14 rfl (by kernel_rfl)
            have hN : F64 w' (v 13) (z3.1) (z3.2) := hJ.out.fact 13 (by kernel_rfl)
            obtain ⟨A1, p1, c1, B1, q1, e1, x1, hv, h1, h2, h3⟩ := hN
            have HN := Lib.hid (show F64 w' (.agg #[.slice A1 p1 c1, .slice B1 q1 e1]) (z3.1) (z3.2) from ⟨A1, p1, c1, B1, q1, e1, x1, rfl, h1, h2, h3⟩)
            have kb := hJ.out.box 0 _ rfl rfl g hown
            have k0 : w'.cell? ⟨g, 0, none⟩ = some (.slice none 0 0) := kb.cell 0
            have k1 : w'.cell? ⟨g, 1, none⟩ = some (.slice none 0 0) := kb.cell 1
            have f0 := kb.frozen 0
            have f1 := kb.frozen 1
            have HO := Lib.hid hown
            have HS := Lib.hid hst
            clear kb h1 h2 h3 hown hst
            simp only [hg, hv]
            clear hg hv
            go_wp2_with fail
            exact ⟨rfl, rfl, hJ.out.fill2 0 _ rfl rfl (by rfl) g HO.out HS.out _ _ rfl rfl rfl (fun W k => HN.out.keep k) (fun _ => trivial)⟩
          simp only [Act.put, List.setIfInBounds_toArray, List.set_cons_zero, List.set_cons_succ, Nat.reduceAdd]
          refine Steps.nil ?_
          intro v w' hJ
          obtain ⟨g7, cs14, hv14, hge14, hb14, hf14⟩ := hJ.end_new 0 _ rfl 14 rfl (by decide) (Nat.le_of_ble_eq_true rfl)
          have hfx : F64 w' (.agg cs14) z3.1 z3.2 := hf14
          obtain ⟨A14, p14, c14, B14, q14, e14, x14, hcs14, h1, h2, h3⟩ := hfx
          have hcs14' := Value.agg.inj hcs14
          subst hcs14'
          simp only [hv14]
          have E7 := Lib.hid (show Blk w' g7 47 #[.slice A14 p14 c14, .slice B14 q14 e14] from hb14)
          have NE7 := Lib.hid (show F64 w' (.agg #[.slice A14 p14 c14, .slice B14 q14 e14]) z3.1 z3.2 from hf14)
          clear hv14 hb14 hf14 hcs14 h1 h2
          have hbr := hJ.but.below
          replace N5 := Lib.hid (N5.out.below hbr)
          replace F0 := Lib.hid (F0.out.below hbr)
          replace F1 := Lib.hid (F1.out.below hbr)
          replace F2 := Lib.hid (F2.out.below hbr)
          replace F3 := Lib.hid (F3.out.below hbr)
          replace HE0 := Lib.hid (blk_below HE0.out hbr)
          replace HE1 := Lib.hid (blk_below HE1.out hbr)
          replace E3 := Lib.hid (blk_below E3.out hbr)
          replace E5 := Lib.hid (blk_below E5.out hbr)
          replace HBW := Lib.hid (cbt HBW.out hbr)
          clear hJ hbr
          go_wp2_with fail
          let FS : List Kept1 := [.eq (.int .i64 1), .eq (.int .i64 1), .f (1) (1), .f (z3.1) (z3.2), .f (d1.1) (d1.2), .eq (.pointer (some ⟨w.heap.size + 1 + 1, 0, none⟩)), .eq (.pointer (some ⟨w.heap.size + 1 + 1, 2, none⟩)), .any]
          let BS : List Bx := [Bx.part F64 keepF (.inr (w.heap.size + 1 + 1)) 7 99 #[.slice A0 p0 c0, .slice B0 q0 e0, .slice A1 p1 c1, .slice B1 q1 e1, .slice A2 p2 c2, .slice B2 q2 e2, .slice A3 p3 c3, .slice B3 q3 e3] 2 (d1.1) (d1.2)]
          refine region_mono (Held w' (fun j => FS.getD j .any) BS) (by kernel_rfl) (by kernel_rfl) (by kernel_rfl) (Held.start _ _ _ (by simp [BS, Bx.nat, Bx.rat, Bx.ref, Bx.part] <;> exact E3.out) (by simp [BS, Bx.nat, Bx.rat, Bx.ref, Bx.part])) ?_
          refine Steps.held ?_ ?_
          · intro L v w' hJ
            go_wp2_with fail
            exact ⟨rfl, rfl, hJ.out.same (by rfl) (rfl)⟩
          simp only [Act.put, List.setIfInBounds_toArray, List.set_cons_zero, List.set_cons_succ, Nat.reduceAdd]
          refine Steps.held ?_ ?_
          · intro L v w' hJ
            go_wp2_with fail
            exact ⟨rfl, rfl, hJ.out.same (by rfl) (rfl)⟩
          simp only [Act.put, List.setIfInBounds_toArray, List.set_cons_zero, List.set_cons_succ, Nat.reduceAdd]
          refine Steps.held ?_ ?_
          · intro L v w' hJ
            have hv1 : v 1 = .int .i64 1 := hJ.out.fact 1 (by kernel_rfl)
            simp only [hv1]
            clear hv1
            go_wp2_with fail
            with_reducible refine (HWB.out _).mono ?_
            rintro e w1 ⟨u, rfl, hu, hb⟩
            go_wp2_with fail
            exact ⟨rfl, rfl, hJ.out.call (by rfl) hb (hu)⟩
          simp only [Act.put, List.setIfInBounds_toArray, List.set_cons_zero, List.set_cons_succ, Nat.reduceAdd]
          refine Steps.held ?_ ?_
          · intro L v w' hJ
            have kb := hJ.out.blk E7.out (by simp [oldsOf, BS, Bx.nat, Bx.rat, Bx.ref, Bx.part] <;> omega)
            have k0 := kb.cell 0
            have k1 := kb.cell 1
            clear kb
            go_wp2_with fail
            exact ⟨rfl, rfl, hJ.out.same (by rfl) (NE7.out.keep hJ.out.held.keep)⟩
          simp only [Act.put, List.setIfInBounds_toArray, List.set_cons_zero, List.set_cons_succ, Nat.reduceAdd]
          refine Steps.held ?_ ?_
          · intro L v w' hJ
            have X0 := Lib.hid (show F64 w' (v 2) (1) (1) from hJ.out.fact 2 (by kernel_rfl))
            have X1 := Lib.hid (show F64 w' (v 3) (z3.1) (z3.2) from hJ.out.fact 3 (by kernel_rfl))
            go_wp2_with fail
            with_reducible refine (HLS.out _ _ _ X0.out X1.out).mono ?_
            rintro e w1 ⟨u, rfl, hu, hb⟩
            go_wp2_with fail
            exact ⟨rfl, rfl, hJ.out.call (by rfl) hb (hu)⟩
          simp only [Act.put, List.setIfInBounds_toArray, List.set_cons_zero, List.set_cons_succ, Nat.reduceAdd]
          refine Steps.held ?_ ?_
          · intro L v w' hJ
            go_wp2_with fail
            exact ⟨rfl, rfl, hJ.out.same (by rfl) (rfl)⟩
          simp only [Act.put, List.setIfInBounds_toArray, List.set_cons_zero, List.set_cons_succ, Nat.reduceAdd]
          refine Steps.held ?_ ?_
          · intro L v w' hJ
            have hv5 : v 5 = .pointer (some ⟨w.heap.size + 1 + 1, 0, none⟩) := hJ.out.fact 5 (by kernel_rfl)
            simp only [hv5]
            clear hv5
            have hv0 : v 0 = .int .i64 1 := hJ.out.fact 0 (by kernel_rfl)
            simp only [hv0]
            clear hv0
            go_wp2_with fail
            exact ⟨rfl, rfl, hJ.out.same (by rfl) (rfl)⟩
          simp only [Act.put, List.setIfInBounds_toArray, List.set_cons_zero, List.set_cons_succ, Nat.reduceAdd]
          refine Steps.held ?_ ?_
          · intro L v w' hJ
            obtain ⟨hown, hst⟩ := hJ.out.oldbox 0 _ rfl (w.heap.size + 1 + 1) rfl
            have hN : F64 w' (v 4) (d1.1) (d1.2) := hJ.out.fact 4 (by kernel_rfl)
            obtain ⟨AW, pW, cW, BW, qW, eW, xW, hv, h1, h2, h3⟩ := hN
            have HN := Lib.hid (show F64 w' (.agg #[.slice AW pW cW, .slice BW qW eW]) (d1.1) (d1.2) from ⟨AW, pW, cW, BW, qW, eW, xW, rfl, h1, h2, h3⟩)
            have kb := hJ.out.box 0 _ rfl rfl (w.heap.size + 1 + 1) hown
            have k0 : w'.cell? ⟨w.heap.size + 1 + 1, 2, none⟩ = some (.slice A1 p1 c1) := kb.cell 2
            have k1 : w'.cell? ⟨w.heap.size + 1 + 1, 3, none⟩ = some (.slice B1 q1 e1) := kb.cell 3
            have f0 := kb.frozen 2
            have f1 := kb.frozen 3
            have HO := Lib.hid hown
            have HS := Lib.hid hst
            clear kb h1 h2 h3 hown hst
            have hv6 : v 6 = .pointer (some ⟨w.heap.size + 1 + 1, 2, none⟩) := hJ.out.fact 6 (by kernel_rfl)
            simp only [hv6]
            clear hv6
            simp only [hv]
            clear hv
            go_wp2_with fail
            exact ⟨rfl, rfl, hJ.out.fillAt 0 _ rfl rfl (by rfl) (w.heap.size + 1 + 1) HO.out HS.out 2 _ _ rfl rfl (fun W k => ⟨AW, pW, cW, BW, qW, eW, rfl, HN.out.keep k⟩) (fun _ => trivial)⟩
          simp only [Act.put, List.setIfInBounds_toArray, List.set_cons_zero, List.set_cons_succ, Nat.reduceAdd]
          refine Steps.nil ?_
          intro v w' hJ
          obtain ⟨cs, hblk, A1x, p1x, c1x, B1x, q1x, e1x, hcs, hf⟩ := hJ.end_old 0 _ rfl (w.heap.size + 1 + 1) rfl (Nat.le_of_ble_eq_true rfl)
          subst hcs
          have hblk' := Lib.hid (show Blk w' (w.heap.size + 1 + 1) 99 #[.slice A0 p0 c0, .slice B0 q0 e0, .slice A1x p1x c1x, .slice B1x q1x e1x, .slice A2 p2 c2, .slice B2 q2 e2, .slice A3 p3 c3, .slice B3 q3 e3] from hblk)
          have hF := Lib.hid hf
          have hk2 := hJ.keep
          replace N5 := Lib.hid (N5.out.keep hk2)
          replace F0 := Lib.hid (F0.out.keep hk2)
          replace F1 := Lib.hid (F1.out.keep hk2)
          replace F2 := Lib.hid (F2.out.keep hk2)
          replace F3 := Lib.hid (F3.out.keep hk2)
          replace HE0 := Lib.hid (hJ.but.blk HE0.out (by simp [oldsOf, BS, Bx.nat, Bx.rat, Bx.ref, Bx.part] <;> omega))
          replace HE1 := Lib.hid (hJ.but.blk HE1.out (by simp [oldsOf, BS, Bx.nat, Bx.rat, Bx.ref, Bx.part] <;> omega))
          replace E5 := Lib.hid (hJ.but.blk E5.out (by simp [oldsOf, BS, Bx.nat, Bx.rat, Bx.ref, Bx.part] <;> omega))
          replace HBW := Lib.hid (hJ.but.to_below HBW.out HBW.out.size (by intro g hg; simp [oldsOf, BS, Bx.nat, Bx.rat, Bx.ref, Bx.part] at hg; subst hg; omega))
          have HB5 := Lib.hid (show BoxF w' g5 y.1 y.2 from ⟨_, _, _, _, _, _, E5.out, N5.out⟩)
          clear hJ hf hblk hk2
          go_wp2_with fail
          go_roundw
          case rel => exact ⟨2, 2, .inr (.inl ⟨rfl, rfl⟩), rfl, Lib.hid ⟨_, _, _, _, _, _, _, _, _, _, _, _, _, _, _, _, _, _, _, _, _, _, _, _, hblk'.out, F0.out, hF.out, F2.out, F3.out⟩, HE0, HE1, HB5, HBW⟩
          case measure => simp [intOf]
      · rcases HD2.out with ⟨hm, hdk⟩ | ⟨hm, hdk⟩
        · obtain ⟨A0, p0, c0, B0, q0, e0, A1, p1, c1, B1, q1, e1, A2, p2, c2, B2, q2, e2, A3, p3, c3, B3, q3, e3, hbk, h0, h1, h2, h3⟩ := HBO.out
          have E3 := Lib.hid hbk
          have F0 := Lib.hid (show F64 wr (.agg #[.slice A0 p0 c0, .slice B0 q0 e0]) (0, 1).1 (0, 1).2 from h0)
          have F1 := Lib.hid (show F64 wr (.agg #[.slice A1 p1 c1, .slice B1 q1 e1]) d1.1 d1.2 from h1)
          have F2 := Lib.hid (show F64 wr (.agg #[.slice A2 p2 c2, .slice B2 q2 e2]) (0, 1).1 (0, 1).2 from h2)
          have F3 := Lib.hid (show F64 wr (.agg #[.slice A3 p3 c3, .slice B3 q3 e3]) (0, 1).1 (0, 1).2 from h3)
          clear hbk h0 h1 h2 h3 HBO
          have HZ := Lib.hid (fun v W h => rzero_yes v m2 1 W h hm)
          clear hm
          have k_HE0_0 := HE0.out.cell 0
          have k_HE0_1 := HE0.out.cell 1
          have k_HE0_2 := HE0.out.cell 2
          have k_HE0_3 := HE0.out.cell 3
          have k_HE0_4 := HE0.out.cell 4
          have k_HE0_5 := HE0.out.cell 5
          have k_HE0_6 := HE0.out.cell 6
          have k_HE1_0 := HE1.out.cell 0
          have k_HE1_1 := HE1.out.cell 1
          have k_HE1_2 := HE1.out.cell 2
          have k_HE1_3 := HE1.out.cell 3
          have k_HE1_4 := HE1.out.cell 4
          have k_HE1_5 := HE1.out.cell 5
          have k_HE1_6 := HE1.out.cell 6
          have k_HE1_7 := HE1.out.cell 7
          have k_E3_0 := E3.out.cell 0
          have k_E3_1 := E3.out.cell 1
          have k_E3_2 := E3.out.cell 2
          have k_E3_3 := E3.out.cell 3
          have k_E3_4 := E3.out.cell 4
          have k_E3_5 := E3.out.cell 5
          have k_E3_6 := E3.out.cell 6
          have k_E3_7 := E3.out.cell 7
          go_wp2_with fail
          with_reducible refine (HC2.out _ _ HE0.out).mono ?_
          rintro e w1 ⟨u, rfl, hu, hb⟩
          clear k_HE0_0 k_HE0_1 k_HE0_2 k_HE0_3 k_HE0_4 k_HE0_5 k_HE0_6 k_HE1_0 k_HE1_1 k_HE1_2 k_HE1_3 k_HE1_4 k_HE1_5 k_HE1_6 k_HE1_7 k_E3_0 k_E3_1 k_E3_2 k_E3_3 k_E3_4 k_E3_5 k_E3_6 k_E3_7
          replace HB5 := Lib.hid (HB5.out.below hb)
          replace F0 := Lib.hid (F0.out.below hb)
          replace F1 := Lib.hid (F1.out.below hb)
          replace F2 := Lib.hid (F2.out.below hb)
          replace F3 := Lib.hid (F3.out.below hb)
          replace HE0 := Lib.hid (blk_below HE0.out hb)
          replace HE1 := Lib.hid (blk_below HE1.out hb)
          replace E3 := Lib.hid (blk_below E3.out hb)
          replace HBW := Lib.hid (cbt HBW.out hb)
          have NA := Lib.hid hu
          clear hb hu
          have k_HE0_0 := HE0.out.cell 0
          have k_HE0_1 := HE0.out.cell 1
          have k_HE0_2 := HE0.out.cell 2
          have k_HE0_3 := HE0.out.cell 3
          have k_HE0_4 := HE0.out.cell 4
          have k_HE0_5 := HE0.out.cell 5
          have k_HE0_6 := HE0.out.cell 6
          have k_HE1_0 := HE1.out.cell 0
          have k_HE1_1 := HE1.out.cell 1
          have k_HE1_2 := HE1.out.cell 2
          have k_HE1_3 := HE1.out.cell 3
          have k_HE1_4 := HE1.out.cell 4
          have k_HE1_5 := HE1.out.cell 5
          have k_HE1_6 := HE1.out.cell 6
          have k_HE1_7 := HE1.out.cell 7
          have k_E3_0 := E3.out.cell 0
          have k_E3_1 := E3.out.cell 1
          have k_E3_2 := E3.out.cell 2
          have k_E3_3 := E3.out.cell 3
          have k_E3_4 := E3.out.cell 4
          have k_E3_5 := E3.out.cell 5
          have k_E3_6 := E3.out.cell 6
          have k_E3_7 := E3.out.cell 7
          go_wp2_with fail
          with_reducible refine (HZ.out _ _ NA.out).mono ?_
          rintro e w1 ⟨rfl, hb⟩
          clear k_HE0_0 k_HE0_1 k_HE0_2 k_HE0_3 k_HE0_4 k_HE0_5 k_HE0_6 k_HE1_0 k_HE1_1 k_HE1_2 k_HE1_3 k_HE1_4 k_HE1_5 k_HE1_6 k_HE1_7 k_E3_0 k_E3_1 k_E3_2 k_E3_3 k_E3_4 k_E3_5 k_E3_6 k_E3_7
          replace HB5 := Lib.hid (HB5.out.below hb)
          replace F0 := Lib.hid (F0.out.below hb)
          replace F1 := Lib.hid (F1.out.below hb)
          replace F2 := Lib.hid (F2.out.below hb)
          replace F3 := Lib.hid (F3.out.below hb)
          replace NA := Lib.hid (NA.out.below hb)
          replace HE0 := Lib.hid (blk_below HE0.out hb)
          replace HE1 := Lib.hid (blk_below HE1.out hb)
          replace E3 := Lib.hid (blk_below E3.out hb)
          replace HBW := Lib.hid (cbt HBW.out hb)
          clear hb
          have k_HE0_0 := HE0.out.cell 0
          have k_HE0_1 := HE0.out.cell 1
          have k_HE0_2 := HE0.out.cell 2
          have k_HE0_3 := HE0.out.cell 3
          have k_HE0_4 := HE0.out.cell 4
          have k_HE0_5 := HE0.out.cell 5
          have k_HE0_6 := HE0.out.cell 6
          have k_HE1_0 := HE1.out.cell 0
          have k_HE1_1 := HE1.out.cell 1
          have k_HE1_2 := HE1.out.cell 2
          have k_HE1_3 := HE1.out.cell 3
          have k_HE1_4 := HE1.out.cell 4
          have k_HE1_5 := HE1.out.cell 5
          have k_HE1_6 := HE1.out.cell 6
          have k_HE1_7 := HE1.out.cell 7
          have k_E3_0 := E3.out.cell 0
          have k_E3_1 := E3.out.cell 1
          have k_E3_2 := E3.out.cell 2
          have k_E3_3 := E3.out.cell 3
          have k_E3_4 := E3.out.cell 4
          have k_E3_5 := E3.out.cell 5
          have k_E3_6 := E3.out.cell 6
          have k_E3_7 := E3.out.cell 7
          clear k_HE0_0 k_HE0_1 k_HE0_2 k_HE0_3 k_HE0_4 k_HE0_5 k_HE0_6 k_HE1_0 k_HE1_1 k_HE1_2 k_HE1_3 k_HE1_4 k_HE1_5 k_HE1_6 k_HE1_7 k_E3_0 k_E3_1 k_E3_2 k_E3_3 k_E3_4 k_E3_5 k_E3_6 k_E3_7
          have HD := Lib.hid hdk
          clear hdk
          go_wp2_with fail
          go_roundw
          case rel => exact ⟨3, 3, .inr (.inr (.inl ⟨rfl, rfl⟩)), rfl, Lib.hid ⟨_, _, _, _, _, _, _, _, _, _, _, _, _, _, _, _, _, _, _, _, _, _, _, _, E3.out, F0.out, F1.out, (by rw [show (cond (Nat.blt 2 3) d2 (0, 1)) = d2 from rfl, HD.out]; exact F2.out), F3.out⟩, HE0, HE1, HB5, HBW⟩
          case measure => simp [intOf]
        · obtain ⟨A0, p0, c0, B0, q0, e0, A1, p1, c1, B1, q1, e1, A2, p2, c2, B2, q2, e2, A3, p3, c3, B3, q3, e3, hbk, h0, h1, h2, h3⟩ := HBO.out
          have E3 := Lib.hid hbk
          have F0 := Lib.hid (show F64 wr (.agg #[.slice A0 p0 c0, .slice B0 q0 e0]) (0, 1).1 (0, 1).2 from h0)
          have F1 := Lib.hid (show F64 wr (.agg #[.slice A1 p1 c1, .slice B1 q1 e1]) d1.1 d1.2 from h1)
          have F2 := Lib.hid (show F64 wr (.agg #[.slice A2 p2 c2, .slice B2 q2 e2]) (0, 1).1 (0, 1).2 from h2)
          have F3 := Lib.hid (show F64 wr (.agg #[.slice A3 p3 c3, .slice B3 q3 e3]) (0, 1).1 (0, 1).2 from h3)
          clear hbk h0 h1 h2 h3 HBO
          have HZ := Lib.hid (fun v W h => rzero_no v m2 1 W h (Nat.pos_of_ne_zero hm))
          have HWA : Hid (∀ W, Calls Try.prog 122 #[.int .i64 3] W (MkF W 3 1)) := Lib.hid (fun W => whole_any 3 3 (by decide) (by decide) W)
          have HWB : Hid (∀ W, Calls Try.prog 122 #[.int .i64 2] W (MkF W 2 1)) := Lib.hid (fun W => whole_any 2 2 (by decide) (by decide) W)
          have sk : Sz 6 (2, 1) := sz_int (by decide)
          have sk1 : Sz 6 (3, 1) := sz_int (by decide)
          have sz1 := sk1.mul HSY.out
          have sz2 := HS3.out.div HS2.out
          have sz3 := sz1.mul sz2
          have HM1 : Hid (∀ va vb W, F64 W va 3 1 → F64 W vb y.1 y.2 → Calls Try.prog 43 #[va, vb] W (MkF W (mulR (3, 1) y).1 (mulR (3, 1) y).2)) := Lib.hid (fun va vb W h1 h2 => c_mul (a := (3, 1)) (B := 80) (by decide) (sk1.mono (by decide)) (HSY.out.mono (by decide)) h1 h2)
          have HBY2 : Hid (∀ va vb W, F64 W va m3 1 → F64 W vb m2 1 → Calls Try.prog 123 #[va, vb] W (MkF W (byR (m3, 1) (m2, 1)).1 (byR (m3, 1) (m2, 1)).2)) := Lib.hid (fun va vb W h1 h2 => by_any (a := (m3, 1)) (b := (m2, 1)) (B := 80) (by decide) (HS3.out.mono (by decide)) (HS2.out.mono (by decide)) h1 h2)
          have hby2 : byR (m3, 1) (m2, 1) = divR (m3, 1) (m2, 1) := byR_pos hm
          rw [hby2] at HBY2
          obtain ⟨z1, hz1⟩ : ∃ z, mulR (3, 1) y = z := ⟨_, rfl⟩
          obtain ⟨z2, hz2⟩ : ∃ z, divR (m3, 1) (m2, 1) = z := ⟨_, rfl⟩
          rw [hz1] at HM1 sz1 sz3 hdk
          rw [hz2] at HBY2 sz2 sz3 hdk
          have HM2 := Lib.hid (fun va vb W h1 h2 => c_mul (a := z1) (b := z2) (va := va) (vb := vb) (W := W) (B := 80) (by decide) (sz1.mono (by decide)) (sz2.mono (by decide)) h1 h2)
          obtain ⟨z3, hz3⟩ : ∃ z, mulR z1 z2 = z := ⟨_, rfl⟩
          rw [hz3] at HM2 sz3 hdk
          have HLS : Hid (∀ va vb W, F64 W va 2 1 → F64 W vb z3.1 z3.2 → Calls Try.prog 62 #[va, vb] W (MkF W (lessR (2, 1) z3).1 (lessR (2, 1) z3).2)) := Lib.hid (fun va vb W h1 h2 => c_less (a := (2, 1)) (B := 80) (by decide) (sk.mono (by decide)) (sz3.mono (by decide)) h1 h2)
          rw [← hdk] at HLS
          clear hz1 hz2 hz3 hby2 sk sk1 sz1 sz2 sz3 hdk hm
          obtain ⟨A5, p5, c5, B5, q5, e5, hb5, hF5⟩ := HB5.out
          have E5 := Lib.hid hb5
          have N5 := Lib.hid hF5
          clear hb5 hF5 HB5
          have k_HE0_0 := HE0.out.cell 0
          have k_HE0_1 := HE0.out.cell 1
          have k_HE0_2 := HE0.out.cell 2
          have k_HE0_3 := HE0.out.cell 3
          have k_HE0_4 := HE0.out.cell 4
          have k_HE0_5 := HE0.out.cell 5
          have k_HE0_6 := HE0.out.cell 6
          have k_HE1_0 := HE1.out.cell 0
          have k_HE1_1 := HE1.out.cell 1
          have k_HE1_2 := HE1.out.cell 2
          have k_HE1_3 := HE1.out.cell 3
          have k_HE1_4 := HE1.out.cell 4
          have k_HE1_5 := HE1.out.cell 5
          have k_HE1_6 := HE1.out.cell 6
          have k_HE1_7 := HE1.out.cell 7
          have k_E3_0 := E3.out.cell 0
          have k_E3_1 := E3.out.cell 1
          have k_E3_2 := E3.out.cell 2
          have k_E3_3 := E3.out.cell 3
          have k_E3_4 := E3.out.cell 4
          have k_E3_5 := E3.out.cell 5
          have k_E3_6 := E3.out.cell 6
          have k_E3_7 := E3.out.cell 7
          have k_E5_0 := E5.out.cell 0
          have k_E5_1 := E5.out.cell 1
          go_wp2_with fail
          with_reducible refine (HC2.out _ _ HE0.out).mono ?_
          rintro e w1 ⟨u, rfl, hu, hb⟩
          clear k_HE0_0 k_HE0_1 k_HE0_2 k_HE0_3 k_HE0_4 k_HE0_5 k_HE0_6 k_HE1_0 k_HE1_1 k_HE1_2 k_HE1_3 k_HE1_4 k_HE1_5 k_HE1_6 k_HE1_7 k_E3_0 k_E3_1 k_E3_2 k_E3_3 k_E3_4 k_E3_5 k_E3_6 k_E3_7 k_E5_0 k_E5_1
          replace N5 := Lib.hid (N5.out.below hb)
          replace F0 := Lib.hid (F0.out.below hb)
          replace F1 := Lib.hid (F1.out.below hb)
          replace F2 := Lib.hid (F2.out.below hb)
          replace F3 := Lib.hid (F3.out.below hb)
          replace HE0 := Lib.hid (blk_below HE0.out hb)
          replace HE1 := Lib.hid (blk_below HE1.out hb)
          replace E3 := Lib.hid (blk_below E3.out hb)
          replace E5 := Lib.hid (blk_below E5.out hb)
          replace HBW := Lib.hid (cbt HBW.out hb)
          have NA := Lib.hid hu
          clear hb hu
          have k_HE0_0 := HE0.out.cell 0
          have k_HE0_1 := HE0.out.cell 1
          have k_HE0_2 := HE0.out.cell 2
          have k_HE0_3 := HE0.out.cell 3
          have k_HE0_4 := HE0.out.cell 4
          have k_HE0_5 := HE0.out.cell 5
          have k_HE0_6 := HE0.out.cell 6
          have k_HE1_0 := HE1.out.cell 0
          have k_HE1_1 := HE1.out.cell 1
          have k_HE1_2 := HE1.out.cell 2
          have k_HE1_3 := HE1.out.cell 3
          have k_HE1_4 := HE1.out.cell 4
          have k_HE1_5 := HE1.out.cell 5
          have k_HE1_6 := HE1.out.cell 6
          have k_HE1_7 := HE1.out.cell 7
          have k_E3_0 := E3.out.cell 0
          have k_E3_1 := E3.out.cell 1
          have k_E3_2 := E3.out.cell 2
          have k_E3_3 := E3.out.cell 3
          have k_E3_4 := E3.out.cell 4
          have k_E3_5 := E3.out.cell 5
          have k_E3_6 := E3.out.cell 6
          have k_E3_7 := E3.out.cell 7
          have k_E5_0 := E5.out.cell 0
          have k_E5_1 := E5.out.cell 1
          go_wp2_with fail
          with_reducible refine (HZ.out _ _ NA.out).mono ?_
          rintro e w1 ⟨rfl, hb⟩
          clear k_HE0_0 k_HE0_1 k_HE0_2 k_HE0_3 k_HE0_4 k_HE0_5 k_HE0_6 k_HE1_0 k_HE1_1 k_HE1_2 k_HE1_3 k_HE1_4 k_HE1_5 k_HE1_6 k_HE1_7 k_E3_0 k_E3_1 k_E3_2 k_E3_3 k_E3_4 k_E3_5 k_E3_6 k_E3_7 k_E5_0 k_E5_1
          replace N5 := Lib.hid (N5.out.below hb)
          replace F0 := Lib.hid (F0.out.below hb)
          replace F1 := Lib.hid (F1.out.below hb)
          replace F2 := Lib.hid (F2.out.below hb)
          replace F3 := Lib.hid (F3.out.below hb)
          replace NA := Lib.hid (NA.out.below hb)
          replace HE0 := Lib.hid (blk_below HE0.out hb)
          replace HE1 := Lib.hid (blk_below HE1.out hb)
          replace E3 := Lib.hid (blk_below E3.out hb)
          replace E5 := Lib.hid (blk_below E5.out hb)
          replace HBW := Lib.hid (cbt HBW.out hb)
          clear hb
          have k_HE0_0 := HE0.out.cell 0
          have k_HE0_1 := HE0.out.cell 1
          have k_HE0_2 := HE0.out.cell 2
          have k_HE0_3 := HE0.out.cell 3
          have k_HE0_4 := HE0.out.cell 4
          have k_HE0_5 := HE0.out.cell 5
          have k_HE0_6 := HE0.out.cell 6
          have k_HE1_0 := HE1.out.cell 0
          have k_HE1_1 := HE1.out.cell 1
          have k_HE1_2 := HE1.out.cell 2
          have k_HE1_3 := HE1.out.cell 3
          have k_HE1_4 := HE1.out.cell 4
          have k_HE1_5 := HE1.out.cell 5
          have k_HE1_6 := HE1.out.cell 6
          have k_HE1_7 := HE1.out.cell 7
          have k_E3_0 := E3.out.cell 0
          have k_E3_1 := E3.out.cell 1
          have k_E3_2 := E3.out.cell 2
          have k_E3_3 := E3.out.cell 3
          have k_E3_4 := E3.out.cell 4
          have k_E3_5 := E3.out.cell 5
          have k_E3_6 := E3.out.cell 6
          have k_E3_7 := E3.out.cell 7
          have k_E5_0 := E5.out.cell 0
          have k_E5_1 := E5.out.cell 1
          clear NA k_HE0_0 k_HE0_1 k_HE0_2 k_HE0_3 k_HE0_4 k_HE0_5 k_HE0_6 k_HE1_0 k_HE1_1 k_HE1_2 k_HE1_3 k_HE1_4 k_HE1_5 k_HE1_6 k_HE1_7 k_E3_0 k_E3_1 k_E3_2 k_E3_3 k_E3_4 k_E3_5 k_E3_6 k_E3_7 k_E5_0 k_E5_1
          have hlt3 := E3.out.lt
          go_wp2_with fail
          let FS : List Kept1 := [.eq (.int .i64 2), .eq (.int .i64 3), .f (3) (1), .f (y.1) (y.2), .f (z1.1) (z1.2), .eq (.func (.func 121) #[] #[.pointer (some ⟨w.heap.size, 0, none⟩)]), .eq (.int .i64 2), .eq (.int .i64 3), .f (m3) (1), .eq (.func (.func 121) #[] #[.pointer (some ⟨w.heap.size, 0, none⟩)]), .eq (.int .i64 2), .f (m2) (1), .f (z2.1) (z2.2), .f (z3.1) (z3.2), .any, .any]
          let BS : List Bx := [Bx.rat (.inl 14) 15 #[.slice none 0 0, .slice none 0 0] (z3.1) (z3.2)]
          refine region_mono (Held w1 (fun j => FS.getD j .any) BS) (by kernel_rfl) (by kernel_rfl) (by kernel_rfl) (Held.start _ _ _ (by simp [BS, Bx.nat, Bx.rat, Bx.ref, Bx.part]) (by simp [BS, Bx.nat, Bx.rat, Bx.ref, Bx.part])) ?_
          refine Steps.held ?_ ?_
          · intro L v w' hJ
            go_wp2_with fail
            exact ⟨rfl, rfl, hJ.out.same (by rfl) (rfl)⟩
          simp only [Act.put, List.setIfInBounds_toArray, List.set_cons_zero, List.set_cons_succ, Nat.reduceAdd]
          refine Steps.held ?_ ?_
          · intro L v w' hJ
            have hv0 : v 0 = .int .i64 2 := hJ.out.fact 0 (by kernel_rfl)
            simp only [hv0]
            clear hv0
            go_wp2_with fail
            exact ⟨rfl, rfl, hJ.out.same (by rfl) (rfl)⟩
          simp only [Act.put, List.setIfInBounds_toArray, List.set_cons_zero, List.set_cons_succ, Nat.reduceAdd]
          refine Steps.held ?_ ?_
          · intro L v w' hJ
            have hv1 : v 1 = .int .i64 3 := hJ.out.fact 1 (by kernel_rfl)
            simp only [hv1]
            clear hv1
            go_wp2_with fail
            with_reducible refine (HWA.out _).mono ?_
            rintro e w1 ⟨u, rfl, hu, hb⟩
            go_wp2_with fail
            exact ⟨rfl, rfl, hJ.out.call (by rfl) hb (hu)⟩
          simp only [Act.put, List.setIfInBounds_toArray, List.set_cons_zero, List.set_cons_succ, Nat.reduceAdd]
          refine Steps.held ?_ ?_
          · intro L v w' hJ
            have kb := hJ.out.blk E5.out (by simp [oldsOf, BS, Bx.nat, Bx.rat, Bx.ref, Bx.part])
            have k0 := kb.cell 0
            have k1 := kb.cell 1
            clear kb
            go_wp2_with fail
            exact ⟨rfl, rfl, hJ.out.same (by rfl) (N5.out.keep hJ.out.held.keep)⟩
          simp only [Act.put, List.setIfInBounds_toArray, List.set_cons_zero, List.set_cons_succ, Nat.reduceAdd]
          refine Steps.held ?_ ?_
          · intro L v w' hJ
            have X0 := Lib.hid (show F64 w' (v 2) (3) (1) from hJ.out.fact 2 (by kernel_rfl))
            have X1 := Lib.hid (show F64 w' (v 3) (y.1) (y.2) from hJ.out.fact 3 (by kernel_rfl))
            go_wp2_with fail
            with_reducible refine (HM1.out _ _ _ X0.out X1.out).mono ?_
            rintro e w1 ⟨u, rfl, hu, hb⟩
            go_wp2_with fail
            exact ⟨rfl, rfl, hJ.out.call (by rfl) hb (hu)⟩
          simp only [Act.put, List.setIfInBounds_toArray, List.set_cons_zero, List.set_cons_succ, Nat.reduceAdd]
          refine Steps.held ?_ ?_
          · intro L v w' hJ
            go_wp2_with fail
            exact ⟨rfl, rfl, hJ.out.same (by rfl) (rfl)⟩
          simp only [Act.put, List.setIfInBounds_toArray, List.set_cons_zero, List.set_cons_succ, Nat.reduceAdd]
          refine Steps.held ?_ ?_
          · intro L v w' hJ
            go_wp2_with fail
            exact ⟨rfl, rfl, hJ.out.same (by rfl) (rfl)⟩
          simp only [Act.put, List.setIfInBounds_toArray, List.set_cons_zero, List.set_cons_succ, Nat.reduceAdd]
          refine Steps.held ?_ ?_
          · intro L v w' hJ
            have hv6 : v 6 = .int .i64 2 := hJ.out.fact 6 (by kernel_rfl)
            simp only [hv6]
            clear hv6
            go_wp2_with fail
            exact ⟨rfl, rfl, hJ.out.same (by rfl) (rfl)⟩
          simp only [Act.put, List.setIfInBounds_toArray, List.set_cons_zero, List.set_cons_succ, Nat.reduceAdd]
          refine Steps.held ?_ ?_
          · intro L v w' hJ
            have hv5 : v 5 = .func (.func 121) #[] #[.pointer (some ⟨w.heap.size, 0, none⟩)] := hJ.out.fact 5 (by kernel_rfl)
            simp only [hv5]
            clear hv5
            have hv7 : v 7 = .int .i64 3 := hJ.out.fact 7 (by kernel_rfl)
            simp only [hv7]
            clear hv7
            have kbc := hJ.out.blk HE0.out (by simp [oldsOf, BS, Bx.nat, Bx.rat, Bx.ref, Bx.part] <;> omega)
            go_wp2_with fail
            with_reducible refine (HC3.out _ _ kbc).mono ?_
            rintro e w1 ⟨u, rfl, hu, hb⟩
            go_wp2_with fail
            exact ⟨rfl, rfl, hJ.out.call (by rfl) hb (hu)⟩
          simp only [Act.put, List.setIfInBounds_toArray, List.set_cons_zero, List.set_cons_succ, Nat.reduceAdd]
          refine Steps.held ?_ ?_
          · intro L v w' hJ
            go_wp2_with fail
            exact ⟨rfl, rfl, hJ.out.same (by rfl) (rfl)⟩
          simp only [Act.put, List.setIfInBounds_toArray, List.set_cons_zero, List.set_cons_succ, Nat.reduceAdd]
          refine Steps.held ?_ ?_
          · intro L v w' hJ
            go_wp2_with fail
            exact ⟨rfl, rfl, hJ.out.same (by rfl) (rfl)⟩
          simp only [Act.put, List.setIfInBounds_toArray, List.set_cons_zero, List.set_cons_succ, Nat.reduceAdd]
          refine Steps.held ?_ ?_
          · intro L v w' hJ
            have hv9 : v 9 = .func (.func 121) #[] #[.pointer (some ⟨w.heap.size, 0, none⟩)] := hJ.out.fact 9 (by kernel_rfl)
            simp only [hv9]
            clear hv9
            have hv10 : v 10 = .int .i64 2 := hJ.out.fact 10 (by kernel_rfl)
            simp only [hv10]
            clear hv10
            have kbc := hJ.out.blk HE0.out (by simp [oldsOf, BS, Bx.nat, Bx.rat, Bx.ref, Bx.part] <;> omega)
            go_wp2_with fail
            with_reducible refine (HC2.out _ _ kbc).mono ?_
            rintro e w1 ⟨u, rfl, hu, hb⟩
            go_wp2_with fail
            exact ⟨rfl, rfl, hJ.out.call (by rfl) hb (hu)⟩
          simp only [Act.put, List.setIfInBounds_toArray, List.set_cons_zero, List.set_cons_succ, Nat.reduceAdd]
          refine Steps.held ?_ ?_
          · intro L v w' hJ
            have X0 := Lib.hid (show F64 w' (v 8) (m3) (1) from hJ.out.fact 8 (by kernel_rfl))
            have X1 := Lib.hid (show F64 w' (v 11) (m2) (1) from hJ.out.fact 11 (by kernel_rfl))
            go_wp2_with fail
            with_reducible refine (HBY2.out _ _ _ X0.out X1.out).mono ?_
            rintro e w1 ⟨u, rfl, hu, hb⟩
            go_wp2_with fail
            exact ⟨rfl, rfl, hJ.out.call (by rfl) hb (hu)⟩
          simp only [Act.put, List.setIfInBounds_toArray, List.set_cons_zero, List.set_cons_succ, Nat.reduceAdd]
          refine Steps.held ?_ ?_
          · intro L v w' hJ
            have X0 := Lib.hid (show F64 w' (v 4) (z1.1) (z1.2) from hJ.out.fact 4 (by kernel_rfl))
            have X1 := Lib.hid (show F64 w' (v 12) (z2.1) (z2.2) from hJ.out.fact 12 (by kernel_rfl))
            go_wp2_with fail
            with_reducible refine (HM2.out _ _ _ X0.out X1.out).mono ?_
            rintro e w1 ⟨u, rfl, hu, hb⟩
            go_wp2_with fail
            exact ⟨rfl, rfl, hJ.out.call (by rfl) hb (hu)⟩
          simp only [Act.put, List.setIfInBounds_toArray, List.set_cons_zero, List.set_cons_succ, Nat.reduceAdd]
          refine Steps.held ?_ ?_
          · intro L v w' hJ
            go_wp2_with fail
            exact ⟨rfl, rfl, hJ.out.made 0 _ rfl rfl (by rfl) trivial⟩
          simp only [Act.put, List.setIfInBounds_toArray, List.set_cons_zero, List.set_cons_succ, Nat.reduceAdd]
          refine Steps.held ?_ ?_
          · intro L v w' hJ
            obtain ⟨g, hg, hge, hown, hst⟩ := hJ.out.newbox 0 _ rfl 14 rfl (by kernel_rfl)
            have hN : F64 w' (v 13) (z3.1) (z3.2) := hJ.out.fact 13 (by kernel_rfl)
            obtain ⟨A1, p1, c1, B1, q1, e1, x1, hv, h1, h2, h3⟩ := hN
            have HN := Lib.hid (show F64 w' (.agg #[.slice A1 p1 c1, .slice B1 q1 e1]) (z3.1) (z3.2) from ⟨A1, p1, c1, B1, q1, e1, x1, rfl, h1, h2, h3⟩)
            have kb := hJ.out.box 0 _ rfl rfl g hown
            have k0 : w'.cell? ⟨g, 0, none⟩ = some (.slice none 0 0) := kb.cell 0
            have k1 : w'.cell? ⟨g, 1, none⟩ = some (.slice none 0 0) := kb.cell 1
            have f0 := kb.frozen 0
            have f1 := kb.frozen 1
            have HO := Lib.hid hown
            have HS := Lib.hid hst
            clear kb h1 h2 h3 hown hst
            simp only [hg, hv]
            clear hg hv
            go_wp2_with fail
            exact ⟨rfl, rfl, hJ.out.fill2 0 _ rfl rfl (by rfl) g HO.out HS.out _ _ rfl rfl rfl (fun W k => HN.out.keep k) (fun _ => trivial)⟩
          simp only [Act.put, List.setIfInBounds_toArray, List.set_cons_zero, List.set_cons_succ, Nat.reduceAdd]
          refine Steps.nil ?_
          intro v w' hJ
          obtain ⟨g7, cs14, hv14, hge14, hb14, hf14⟩ := hJ.end_new 0 _ rfl 14 rfl (by decide) (Nat.le_of_ble_eq_true rfl)
          have hfx : F64 w' (.agg cs14) z3.1 z3.2 := hf14
          obtain ⟨A14, p14, c14, B14, q14, e14, x14, hcs14, h1, h2, h3⟩ := hfx
          have hcs14' := Value.agg.inj hcs14
          subst hcs14'
          simp only [hv14]
          have E7 := Lib.hid (show Blk w' g7 47 #[.slice A14 p14 c14, .slice B14 q14 e14] from hb14)
          have NE7 := Lib.hid (show F64 w' (.agg #[.slice A14 p14 c14, .slice B14 q14 e14]) z3.1 z3.2 from hf14)
          clear hv14 hb14 hf14 hcs14 h1 h2
          have hbr := hJ.but.below
          replace N5 := Lib.hid (N5.out.below hbr)
          replace F0 := Lib.hid (F0.out.below hbr)
          replace F1 := Lib.hid (F1.out.below hbr)
          replace F2 := Lib.hid (F2.out.below hbr)
          replace F3 := Lib.hid (F3.out.below hbr)
          replace HE0 := Lib.hid (blk_below HE0.out hbr)
          replace HE1 := Lib.hid (blk_below HE1.out hbr)
          replace E3 := Lib.hid (blk_below E3.out hbr)
          replace E5 := Lib.hid (blk_below E5.out hbr)
          replace HBW := Lib.hid (cbt HBW.out hbr)
          clear hJ hbr
          go_wp2_with fail
          let FS : List Kept1 := [.eq (.int .i64 2), .eq (.int .i64 2), .f (2) (1), .f (z3.1) (z3.2), .f (d2.1) (d2.2), .eq (.pointer (some ⟨w.heap.size + 1 + 1, 0, none⟩)), .eq (.pointer (some ⟨w.heap.size + 1 + 1, 4, none⟩)), .any]
          let BS : List Bx := [Bx.part F64 keepF (.inr (w.heap.size + 1 + 1)) 7 99 #[.slice A0 p0 c0, .slice B0 q0 e0, .slice A1 p1 c1, .slice B1 q1 e1, .slice A2 p2 c2, .slice B2 q2 e2, .slice A3 p3 c3, .slice B3 q3 e3] 4 (d2.1) (d2.2)]
          refine region_mono (Held w' (fun j => FS.getD j .any) BS) (by kernel_rfl) (by kernel_rfl) (by kernel_rfl) (Held.start _ _ _ (by simp [BS, Bx.nat, Bx.rat, Bx.ref, Bx.part] <;> exact E3.out) (by simp [BS, Bx.nat, Bx.rat, Bx.ref, Bx.part])) ?_
          refine Steps.held ?_ ?_
          · intro L v w' hJ
            go_wp2_with fail
            exact ⟨rfl, rfl, hJ.out.same (by rfl) (rfl)⟩
          simp only [Act.put, List.setIfInBounds_toArray, List.set_cons_zero, List.set_cons_succ, Nat.reduceAdd]
          refine Steps.held ?_ ?_
          · intro L v w' hJ
            go_wp2_with fail
            exact ⟨rfl, rfl, hJ.out.same (by rfl) (rfl)⟩
          simp only [Act.put, List.setIfInBounds_toArray, List.set_cons_zero, List.set_cons_succ, Nat.reduceAdd]
          refine Steps.held ?_ ?_
          · intro L v w' hJ
            have hv1 : v 1 = .int .i64 2 := hJ.out.fact 1 (by kernel_rfl)
            simp only [hv1]
            clear hv1
            go_wp2_with fail
            with_reducible refine (HWB.out _).mono ?_
            rintro e w1 ⟨u, rfl, hu, hb⟩
            go_wp2_with fail
            exact ⟨rfl, rfl, hJ.out.call (by rfl) hb (hu)⟩
          simp only [Act.put, List.setIfInBounds_toArray, List.set_cons_zero, List.set_cons_succ, Nat.reduceAdd]
          refine Steps.held ?_ ?_
          · intro L v w' hJ
            have kb := hJ.out.blk E7.out (by simp [oldsOf, BS, Bx.nat, Bx.rat, Bx.ref, Bx.part] <;> omega)
            have k0 := kb.cell 0
            have k1 := kb.cell 1
            clear kb
            go_wp2_with fail
            exact ⟨rfl, rfl, hJ.out.same (by rfl) (NE7.out.keep hJ.out.held.keep)⟩
          simp only [Act.put, List.setIfInBounds_toArray, List.set_cons_zero, List.set_cons_succ, Nat.reduceAdd]
          refine Steps.held ?_ ?_
          · intro L v w' hJ
            have X0 := Lib.hid (show F64 w' (v 2) (2) (1) from hJ.out.fact 2 (by kernel_rfl))
            have X1 := Lib.hid (show F64 w' (v 3) (z3.1) (z3.2) from hJ.out.fact 3 (by kernel_rfl))
            go_wp2_with fail
            with_reducible refine (HLS.out _ _ _ X0.out X1.out).mono ?_
            rintro e w1 ⟨u, rfl, hu, hb⟩
            go_wp2_with fail
            exact ⟨rfl, rfl, hJ.out.call (by rfl) hb (hu)⟩
          simp only [Act.put, List.setIfInBounds_toArray, List.set_cons_zero, List.set_cons_succ, Nat.reduceAdd]
          refine Steps.held ?_ ?_
          · intro L v w' hJ
            go_wp2_with fail
            exact ⟨rfl, rfl, hJ.out.same (by rfl) (rfl)⟩
          simp only [Act.put, List.setIfInBounds_toArray, List.set_cons_zero, List.set_cons_succ, Nat.reduceAdd]
          refine Steps.held ?_ ?_
          · intro L v w' hJ
            have hv5 : v 5 = .pointer (some ⟨w.heap.size + 1 + 1, 0, none⟩) := hJ.out.fact 5 (by kernel_rfl)
            simp only [hv5]
            clear hv5
            have hv0 : v 0 = .int .i64 2 := hJ.out.fact 0 (by kernel_rfl)
            simp only [hv0]
            clear hv0
            go_wp2_with fail
            exact ⟨rfl, rfl, hJ.out.same (by rfl) (rfl)⟩
          simp only [Act.put, List.setIfInBounds_toArray, List.set_cons_zero, List.set_cons_succ, Nat.reduceAdd]
          refine Steps.held ?_ ?_
          · intro L v w' hJ
            obtain ⟨hown, hst⟩ := hJ.out.oldbox 0 _ rfl (w.heap.size + 1 + 1) rfl
            have hN : F64 w' (v 4) (d2.1) (d2.2) := hJ.out.fact 4 (by kernel_rfl)
            obtain ⟨AW, pW, cW, BW, qW, eW, xW, hv, h1, h2, h3⟩ := hN
            have HN := Lib.hid (show F64 w' (.agg #[.slice AW pW cW, .slice BW qW eW]) (d2.1) (d2.2) from ⟨AW, pW, cW, BW, qW, eW, xW, rfl, h1, h2, h3⟩)
            have kb := hJ.out.box 0 _ rfl rfl (w.heap.size + 1 + 1) hown
            have k0 : w'.cell? ⟨w.heap.size + 1 + 1, 4, none⟩ = some (.slice A2 p2 c2) := kb.cell 4
            have k1 : w'.cell? ⟨w.heap.size + 1 + 1, 5, none⟩ = some (.slice B2 q2 e2) := kb.cell 5
            have f0 := kb.frozen 4
            have f1 := kb.frozen 5
            have HO := Lib.hid hown
            have HS := Lib.hid hst
            clear kb h1 h2 h3 hown hst
            have hv6 : v 6 = .pointer (some ⟨w.heap.size + 1 + 1, 4, none⟩) := hJ.out.fact 6 (by kernel_rfl)
            simp only [hv6]
            clear hv6
            simp only [hv]
            clear hv
            go_wp2_with fail
            exact ⟨rfl, rfl, hJ.out.fillAt 0 _ rfl rfl (by rfl) (w.heap.size + 1 + 1) HO.out HS.out 4 _ _ rfl rfl (fun W k => ⟨AW, pW, cW, BW, qW, eW, rfl, HN.out.keep k⟩) (fun _ => trivial)⟩
          simp only [Act.put, List.setIfInBounds_toArray, List.set_cons_zero, List.set_cons_succ, Nat.reduceAdd]
          refine Steps.nil ?_
          intro v w' hJ
          obtain ⟨cs, hblk, A1x, p1x, c1x, B1x, q1x, e1x, hcs, hf⟩ := hJ.end_old 0 _ rfl (w.heap.size + 1 + 1) rfl (Nat.le_of_ble_eq_true rfl)
          subst hcs
          have hblk' := Lib.hid (show Blk w' (w.heap.size + 1 + 1) 99 #[.slice A0 p0 c0, .slice B0 q0 e0, .slice A1 p1 c1, .slice B1 q1 e1, .slice A1x p1x c1x, .slice B1x q1x e1x, .slice A3 p3 c3, .slice B3 q3 e3] from hblk)
          have hF := Lib.hid hf
          have hk2 := hJ.keep
          replace N5 := Lib.hid (N5.out.keep hk2)
          replace F0 := Lib.hid (F0.out.keep hk2)
          replace F1 := Lib.hid (F1.out.keep hk2)
          replace F2 := Lib.hid (F2.out.keep hk2)
          replace F3 := Lib.hid (F3.out.keep hk2)
          replace HE0 := Lib.hid (hJ.but.blk HE0.out (by simp [oldsOf, BS, Bx.nat, Bx.rat, Bx.ref, Bx.part] <;> omega))
          replace HE1 := Lib.hid (hJ.but.blk HE1.out (by simp [oldsOf, BS, Bx.nat, Bx.rat, Bx.ref, Bx.part] <;> omega))
          replace E5 := Lib.hid (hJ.but.blk E5.out (by simp [oldsOf, BS, Bx.nat, Bx.rat, Bx.ref, Bx.part] <;> omega))
          replace HBW := Lib.hid (hJ.but.to_below HBW.out HBW.out.size (by intro g hg; simp [oldsOf, BS, Bx.nat, Bx.rat, Bx.ref, Bx.part] at hg; subst hg; omega))
          have HB5 := Lib.hid (show BoxF w' g5 y.1 y.2 from ⟨_, _, _, _, _, _, E5.out, N5.out⟩)
          clear hJ hf hblk hk2
          go_wp2_with fail
          go_roundw
          case rel => exact ⟨3, 3, .inr (.inr (.inl ⟨rfl, rfl⟩)), rfl, Lib.hid ⟨_, _, _, _, _, _, _, _, _, _, _, _, _, _, _, _, _, _, _, _, _, _, _, _, hblk'.out, F0.out, F1.out, hF.out, F3.out⟩, HE0, HE1, HB5, HBW⟩
          case measure => simp [intOf]
      · rcases HD3.out with ⟨hm, hdk⟩ | ⟨hm, hdk⟩
        · obtain ⟨A0, p0, c0, B0, q0, e0, A1, p1, c1, B1, q1, e1, A2, p2, c2, B2, q2, e2, A3, p3, c3, B3, q3, e3, hbk, h0, h1, h2, h3⟩ := HBO.out
          have E3 := Lib.hid hbk
          have F0 := Lib.hid (show F64 wr (.agg #[.slice A0 p0 c0, .slice B0 q0 e0]) (0, 1).1 (0, 1).2 from h0)
          have F1 := Lib.hid (show F64 wr (.agg #[.slice A1 p1 c1, .slice B1 q1 e1]) d1.1 d1.2 from h1)
          have F2 := Lib.hid (show F64 wr (.agg #[.slice A2 p2 c2, .slice B2 q2 e2]) d2.1 d2.2 from h2)
          have F3 := Lib.hid (show F64 wr (.agg #[.slice A3 p3 c3, .slice B3 q3 e3]) (0, 1).1 (0, 1).2 from h3)
          clear hbk h0 h1 h2 h3 HBO
          have HZ := Lib.hid (fun v W h => rzero_yes v m3 1 W h hm)
          clear hm
          have k_HE0_0 := HE0.out.cell 0
          have k_HE0_1 := HE0.out.cell 1
          have k_HE0_2 := HE0.out.cell 2
          have k_HE0_3 := HE0.out.cell 3
          have k_HE0_4 := HE0.out.cell 4
          have k_HE0_5 := HE0.out.cell 5
          have k_HE0_6 := HE0.out.cell 6
          have k_HE1_0 := HE1.out.cell 0
          have k_HE1_1 := HE1.out.cell 1
          have k_HE1_2 := HE1.out.cell 2
          have k_HE1_3 := HE1.out.cell 3
          have k_HE1_4 := HE1.out.cell 4
          have k_HE1_5 := HE1.out.cell 5
          have k_HE1_6 := HE1.out.cell 6
          have k_HE1_7 := HE1.out.cell 7
          have k_E3_0 := E3.out.cell 0
          have k_E3_1 := E3.out.cell 1
          have k_E3_2 := E3.out.cell 2
          have k_E3_3 := E3.out.cell 3
          have k_E3_4 := E3.out.cell 4
          have k_E3_5 := E3.out.cell 5
          have k_E3_6 := E3.out.cell 6
          have k_E3_7 := E3.out.cell 7
          go_wp2_with fail
          with_reducible refine (HC3.out _ _ HE0.out).mono ?_
          rintro e w1 ⟨u, rfl, hu, hb⟩
          clear k_HE0_0 k_HE0_1 k_HE0_2 k_HE0_3 k_HE0_4 k_HE0_5 k_HE0_6 k_HE1_0 k_HE1_1 k_HE1_2 k_HE1_3 k_HE1_4 k_HE1_5 k_HE1_6 k_HE1_7 k_E3_0 k_E3_1 k_E3_2 k_E3_3 k_E3_4 k_E3_5 k_E3_6 k_E3_7
          replace HB5 := Lib.hid (HB5.out.below hb)
          replace F0 := Lib.hid (F0.out.below hb)
          replace F1 := Lib.hid (F1.out.below hb)
          replace F2 := Lib.hid (F2.out.below hb)
          replace F3 := Lib.hid (F3.out.below hb)
          replace HE0 := Lib.hid (blk_below HE0.out hb)
          replace HE1 := Lib.hid (blk_below HE1.out hb)
          replace E3 := Lib.hid (blk_below E3.out hb)
          replace HBW := Lib.hid (cbt HBW.out hb)
          have NA := Lib.hid hu
          clear hb hu
          have k_HE0_0 := HE0.out.cell 0
          have k_HE0_1 := HE0.out.cell 1
          have k_HE0_2 := HE0.out.cell 2
          have k_HE0_3 := HE0.out.cell 3
          have k_HE0_4 := HE0.out.cell 4
          have k_HE0_5 := HE0.out.cell 5
          have k_HE0_6 := HE0.out.cell 6
          have k_HE1_0 := HE1.out.cell 0
          have k_HE1_1 := HE1.out.cell 1
          have k_HE1_2 := HE1.out.cell 2
          have k_HE1_3 := HE1.out.cell 3
          have k_HE1_4 := HE1.out.cell 4
          have k_HE1_5 := HE1.out.cell 5
          have k_HE1_6 := HE1.out.cell 6
          have k_HE1_7 := HE1.out.cell 7
          have k_E3_0 := E3.out.cell 0
          have k_E3_1 := E3.out.cell 1
          have k_E3_2 := E3.out.cell 2
          have k_E3_3 := E3.out.cell 3
          have k_E3_4 := E3.out.cell 4
          have k_E3_5 := E3.out.cell 5
          have k_E3_6 := E3.out.cell 6
          have k_E3_7 := E3.out.cell 7
          go_wp2_with fail
          with_reducible refine (HZ.out _ _ NA.out).mono ?_
          rintro e w1 ⟨rfl, hb⟩
          clear k_HE0_0 k_HE0_1 k_HE0_2 k_HE0_3 k_HE0_4 k_HE0_5 k_HE0_6 k_HE1_0 k_HE1_1 k_HE1_2 k_HE1_3 k_HE1_4 k_HE1_5 k_HE1_6 k_HE1_7 k_E3_0 k_E3_1 k_E3_2 k_E3_3 k_E3_4 k_E3_5 k_E3_6 k_E3_7
          replace HB5 := Lib.hid (HB5.out.below hb)
          replace F0 := Lib.hid (F0.out.below hb)
          replace F1 := Lib.hid (F1.out.below hb)
          replace F2 := Lib.hid (F2.out.below hb)
          replace F3 := Lib.hid (F3.out.below hb)
          replace NA := Lib.hid (NA.out.below hb)
          replace HE0 := Lib.hid (blk_below HE0.out hb)
          replace HE1 := Lib.hid (blk_below HE1.out hb)
          replace E3 := Lib.hid (blk_below E3.out hb)
          replace HBW := Lib.hid (cbt HBW.out hb)
          clear hb
          have k_HE0_0 := HE0.out.cell 0
          have k_HE0_1 := HE0.out.cell 1
          have k_HE0_2 := HE0.out.cell 2
          have k_HE0_3 := HE0.out.cell 3
          have k_HE0_4 := HE0.out.cell 4
          have k_HE0_5 := HE0.out.cell 5
          have k_HE0_6 := HE0.out.cell 6
          have k_HE1_0 := HE1.out.cell 0
          have k_HE1_1 := HE1.out.cell 1
          have k_HE1_2 := HE1.out.cell 2
          have k_HE1_3 := HE1.out.cell 3
          have k_HE1_4 := HE1.out.cell 4
          have k_HE1_5 := HE1.out.cell 5
          have k_HE1_6 := HE1.out.cell 6
          have k_HE1_7 := HE1.out.cell 7
          have k_E3_0 := E3.out.cell 0
          have k_E3_1 := E3.out.cell 1
          have k_E3_2 := E3.out.cell 2
          have k_E3_3 := E3.out.cell 3
          have k_E3_4 := E3.out.cell 4
          have k_E3_5 := E3.out.cell 5
          have k_E3_6 := E3.out.cell 6
          have k_E3_7 := E3.out.cell 7
          clear k_HE0_0 k_HE0_1 k_HE0_2 k_HE0_3 k_HE0_4 k_HE0_5 k_HE0_6 k_HE1_0 k_HE1_1 k_HE1_2 k_HE1_3 k_HE1_4 k_HE1_5 k_HE1_6 k_HE1_7 k_E3_0 k_E3_1 k_E3_2 k_E3_3 k_E3_4 k_E3_5 k_E3_6 k_E3_7
          have HD := Lib.hid hdk
          clear hdk
          go_wp2_with fail
          go_roundw
          case rel => exact ⟨4, 4, .inr (.inr (.inr ⟨rfl, rfl⟩)), rfl, Lib.hid ⟨_, _, _, _, _, _, _, _, _, _, _, _, _, _, _, _, _, _, _, _, _, _, _, _, E3.out, F0.out, F1.out, F2.out, (by rw [show (cond (Nat.blt 3 4) d3 (0, 1)) = d3 from rfl, HD.out]; exact F3.out)⟩, HE0, HE1, HB5, HBW⟩
          case measure => simp [intOf]
        · obtain ⟨A0, p0, c0, B0, q0, e0, A1, p1, c1, B1, q1, e1, A2, p2, c2, B2, q2, e2, A3, p3, c3, B3, q3, e3, hbk, h0, h1, h2, h3⟩ := HBO.out
          have E3 := Lib.hid hbk
          have F0 := Lib.hid (show F64 wr (.agg #[.slice A0 p0 c0, .slice B0 q0 e0]) (0, 1).1 (0, 1).2 from h0)
          have F1 := Lib.hid (show F64 wr (.agg #[.slice A1 p1 c1, .slice B1 q1 e1]) d1.1 d1.2 from h1)
          have F2 := Lib.hid (show F64 wr (.agg #[.slice A2 p2 c2, .slice B2 q2 e2]) d2.1 d2.2 from h2)
          have F3 := Lib.hid (show F64 wr (.agg #[.slice A3 p3 c3, .slice B3 q3 e3]) (0, 1).1 (0, 1).2 from h3)
          clear hbk h0 h1 h2 h3 HBO
          have HZ := Lib.hid (fun v W h => rzero_no v m3 1 W h (Nat.pos_of_ne_zero hm))
          have HWA : Hid (∀ W, Calls Try.prog 122 #[.int .i64 4] W (MkF W 4 1)) := Lib.hid (fun W => whole_any 4 4 (by decide) (by decide) W)
          have HWB : Hid (∀ W, Calls Try.prog 122 #[.int .i64 3] W (MkF W 3 1)) := Lib.hid (fun W => whole_any 3 3 (by decide) (by decide) W)
          have sk : Sz 6 (3, 1) := sz_int (by decide)
          have sk1 : Sz 6 (4, 1) := sz_int (by decide)
          have sz1 := sk1.mul HSY.out
          have sz2 := HS4.out.div HS3.out
          have sz3 := sz1.mul sz2
          have HM1 : Hid (∀ va vb W, F64 W va 4 1 → F64 W vb y.1 y.2 → Calls Try.prog 43 #[va, vb] W (MkF W (mulR (4, 1) y).1 (mulR (4, 1) y).2)) := Lib.hid (fun va vb W h1 h2 => c_mul (a := (4, 1)) (B := 80) (by decide) (sk1.mono (by decide)) (HSY.out.mono (by decide)) h1 h2)
          have HBY2 : Hid (∀ va vb W, F64 W va m4 1 → F64 W vb m3 1 → Calls Try.prog 123 #[va, vb] W (MkF W (byR (m4, 1) (m3, 1)).1 (byR (m4, 1) (m3, 1)).2)) := Lib.hid (fun va vb W h1 h2 => by_any (a := (m4, 1)) (b := (m3, 1)) (B := 80) (by decide) (HS4.out.mono (by decide)) (HS3.out.mono (by decide)) h1 h2)
          have hby2 : byR (m4, 1) (m3, 1) = divR (m4, 1) (m3, 1) := byR_pos hm
          rw [hby2] at HBY2
          obtain ⟨z1, hz1⟩ : ∃ z, mulR (4, 1) y = z := ⟨_, rfl⟩
          obtain ⟨z2, hz2⟩ : ∃ z, divR (m4, 1) (m3, 1) = z := ⟨_, rfl⟩
          rw [hz1] at HM1 sz1 sz3 hdk
          rw [hz2] at HBY2 sz2 sz3 hdk
          have HM2 := Lib.hid (fun va vb W h1 h2 => c_mul (a := z1) (b := z2) (va := va) (vb := vb) (W := W) (B := 80) (by decide) (sz1.mono (by decide)) (sz2.mono (by decide)) h1 h2)
          obtain ⟨z3, hz3⟩ : ∃ z, mulR z1 z2 = z := ⟨_, rfl⟩
          rw [hz3] at HM2 sz3 hdk
          have HLS : Hid (∀ va vb W, F64 W va 3 1 → F64 W vb z3.1 z3.2 → Calls Try.prog 62 #[va, vb] W (MkF W (lessR (3, 1) z3).1 (lessR (3, 1) z3).2)) := Lib.hid (fun va vb W h1 h2 => c_less (a := (3, 1)) (B := 80) (by decide) (sk.mono (by decide)) (sz3.mono (by decide)) h1 h2)
          rw [← hdk] at HLS
          clear hz1 hz2 hz3 hby2 sk sk1 sz1 sz2 sz3 hdk hm
          obtain ⟨A5, p5, c5, B5, q5, e5, hb5, hF5⟩ := HB5.out
          have E5 := Lib.hid hb5
          have N5 := Lib.hid hF5
          clear hb5 hF5 HB5
          have k_HE0_0 := HE0.out.cell 0
          have k_HE0_1 := HE0.out.cell 1
          have k_HE0_2 := HE0.out.cell 2
          have k_HE0_3 := HE0.out.cell 3
          have k_HE0_4 := HE0.out.cell 4
          have k_HE0_5 := HE0.out.cell 5
          have k_HE0_6 := HE0.out.cell 6
          have k_HE1_0 := HE1.out.cell 0
          have k_HE1_1 := HE1.out.cell 1
          have k_HE1_2 := HE1.out.cell 2
          have k_HE1_3 := HE1.out.cell 3
          have k_HE1_4 := HE1.out.cell 4
          have k_HE1_5 := HE1.out.cell 5
          have k_HE1_6 := HE1.out.cell 6
          have k_HE1_7 := HE1.out.cell 7
          have k_E3_0 := E3.out.cell 0
          have k_E3_1 := E3.out.cell 1
          have k_E3_2 := E3.out.cell 2
          have k_E3_3 := E3.out.cell 3
          have k_E3_4 := E3.out.cell 4
          have k_E3_5 := E3.out.cell 5
          have k_E3_6 := E3.out.cell 6
          have k_E3_7 := E3.out.cell 7
          have k_E5_0 := E5.out.cell 0
          have k_E5_1 := E5.out.cell 1
          go_wp2_with fail
          with_reducible refine (HC3.out _ _ HE0.out).mono ?_
          rintro e w1 ⟨u, rfl, hu, hb⟩
          clear k_HE0_0 k_HE0_1 k_HE0_2 k_HE0_3 k_HE0_4 k_HE0_5 k_HE0_6 k_HE1_0 k_HE1_1 k_HE1_2 k_HE1_3 k_HE1_4 k_HE1_5 k_HE1_6 k_HE1_7 k_E3_0 k_E3_1 k_E3_2 k_E3_3 k_E3_4 k_E3_5 k_E3_6 k_E3_7 k_E5_0 k_E5_1
          replace N5 := Lib.hid (N5.out.below hb)
          replace F0 := Lib.hid (F0.out.below hb)
          replace F1 := Lib.hid (F1.out.below hb)
          replace F2 := Lib.hid (F2.out.below hb)
          replace F3 := Lib.hid (F3.out.below hb)
          replace HE0 := Lib.hid (blk_below HE0.out hb)
          replace HE1 := Lib.hid (blk_below HE1.out hb)
          replace E3 := Lib.hid (blk_below E3.out hb)
          replace E5 := Lib.hid (blk_below E5.out hb)
          replace HBW := Lib.hid (cbt HBW.out hb)
          have NA := Lib.hid hu
          clear hb hu
          have k_HE0_0 := HE0.out.cell 0
          have k_HE0_1 := HE0.out.cell 1
          have k_HE0_2 := HE0.out.cell 2
          have k_HE0_3 := HE0.out.cell 3
          have k_HE0_4 := HE0.out.cell 4
          have k_HE0_5 := HE0.out.cell 5
          have k_HE0_6 := HE0.out.cell 6
          have k_HE1_0 := HE1.out.cell 0
          have k_HE1_1 := HE1.out.cell 1
          have k_HE1_2 := HE1.out.cell 2
          have k_HE1_3 := HE1.out.cell 3
          have k_HE1_4 := HE1.out.cell 4
          have k_HE1_5 := HE1.out.cell 5
          have k_HE1_6 := HE1.out.cell 6
          have k_HE1_7 := HE1.out.cell 7
          have k_E3_0 := E3.out.cell 0
          have k_E3_1 := E3.out.cell 1
          have k_E3_2 := E3.out.cell 2
          have k_E3_3 := E3.out.cell 3
          have k_E3_4 := E3.out.cell 4
          have k_E3_5 := E3.out.cell 5
          have k_E3_6 := E3.out.cell 6
          have k_E3_7 := E3.out.cell 7
          have k_E5_0 := E5.out.cell 0
          have k_E5_1 := E5.out.cell 1
          go_wp2_with fail
          with_reducible refine (HZ.out _ _ NA.out).mono ?_
          rintro e w1 ⟨rfl, hb⟩
          clear k_HE0_0 k_HE0_1 k_HE0_2 k_HE0_3 k_HE0_4 k_HE0_5 k_HE0_6 k_HE1_0 k_HE1_1 k_HE1_2 k_HE1_3 k_HE1_4 k_HE1_5 k_HE1_6 k_HE1_7 k_E3_0 k_E3_1 k_E3_2 k_E3_3 k_E3_4 k_E3_5 k_E3_6 k_E3_7 k_E5_0 k_E5_1
          replace N5 := Lib.hid (N5.out.below hb)
          replace F0 := Lib.hid (F0.out.below hb)
          replace F1 := Lib.hid (F1.out.below hb)
          replace F2 := Lib.hid (F2.out.below hb)
          replace F3 := Lib.hid (F3.out.below hb)
          replace NA := Lib.hid (NA.out.below hb)
          replace HE0 := Lib.hid (blk_below HE0.out hb)
          replace HE1 := Lib.hid (blk_below HE1.out hb)
          replace E3 := Lib.hid (blk_below E3.out hb)
          replace E5 := Lib.hid (blk_below E5.out hb)
          replace HBW := Lib.hid (cbt HBW.out hb)
          clear hb
          have k_HE0_0 := HE0.out.cell 0
          have k_HE0_1 := HE0.out.cell 1
          have k_HE0_2 := HE0.out.cell 2
          have k_HE0_3 := HE0.out.cell 3
          have k_HE0_4 := HE0.out.cell 4
          have k_HE0_5 := HE0.out.cell 5
          have k_HE0_6 := HE0.out.cell 6
          have k_HE1_0 := HE1.out.cell 0
          have k_HE1_1 := HE1.out.cell 1
          have k_HE1_2 := HE1.out.cell 2
          have k_HE1_3 := HE1.out.cell 3
          have k_HE1_4 := HE1.out.cell 4
          have k_HE1_5 := HE1.out.cell 5
          have k_HE1_6 := HE1.out.cell 6
          have k_HE1_7 := HE1.out.cell 7
          have k_E3_0 := E3.out.cell 0
          have k_E3_1 := E3.out.cell 1
          have k_E3_2 := E3.out.cell 2
          have k_E3_3 := E3.out.cell 3
          have k_E3_4 := E3.out.cell 4
          have k_E3_5 := E3.out.cell 5
          have k_E3_6 := E3.out.cell 6
          have k_E3_7 := E3.out.cell 7
          have k_E5_0 := E5.out.cell 0
          have k_E5_1 := E5.out.cell 1
          clear NA k_HE0_0 k_HE0_1 k_HE0_2 k_HE0_3 k_HE0_4 k_HE0_5 k_HE0_6 k_HE1_0 k_HE1_1 k_HE1_2 k_HE1_3 k_HE1_4 k_HE1_5 k_HE1_6 k_HE1_7 k_E3_0 k_E3_1 k_E3_2 k_E3_3 k_E3_4 k_E3_5 k_E3_6 k_E3_7 k_E5_0 k_E5_1
          have hlt3 := E3.out.lt
          go_wp2_with fail
          let FS : List Kept1 := [.eq (.int .i64 3), .eq (.int .i64 4), .f (4) (1), .f (y.1) (y.2), .f (z1.1) (z1.2), .eq (.func (.func 121) #[] #[.pointer (some ⟨w.heap.size, 0, none⟩)]), .eq (.int .i64 3), .eq (.int .i64 4), .f (m4) (1), .eq (.func (.func 121) #[] #[.pointer (some ⟨w.heap.size, 0, none⟩)]), .eq (.int .i64 3), .f (m3) (1), .f (z2.1) (z2.2), .f (z3.1) (z3.2), .any, .any]
          let BS : List Bx := [Bx.rat (.inl 14) 15 #[.slice none 0 0, .slice none 0 0] (z3.1) (z3.2)]
          refine region_mono (Held w1 (fun j => FS.getD j .any) BS) (by kernel_rfl) (by kernel_rfl) (by kernel_rfl) (Held.start _ _ _ (by simp [BS, Bx.nat, Bx.rat, Bx.ref, Bx.part]) (by simp [BS, Bx.nat, Bx.rat, Bx.ref, Bx.part])) ?_
          refine Steps.held ?_ ?_
          · intro L v w' hJ
            go_wp2_with fail
            exact ⟨rfl, rfl, hJ.out.same (by rfl) (rfl)⟩
          simp only [Act.put, List.setIfInBounds_toArray, List.set_cons_zero, List.set_cons_succ, Nat.reduceAdd]
          refine Steps.held ?_ ?_
          · intro L v w' hJ
            have hv0 : v 0 = .int .i64 3 := hJ.out.fact 0 (by kernel_rfl)
            simp only [hv0]
            clear hv0
            go_wp2_with fail
            exact ⟨rfl, rfl, hJ.out.same (by rfl) (rfl)⟩
          simp only [Act.put, List.setIfInBounds_toArray, List.set_cons_zero, List.set_cons_succ, Nat.reduceAdd]
          refine Steps.held ?_ ?_
          · intro L v w' hJ
            have hv1 : v 1 = .int .i64 4 := hJ.out.fact 1 (by kernel_rfl)
            simp only [hv1]
            clear hv1
            go_wp2_with fail
            with_reducible refine (HWA.out _).mono ?_
            rintro e w1 ⟨u, rfl, hu, hb⟩
            go_wp2_with fail
            exact ⟨rfl, rfl, hJ.out.call (by rfl) hb (hu)⟩
          simp only [Act.put, List.setIfInBounds_toArray, List.set_cons_zero, List.set_cons_succ, Nat.reduceAdd]
          refine Steps.held ?_ ?_
          · intro L v w' hJ
            have kb := hJ.out.blk E5.out (by simp [oldsOf, BS, Bx.nat, Bx.rat, Bx.ref, Bx.part])
            have k0 := kb.cell 0
            have k1 := kb.cell 1
            clear kb
            go_wp2_with fail
            exact ⟨rfl, rfl, hJ.out.same (by rfl) (N5.out.keep hJ.out.held.keep)⟩
          simp only [Act.put, List.setIfInBounds_toArray, List.set_cons_zero, List.set_cons_succ, Nat.reduceAdd]
          refine Steps.held ?_ ?_
          · intro L v w' hJ
            have X0 := Lib.hid (show F64 w' (v 2) (4) (1) from hJ.out.fact 2 (by kernel_rfl))
            have X1 := Lib.hid (show F64 w' (v 3) (y.1) (y.2) from hJ.out.fact 3 (by kernel_rfl))
            go_wp2_with fail
            with_reducible refine (HM1.out _ _ _ X0.out X1.out).mono ?_
            rintro e w1 ⟨u, rfl, hu, hb⟩
            go_wp2_with fail
            exact ⟨rfl, rfl, hJ.out.call (by rfl) hb (hu)⟩
          simp only [Act.put, List.setIfInBounds_toArray, List.set_cons_zero, List.set_cons_succ, Nat.reduceAdd]
          refine Steps.held ?_ ?_
          · intro L v w' hJ
            go_wp2_with fail
            exact ⟨rfl, rfl, hJ.out.same (by rfl) (rfl)⟩
          simp only [Act.put, List.setIfInBounds_toArray, List.set_cons_zero, List.set_cons_succ, Nat.reduceAdd]
          refine Steps.held ?_ ?_
          · intro L v w' hJ
            go_wp2_with fail
            exact ⟨rfl, rfl, hJ.out.same (by rfl) (rfl)⟩
          simp only [Act.put, List.setIfInBounds_toArray, List.set_cons_zero, List.set_cons_succ, Nat.reduceAdd]
          refine Steps.held ?_ ?_
          · intro L v w' hJ
            have hv6 : v 6 = .int .i64 3 := hJ.out.fact 6 (by kernel_rfl)
            simp only [hv6]
            clear hv6
            go_wp2_with fail
            exact ⟨rfl, rfl, hJ.out.same (by rfl) (rfl)⟩
          simp only [Act.put, List.setIfInBounds_toArray, List.set_cons_zero, List.set_cons_succ, Nat.reduceAdd]
          refine Steps.held ?_ ?_
          · intro L v w' hJ
            have hv5 : v 5 = .func (.func 121) #[] #[.pointer (some ⟨w.heap.size, 0, none⟩)] := hJ.out.fact 5 (by kernel_rfl)
            simp only [hv5]
            clear hv5
            have hv7 : v 7 = .int .i64 4 := hJ.out.fact 7 (by kernel_rfl)
            simp only [hv7]
            clear hv7
            have kbc := hJ.out.blk HE0.out (by simp [oldsOf, BS, Bx.nat, Bx.rat, Bx.ref, Bx.part] <;> omega)
            go_wp2_with fail
            with_reducible refine (HC4.out _ _ kbc).mono ?_
            rintro e w1 ⟨u, rfl, hu, hb⟩
            go_wp2_with fail
            exact ⟨rfl, rfl, hJ.out.call (by rfl) hb (hu)⟩
          simp only [Act.put, List.setIfInBounds_toArray, List.set_cons_zero, List.set_cons_succ, Nat.reduceAdd]
          refine Steps.held ?_ ?_
          · intro L v w' hJ
            go_wp2_with fail
            exact ⟨rfl, rfl, hJ.out.same (by rfl) (rfl)⟩
          simp only [Act.put, List.setIfInBounds_toArray, List.set_cons_zero, List.set_cons_succ, Nat.reduceAdd]
          refine Steps.held ?_ ?_
          · intro L v w' hJ
            go_wp2_with fail
            exact ⟨rfl, rfl, hJ.out.same (by rfl) (rfl)⟩
          simp only [Act.put, List.setIfInBounds_toArray, List.set_cons_zero, List.set_cons_succ, Nat.reduceAdd]
          refine Steps.held ?_ ?_
          · intro L v w' hJ
            have hv9 : v 9 = .func (.func 121) #[] #[.pointer (some ⟨w.heap.size, 0, none⟩)] := hJ.out.fact 9 (by kernel_rfl)
            simp only [hv9]
            clear hv9
            have hv10 : v 10 = .int .i64 3 := hJ.out.fact 10 (by kernel_rfl)
            simp only [hv10]
            clear hv10
            have kbc := hJ.out.blk HE0.out (by simp [oldsOf, BS, Bx.nat, Bx.rat, Bx.ref, Bx.part] <;> omega)
            go_wp2_with fail
            with_reducible refine (HC3.out _ _ kbc).mono ?_
            rintro e w1 ⟨u, rfl, hu, hb⟩
            go_wp2_with fail
            exact ⟨rfl, rfl, hJ.out.call (by rfl) hb (hu)⟩
          simp only [Act.put, List.setIfInBounds_toArray, List.set_cons_zero, List.set_cons_succ, Nat.reduceAdd]
          refine Steps.held ?_ ?_
          · intro L v w' hJ
            have X0 := Lib.hid (show F64 w' (v 8) (m4) (1) from hJ.out.fact 8 (by kernel_rfl))
            have X1 := Lib.hid (show F64 w' (v 11) (m3) (1) from hJ.out.fact 11 (by kernel_rfl))
            go_wp2_with fail
            with_reducible refine (HBY2.out _ _ _ X0.out X1.out).mono ?_
            rintro e w1 ⟨u, rfl, hu, hb⟩
            go_wp2_with fail
            exact ⟨rfl, rfl, hJ.out.call (by rfl) hb (hu)⟩
          simp only [Act.put, List.setIfInBounds_toArray, List.set_cons_zero, List.set_cons_succ, Nat.reduceAdd]
          refine Steps.held ?_ ?_
          · intro L v w' hJ
            have X0 := Lib.hid (show F64 w' (v 4) (z1.1) (z1.2) from hJ.out.fact 4 (by kernel_rfl))
            have X1 := Lib.hid (show F64 w' (v 12) (z2.1) (z2.2) from hJ.out.fact 12 (by kernel_rfl))
            go_wp2_with fail
            with_reducible refine (HM2.out _ _ _ X0.out X1.out).mono ?_
            rintro e w1 ⟨u, rfl, hu, hb⟩
            go_wp2_with fail
            exact ⟨rfl, rfl, hJ.out.call (by rfl) hb (hu)⟩
          simp only [Act.put, List.setIfInBounds_toArray, List.set_cons_zero, List.set_cons_succ, Nat.reduceAdd]
          refine Steps.held ?_ ?_
          · intro L v w' hJ
            go_wp2_with fail
            exact ⟨rfl, rfl, hJ.out.made 0 _ rfl rfl (by rfl) trivial⟩
          simp only [Act.put, List.setIfInBounds_toArray, List.set_cons_zero, List.set_cons_succ, Nat.reduceAdd]
          refine Steps.held ?_ ?_
          · intro L v w' hJ
            obtain ⟨g, hg, hge, hown, hst⟩ := hJ.out.newbox 0 _ rfl 14 rfl (by kernel_rfl)
            have hN : F64 w' (v 13) (z3.1) (z3.2) := hJ.out.fact 13 (by kernel_rfl)
            obtain ⟨A1, p1, c1, B1, q1, e1, x1, hv, h1, h2, h3⟩ := hN
            have HN := Lib.hid (show F64 w' (.agg #[.slice A1 p1 c1, .slice B1 q1 e1]) (z3.1) (z3.2) from ⟨A1, p1, c1, B1, q1, e1, x1, rfl, h1, h2, h3⟩)
            have kb := hJ.out.box 0 _ rfl rfl g hown
            have k0 : w'.cell? ⟨g, 0, none⟩ = some (.slice none 0 0) := kb.cell 0
            have k1 : w'.cell? ⟨g, 1, none⟩ = some (.slice none 0 0) := kb.cell 1
            have f0 := kb.frozen 0
            have f1 := kb.frozen 1
            have HO := Lib.hid hown
            have HS := Lib.hid hst
            clear kb h1 h2 h3 hown hst
            simp only [hg, hv]
            clear hg hv
            go_wp2_with fail
            exact ⟨rfl, rfl, hJ.out.fill2 0 _ rfl rfl (by rfl) g HO.out HS.out _ _ rfl rfl rfl (fun W k => HN.out.keep k) (fun _ => trivial)⟩
          simp only [Act.put, List.setIfInBounds_toArray, List.set_cons_zero, List.set_cons_succ, Nat.reduceAdd]
          refine Steps.nil ?_
          intro v w' hJ
          obtain ⟨g7, cs14, hv14, hge14, hb14, hf14⟩ := hJ.end_new 0 _ rfl 14 rfl (by decide) (Nat.le_of_ble_eq_true rfl)
          have hfx : F64 w' (.agg cs14) z3.1 z3.2 := hf14
          obtain ⟨A14, p14, c14, B14, q14, e14, x14, hcs14, h1, h2, h3⟩ := hfx
          have hcs14' := Value.agg.inj hcs14
          subst hcs14'
          simp only [hv14]
          have E7 := Lib.hid (show Blk w' g7 47 #[.slice A14 p14 c14, .slice B14 q14 e14] from hb14)
          have NE7 := Lib.hid (show F64 w' (.agg #[.slice A14 p14 c14, .slice B14 q14 e14]) z3.1 z3.2 from hf14)
          clear hv14 hb14 hf14 hcs14 h1 h2
          have hbr := hJ.but.below
          replace N5 := Lib.hid (N5.out.below hbr)
          replace F0 := Lib.hid (F0.out.below hbr)
          replace F1 := Lib.hid (F1.out.below hbr)
          replace F2 := Lib.hid (F2.out.below hbr)
          replace F3 := Lib.hid (F3.out.below hbr)
          replace HE0 := Lib.hid (blk_below HE0.out hbr)
          replace HE1 := Lib.hid (blk_below HE1.out hbr)
          replace E3 := Lib.hid (blk_below E3.out hbr)
          replace E5 := Lib.hid (blk_below E5.out hbr)
          replace HBW := Lib.hid (cbt HBW.out hbr)
          clear hJ hbr
          go_wp2_with fail
          let FS : List Kept1 := [.eq (.int .i64 3), .eq (.int .i64 3), .f (3) (1), .f (z3.1) (z3.2), .f (d3.1) (d3.2), .eq (.pointer (some ⟨w.heap.size + 1 + 1, 0, none⟩)), .eq (.pointer (some ⟨w.heap.size + 1 + 1, 6, none⟩)), .any]
          let BS : List Bx := [Bx.part F64 keepF (.inr (w.heap.size + 1 + 1)) 7 99 #[.slice A0 p0 c0, .slice B0 q0 e0, .slice A1 p1 c1, .slice B1 q1 e1, .slice A2 p2 c2, .slice B2 q2 e2, .slice A3 p3 c3, .slice B3 q3 e3] 6 (d3.1) (d3.2)]
          refine region_mono (Held w' (fun j => FS.getD j .any) BS) (by kernel_rfl) (by kernel_rfl) (by kernel_rfl) (Held.start _ _ _ (by simp [BS, Bx.nat, Bx.rat, Bx.ref, Bx.part] <;> exact E3.out) (by simp [BS, Bx.nat, Bx.rat, Bx.ref, Bx.part])) ?_
          refine Steps.held ?_ ?_
          · intro L v w' hJ
            go_wp2_with fail
            exact ⟨rfl, rfl, hJ.out.same (by rfl) (rfl)⟩
          simp only [Act.put, List.setIfInBounds_toArray, List.set_cons_zero, List.set_cons_succ, Nat.reduceAdd]
          refine Steps.held ?_ ?_
          · intro L v w' hJ
            go_wp2_with fail
            exact ⟨rfl, rfl, hJ.out.same (by rfl) (rfl)⟩
          simp only [Act.put, List.setIfInBounds_toArray, List.set_cons_zero, List.set_cons_succ, Nat.reduceAdd]
          refine Steps.held ?_ ?_
          · intro L v w' hJ
            have hv1 : v 1 = .int .i64 3 := hJ.out.fact 1 (by kernel_rfl)
            simp only [hv1]
            clear hv1
            go_wp2_with fail
            with_reducible refine (HWB.out _).mono ?_
            rintro e w1 ⟨u, rfl, hu, hb⟩
            go_wp2_with fail
            exact ⟨rfl, rfl, hJ.out.call (by rfl) hb (hu)⟩
          simp only [Act.put, List.setIfInBounds_toArray, List.set_cons_zero, List.set_cons_succ, Nat.reduceAdd]
          refine Steps.held ?_ ?_
          · intro L v w' hJ
            have kb := hJ.out.blk E7.out (by simp [oldsOf, BS, Bx.nat, Bx.rat, Bx.ref, Bx.part] <;> omega)
            have k0 := kb.cell 0
            have k1 := kb.cell 1
            clear kb
            go_wp2_with fail
            exact ⟨rfl, rfl, hJ.out.same (by rfl) (NE7.out.keep hJ.out.held.keep)⟩
          simp only [Act.put, List.setIfInBounds_toArray, List.set_cons_zero, List.set_cons_succ, Nat.reduceAdd]
          refine Steps.held ?_ ?_
          · intro L v w' hJ
            have X0 := Lib.hid (show F64 w' (v 2) (3) (1) from hJ.out.fact 2 (by kernel_rfl))
            have X1 := Lib.hid (show F64 w' (v 3) (z3.1) (z3.2) from hJ.out.fact 3 (by kernel_rfl))
            go_wp2_with fail
            with_reducible refine (HLS.out _ _ _ X0.out X1.out).mono ?_
            rintro e w1 ⟨u, rfl, hu, hb⟩
            go_wp2_with fail
            exact ⟨rfl, rfl, hJ.out.call (by rfl) hb (hu)⟩
          simp only [Act.put, List.setIfInBounds_toArray, List.set_cons_zero, List.set_cons_succ, Nat.reduceAdd]
          refine Steps.held ?_ ?_
          · intro L v w' hJ
            go_wp2_with fail
            exact ⟨rfl, rfl, hJ.out.same (by rfl) (rfl)⟩
          simp only [Act.put, List.setIfInBounds_toArray, List.set_cons_zero, List.set_cons_succ, Nat.reduceAdd]
          refine Steps.held ?_ ?_
          · intro L v w' hJ
            have hv5 : v 5 = .pointer (some ⟨w.heap.size + 1 + 1, 0, none⟩) := hJ.out.fact 5 (by kernel_rfl)
            simp only [hv5]
            clear hv5
            have hv0 : v 0 = .int .i64 3 := hJ.out.fact 0 (by kernel_rfl)
            simp only [hv0]
            clear hv0
            go_wp2_with fail
            exact ⟨rfl, rfl, hJ.out.same (by rfl) (rfl)⟩
          simp only [Act.put, List.setIfInBounds_toArray, List.set_cons_zero, List.set_cons_succ, Nat.reduceAdd]
          refine Steps.held ?_ ?_
          · intro L v w' hJ
            obtain ⟨hown, hst⟩ := hJ.out.oldbox 0 _ rfl (w.heap.size + 1 + 1) rfl
            have hN : F64 w' (v 4) (d3.1) (d3.2) := hJ.out.fact 4 (by kernel_rfl)
            obtain ⟨AW, pW, cW, BW, qW, eW, xW, hv, h1, h2, h3⟩ := hN
            have HN := Lib.hid (show F64 w' (.agg #[.slice AW pW cW, .slice BW qW eW]) (d3.1) (d3.2) from ⟨AW, pW, cW, BW, qW, eW, xW, rfl, h1, h2, h3⟩)
            have kb := hJ.out.box 0 _ rfl rfl (w.heap.size + 1 + 1) hown
            have k0 : w'.cell? ⟨w.heap.size + 1 + 1, 6, none⟩ = some (.slice A3 p3 c3) := kb.cell 6
            have k1 : w'.cell? ⟨w.heap.size + 1 + 1, 7, none⟩ = some (.slice B3 q3 e3) := kb.cell 7
            have f0 := kb.frozen 6
            have f1 := kb.frozen 7
            have HO := Lib.hid hown
            have HS := Lib.hid hst
            clear kb h1 h2 h3 hown hst
            have hv6 : v 6 = .pointer (some ⟨w.heap.size + 1 + 1, 6, none⟩) := hJ.out.fact 6 (by kernel_rfl)
            simp only [hv6]
            clear hv6
            simp only [hv]
            clear hv
            go_wp2_with fail
            exact ⟨rfl, rfl, hJ.out.fillAt 0 _ rfl rfl (by rfl) (w.heap.size + 1 + 1) HO.out HS.out 6 _ _ rfl rfl (fun W k => ⟨AW, pW, cW, BW, qW, eW, rfl, HN.out.keep k⟩) (fun _ => trivial)⟩
          simp only [Act.put, List.setIfInBounds_toArray, List.set_cons_zero, List.set_cons_succ, Nat.reduceAdd]
          refine Steps.nil ?_
          intro v w' hJ
          obtain ⟨cs, hblk, A1x, p1x, c1x, B1x, q1x, e1x, hcs, hf⟩ := hJ.end_old 0 _ rfl (w.heap.size + 1 + 1) rfl (Nat.le_of_ble_eq_true rfl)
          subst hcs
          have hblk' := Lib.hid (show Blk w' (w.heap.size + 1 + 1) 99 #[.slice A0 p0 c0, .slice B0 q0 e0, .slice A1 p1 c1, .slice B1 q1 e1, .slice A2 p2 c2, .slice B2 q2 e2, .slice A1x p1x c1x, .slice B1x q1x e1x] from hblk)
          have hF := Lib.hid hf
          have hk2 := hJ.keep
          replace N5 := Lib.hid (N5.out.keep hk2)
          replace F0 := Lib.hid (F0.out.keep hk2)
          replace F1 := Lib.hid (F1.out.keep hk2)
          replace F2 := Lib.hid (F2.out.keep hk2)
          replace F3 := Lib.hid (F3.out.keep hk2)
          replace HE0 := Lib.hid (hJ.but.blk HE0.out (by simp [oldsOf, BS, Bx.nat, Bx.rat, Bx.ref, Bx.part] <;> omega))
          replace HE1 := Lib.hid (hJ.but.blk HE1.out (by simp [oldsOf, BS, Bx.nat, Bx.rat, Bx.ref, Bx.part] <;> omega))
          replace E5 := Lib.hid (hJ.but.blk E5.out (by simp [oldsOf, BS, Bx.nat, Bx.rat, Bx.ref, Bx.part] <;> omega))
          replace HBW := Lib.hid (hJ.but.to_below HBW.out HBW.out.size (by intro g hg; simp [oldsOf, BS, Bx.nat, Bx.rat, Bx.ref, Bx.part] at hg; subst hg; omega))
          have HB5 := Lib.hid (show BoxF w' g5 y.1 y.2 from ⟨_, _, _, _, _, _, E5.out, N5.out⟩)
          clear hJ hf hblk hk2
          go_wp2_with fail
          go_roundw
          case rel => exact ⟨4, 4, .inr (.inr (.inr ⟨rfl, rfl⟩)), rfl, Lib.hid ⟨_, _, _, _, _, _, _, _, _, _, _, _, _, _, _, _, _, _, _, _, _, _, _, _, hblk'.out, F0.out, F1.out, F2.out, hF.out⟩, HE0, HE1, HB5, HBW⟩
          case measure => simp [intOf]
      · obtain ⟨A0, p0, c0, B0, q0, e0, A1, p1, c1, B1, q1, e1, A2, p2, c2, B2, q2, e2, A3, p3, c3, B3, q3, e3, hbk, h0, h1, h2, h3⟩ := HBO.out
        have E3 := Lib.hid hbk
        have F0 := Lib.hid (show F64 wr (.agg #[.slice A0 p0 c0, .slice B0 q0 e0]) (0, 1).1 (0, 1).2 from h0)
        have F1 := Lib.hid (show F64 wr (.agg #[.slice A1 p1 c1, .slice B1 q1 e1]) d1.1 d1.2 from h1)
        have F2 := Lib.hid (show F64 wr (.agg #[.slice A2 p2 c2, .slice B2 q2 e2]) d2.1 d2.2 from h2)
        have F3 := Lib.hid (show F64 wr (.agg #[.slice A3 p3 c3, .slice B3 q3 e3]) d3.1 d3.2 from h3)
        clear hbk h0 h1 h2 h3 HBO
        have k_HE1_0 := HE1.out.cell 0
        have k_HE1_1 := HE1.out.cell 1
        have k_HE1_2 := HE1.out.cell 2
        have k_HE1_3 := HE1.out.cell 3
        have k_HE1_4 := HE1.out.cell 4
        have k_HE1_5 := HE1.out.cell 5
        have k_HE1_6 := HE1.out.cell 6
        have k_HE1_7 := HE1.out.cell 7
        have k_E3_0 := E3.out.cell 0
        have k_E3_1 := E3.out.cell 1
        have k_E3_2 := E3.out.cell 2
        have k_E3_3 := E3.out.cell 3
        have k_E3_4 := E3.out.cell 4
        have k_E3_5 := E3.out.cell 5
        have k_E3_6 := E3.out.cell 6
        have k_E3_7 := E3.out.cell 7
        have f0 := HE1.out.frozen 0
        have f1 := HE1.out.frozen 1
        have f2 := HE1.out.frozen 2
        have f3 := HE1.out.frozen 3
        have f4 := HE1.out.frozen 4
        have f5 := HE1.out.frozen 5
        have f6 := HE1.out.frozen 6
        have f7 := HE1.out.frozen 7
        have HX := Lib.hid (retS (P := F64) (a0 := (0, 1)) (a1 := d1) (a2 := d2) (a3 := d3) keepF HE1.out rfl (by omega) HBW.out F0.out F1.out F2.out F3.out)
        go_wp2_with fail
        exact bodyPost_ret (v := .agg #[.slice A0 p0 c0, .slice B0 q0 e0, .slice A1 p1 c1, .slice B1 q1 e1, .slice A2 p2 c2, .slice B2 q2 e2, .slice A3 p3 c3, .slice B3 q3 e3]) (by simp [results, Try.results80, go_sem, k_HE1_0, k_HE1_1, k_HE1_2, k_HE1_3, k_HE1_4, k_HE1_5, k_HE1_6, k_HE1_7]) rfl HX.out
end Go.Proofs.Yteikhnmmkanndaa
namespace Go.Proofs.Yteikhnmmkanndaa
open Go.RowKit Go.Proofs.YteikhnmmkanndaaW.PrintWords
set_option linter.unusedSimpArgs false
set_option linter.unusedVariables false
theorem setF_keep {v : Value} {w w' : World} {d0 d1 d2 d3 : Nat × Nat} (h : SetF w v d0 d1 d2 d3) (k : Keep w w') : SetF w' v d0 d1 d2 d3 := Set4.keep (P := F64) keepF h k
theorem setR_keep {v : Value} {w w' : World} {d0 d1 d2 d3 : Nat × Nat} (h : SetR w v d0 d1 d2 d3) (k : Keep w w') : SetR w' v d0 d1 d2 d3 := Set4.keep (P := RF) keepR h k
set_option maxRecDepth 100000 in
set_option maxHeartbeats 4000000 in
theorem left_any (T S0 n0 n1 n2 n3 n4 : Int) (d0 d1 d2 d3 : Nat × Nat) (m1 m2 mt : Nat) (v : Value) (w : World) (hT0 : 0 ≤ T) (hT1 : T ≤ 1099511627776) (hn10 : 0 ≤ n1) (hn11 : n1 ≤ 1099511627776) (hn20 : 0 ≤ n2) (hn21 : n2 ≤ 1099511627776) (h1 : max n1 0 = (m1 : Int)) (h2 : max n2 0 = (m2 : Int)) (ht : max (T - n1 - n2) 0 = (mt : Int)) (r1 : Red d1) (r2 : Red d2) (r3 : Red d3) (s1 : Sz 80 d1) (s2 : Sz 80 d2) (s3 : Sz 80 d3) (hs : SetF w v d0 d1 d2 d3) : Calls Try.prog 91 #[v, .agg #[.int .i64 T, .int .i64 S0, .int .i64 n0, .int .i64 n1, .int .i64 n2, .int .i64 n3, .int .i64 n4]] w (MkF w (addR (addR (mulR (m1, 1) d1) (mulR (m2, 1) d2)) (mulR (mt, 1) d3)).1 (addR (addR (mulR (m1, 1) d1) (mulR (m2, 1) d2)) (mulR (mt, 1) d3)).2) := by
  have HSV := Lib.hid hs
  obtain ⟨A0, p0, c0, B0, q0, u0, A1, p1, c1, B1, q1, u1, A2, p2, c2, B2, q2, u2, A3, p3, c3, B3, q3, u3, rfl, hs0, hs1, hs2, hs3⟩ := hs
  have F0 := Lib.hid hs0
  have F1 := Lib.hid hs1
  have F2 := Lib.hid hs2
  have F3 := Lib.hid hs3
  clear hs0 hs1 hs2 hs3
  have HW1 := Lib.hid (fun W => whole_any n1 m1 h1 (by omega) W)
  have HW2 := Lib.hid (fun W => whole_any n2 m2 h2 (by omega) W)
  have HWT := Lib.hid (fun W => whole_any (T - n1 - n2) mt ht (by omega) W)
  have w1' : wrap64 (T - n1) = T - n1 := w64 (by omega) (by omega)
  have w2' : wrap64 (T - n1 - n2) = T - n1 - n2 := w64 (by omega) (by omega)
  have i1 := (sz_int (x := m1) (by omega)).mono (C := 80) (by decide)
  have i2 := (sz_int (x := m2) (by omega)).mono (C := 80) (by decide)
  have it := (sz_int (x := mt) (by omega)).mono (C := 80) (by decide)
  have HM1 : Hid (∀ va vb W, F64 W va m1 1 → F64 W vb d1.1 d1.2 → Calls Try.prog 43 #[va, vb] W (MkF W (mulR (m1, 1) d1).1 (mulR (m1, 1) d1).2)) := Lib.hid (fun va vb W h1 h2 => c_mul (a := (m1, 1)) (B := 80) (by decide) i1 s1 h1 h2)
  have q1 := mulR_red (red_int m1) r1
  have t1 := (i1.mul s1).mono (C := 160) (by decide)
  have HM2 : Hid (∀ va vb W, F64 W va m2 1 → F64 W vb d2.1 d2.2 → Calls Try.prog 43 #[va, vb] W (MkF W (mulR (m2, 1) d2).1 (mulR (m2, 1) d2).2)) := Lib.hid (fun va vb W h1 h2 => c_mul (a := (m2, 1)) (B := 80) (by decide) i2 s2 h1 h2)
  have q2 := mulR_red (red_int m2) r2
  have t2 := (i2.mul s2).mono (C := 160) (by decide)
  have HMT : Hid (∀ va vb W, F64 W va mt 1 → F64 W vb d3.1 d3.2 → Calls Try.prog 43 #[va, vb] W (MkF W (mulR (mt, 1) d3).1 (mulR (mt, 1) d3).2)) := Lib.hid (fun va vb W h1 h2 => c_mul (a := (mt, 1)) (B := 80) (by decide) it s3 h1 h2)
  have qT := mulR_red (red_int mt) r3
  have tT := (it.mul s3).mono (C := 160) (by decide)
  generalize mulR (m1, 1) d1 = z1 at *
  generalize mulR (m2, 1) d2 = z2 at *
  generalize mulR (mt, 1) d3 = z3 at *
  have HAD := Lib.hid (fun v W h => c_add3 (v := v) (W := W) (B := 160) (by decide) q1 q2 qT t1 t2 tT h)
  generalize addR (addR z1 z2) z3 = z4 at *
  clear r1 r2 r3 s1 s2 s3 i1 i2 it q1 q2 qT t1 t2 tT h1 h2 ht hT0 hT1 hn10 hn11 hn20 hn21 HSV
  have e0 := ((Blk.new (w) 99 #[.slice A0 p0 c0, .slice B0 q0 u0, .slice A1 p1 c1, .slice B1 q1 u1, .slice A2 p2 c2, .slice B2 q2 u2, .slice A3 p3 c3, .slice B3 q3 u3]).alloc (.cells #[.int .i64 T, .int .i64 S0, .int .i64 n0, .int .i64 n1, .int .i64 n2, .int .i64 n3, .int .i64 n4] 96)).alloc (.cells #[(.slice none 0 0), (.slice none 0 0)] 47)
  have e1 := (Blk.new ((w).alloc (.cells #[.slice A0 p0 c0, .slice B0 q0 u0, .slice A1 p1 c1, .slice B1 q1 u1, .slice A2 p2 c2, .slice B2 q2 u2, .slice A3 p3 c3, .slice B3 q3 u3] 99)) 96 #[.int .i64 T, .int .i64 S0, .int .i64 n0, .int .i64 n1, .int .i64 n2, .int .i64 n3, .int .i64 n4]).alloc (.cells #[(.slice none 0 0), (.slice none 0 0)] 47)
  have e2 := Blk.new (((w).alloc (.cells #[.slice A0 p0 c0, .slice B0 q0 u0, .slice A1 p1 c1, .slice B1 q1 u1, .slice A2 p2 c2, .slice B2 q2 u2, .slice A3 p3 c3, .slice B3 q3 u3] 99)).alloc (.cells #[.int .i64 T, .int .i64 S0, .int .i64 n0, .int .i64 n1, .int .i64 n2, .int .i64 n3, .int .i64 n4] 96)) 47 #[(.slice none 0 0), (.slice none 0 0)]
  have hb := cba (cba (cba (Below.refl _ w) (.cells #[.slice A0 p0 c0, .slice B0 q0 u0, .slice A1 p1 c1, .slice B1 q1 u1, .slice A2 p2 c2, .slice B2 q2 u2, .slice A3 p3 c3, .slice B3 q3 u3] 99)) (.cells #[.int .i64 T, .int .i64 S0, .int .i64 n0, .int .i64 n1, .int .i64 n2, .int .i64 n3, .int .i64 n4] 96)) (.cells #[(.slice none 0 0), (.slice none 0 0)] 47)
  simp only [World.size_alloc] at e1 e2
  have hsz : w.heap.size ≤ w.heap.size := Nat.le_refl _
  go_enter Try.func91, Try.ntmps91
  go_upto_region 1 with (fail)
  obtain ⟨S, hS⟩ : ∃ S, (((w).alloc (.cells #[.slice A0 p0 c0, .slice B0 q0 u0, .slice A1 p1 c1, .slice B1 q1 u1, .slice A2 p2 c2, .slice B2 q2 u2, .slice A3 p3 c3, .slice B3 q3 u3] 99)).alloc (.cells #[.int .i64 T, .int .i64 S0, .int .i64 n0, .int .i64 n1, .int .i64 n2, .int .i64 n3, .int .i64 n4] 96)).alloc (.cells #[(.slice none 0 0), (.slice none 0 0)] 47) = S := ⟨_, rfl⟩
  rw [hS] at e0 e1 e2 hb ⊢
  replace F1 := Lib.hid (F1.out.below hb)
  replace F2 := Lib.hid (F2.out.below hb)
  replace F3 := Lib.hid (F3.out.below hb)
  have HB0 := Lib.hid hb
  have E0 := Lib.hid e0
  have E1 := Lib.hid e1
  have E2 := Lib.hid e2
  clear hS hb hsz e0 e1 e2
  go_wp2_with fail
  let FS : List Kept1 := [.eq (.pointer (some ⟨w.heap.size + 1, 2, none⟩)), .eq (.pointer (some ⟨w.heap.size + 1, 3, none⟩)), .eq (.int .i64 n1), .f (m1) (1), .eq (.pointer (some ⟨w.heap.size, 0, none⟩)), .eq (.pointer (some ⟨w.heap.size, 2, none⟩)), .f (d1.1) (d1.2), .f (z1.1) (z1.2), .any, .any]
  let BS : List Bx := [Bx.rat (.inl 8) 9 #[.slice none 0 0, .slice none 0 0] (z1.1) (z1.2)]
  refine region_mono (Held S (fun j => FS.getD j .any) BS) (by kernel_rfl) (by kernel_rfl) (by kernel_rfl) (Held.start _ _ _ (by simp [BS, Bx.nat, Bx.rat, Bx.ref, Bx.part]) (by simp [BS, Bx.nat, Bx.rat, Bx.ref, Bx.part])) ?_
  refine Steps.held ?_ ?_
  · intro L v w' hJ
    go_wp2_with fail
    exact ⟨rfl, rfl, hJ.out.same (by rfl) (rfl)⟩
  simp only [Act.put, List.setIfInBounds_toArray, List.set_cons_zero, List.set_cons_succ, Nat.reduceAdd]
  refine Steps.held ?_ ?_
  · intro L v w' hJ
    have hv0 : v 0 = .pointer (some ⟨w.heap.size + 1, 2, none⟩) := hJ.out.fact 0 (by kernel_rfl)
    simp only [hv0]
    clear hv0
    go_wp2_with fail
    exact ⟨rfl, rfl, hJ.out.same (by rfl) (rfl)⟩
  simp only [Act.put, List.setIfInBounds_toArray, List.set_cons_zero, List.set_cons_succ, Nat.reduceAdd]
  refine Steps.held ?_ ?_
  · intro L v w' hJ
    have hv1 : v 1 = .pointer (some ⟨w.heap.size + 1, 3, none⟩) := hJ.out.fact 1 (by kernel_rfl)
    simp only [hv1]
    clear hv1
    have kb := hJ.out.blk E1.out (by simp [oldsOf, BS, Bx.nat, Bx.rat, Bx.ref, Bx.part])
    have k0 := kb.cell 0
    have k1 := kb.cell 1
    have k2 := kb.cell 2
    have k3 := kb.cell 3
    have k4 := kb.cell 4
    have k5 := kb.cell 5
    have k6 := kb.cell 6
    clear kb
    go_wp2_with fail
    exact ⟨rfl, rfl, hJ.out.same (by rfl) (rfl)⟩
  simp only [Act.put, List.setIfInBounds_toArray, List.set_cons_zero, List.set_cons_succ, Nat.reduceAdd]
  refine Steps.held ?_ ?_
  · intro L v w' hJ
    have hv2 : v 2 = .int .i64 n1 := hJ.out.fact 2 (by kernel_rfl)
    simp only [hv2]
    clear hv2
    go_wp2_with fail
    with_reducible refine (HW1.out _).mono ?_
    rintro e w1 ⟨u, rfl, hu, hb⟩
    go_wp2_with fail
    exact ⟨rfl, rfl, hJ.out.call (by rfl) hb (hu)⟩
  simp only [Act.put, List.setIfInBounds_toArray, List.set_cons_zero, List.set_cons_succ, Nat.reduceAdd]
  refine Steps.held ?_ ?_
  · intro L v w' hJ
    go_wp2_with fail
    exact ⟨rfl, rfl, hJ.out.same (by rfl) (rfl)⟩
  simp only [Act.put, List.setIfInBounds_toArray, List.set_cons_zero, List.set_cons_succ, Nat.reduceAdd]
  refine Steps.held ?_ ?_
  · intro L v w' hJ
    have hv4 : v 4 = .pointer (some ⟨w.heap.size, 0, none⟩) := hJ.out.fact 4 (by kernel_rfl)
    simp only [hv4]
    clear hv4
    go_wp2_with fail
    exact ⟨rfl, rfl, hJ.out.same (by rfl) (rfl)⟩
  simp only [Act.put, List.setIfInBounds_toArray, List.set_cons_zero, List.set_cons_succ, Nat.reduceAdd]
  refine Steps.held ?_ ?_
  · intro L v w' hJ
    have hv5 : v 5 = .pointer (some ⟨w.heap.size, 2, none⟩) := hJ.out.fact 5 (by kernel_rfl)
    simp only [hv5]
    clear hv5
    have kb := hJ.out.blk E0.out (by simp [oldsOf, BS, Bx.nat, Bx.rat, Bx.ref, Bx.part])
    have k0 := kb.cell 0
    have k1 := kb.cell 1
    have k2 := kb.cell 2
    have k3 := kb.cell 3
    have k4 := kb.cell 4
    have k5 := kb.cell 5
    have k6 := kb.cell 6
    have k7 := kb.cell 7
    clear kb
    go_wp2_with fail
    exact ⟨rfl, rfl, hJ.out.same (by rfl) (F1.out.keep hJ.out.held.keep)⟩
  simp only [Act.put, List.setIfInBounds_toArray, List.set_cons_zero, List.set_cons_succ, Nat.reduceAdd]
  refine Steps.held ?_ ?_
  · intro L v w' hJ
    have X0 := Lib.hid (show F64 w' (v 3) (m1) (1) from hJ.out.fact 3 (by kernel_rfl))
    have X1 := Lib.hid (show F64 w' (v 6) (d1.1) (d1.2) from hJ.out.fact 6 (by kernel_rfl))
    go_wp2_with fail
    with_reducible refine (HM1.out _ _ _ X0.out X1.out).mono ?_
    rintro e w1 ⟨u, rfl, hu, hb⟩
    go_wp2_with fail
    exact ⟨rfl, rfl, hJ.out.call (by rfl) hb (hu)⟩
  simp only [Act.put, List.setIfInBounds_toArray, List.set_cons_zero, List.set_cons_succ, Nat.reduceAdd]
  refine Steps.held ?_ ?_
  · intro L v w' hJ
    go_wp2_with fail
    exact ⟨rfl, rfl, hJ.out.made 0 _ rfl rfl (by rfl) trivial⟩
  simp only [Act.put, List.setIfInBounds_toArray, List.set_cons_zero, List.set_cons_succ, Nat.reduceAdd]
  refine Steps.held ?_ ?_
  · intro L v w' hJ
    obtain ⟨g, hg, hge, hown, hst⟩ := hJ.out.newbox 0 _ rfl 8 rfl (by kernel_rfl)
    have hN : F64 w' (v 7) (z1.1) (z1.2) := hJ.out.fact 7 (by kernel_rfl)
    obtain ⟨A1, p1, c1, B1, q1, e1, x1, hv, h1, h2, h3⟩ := hN
    have HN := Lib.hid (show F64 w' (.agg #[.slice A1 p1 c1, .slice B1 q1 e1]) (z1.1) (z1.2) from ⟨A1, p1, c1, B1, q1, e1, x1, rfl, h1, h2, h3⟩)
    have kb := hJ.out.box 0 _ rfl rfl g hown
    have k0 : w'.cell? ⟨g, 0, none⟩ = some (.slice none 0 0) := kb.cell 0
    have k1 : w'.cell? ⟨g, 1, none⟩ = some (.slice none 0 0) := kb.cell 1
    have f0 := kb.frozen 0
    have f1 := kb.frozen 1
    have HO := Lib.hid hown
    have HS := Lib.hid hst
    clear kb h1 h2 h3 hown hst
    simp only [hg, hv]
    clear hg hv
    go_wp2_with fail
    exact ⟨rfl, rfl, hJ.out.fill2 0 _ rfl rfl (by rfl) g HO.out HS.out _ _ rfl rfl rfl (fun W k => HN.out.keep k) (fun _ => trivial)⟩
  simp only [Act.put, List.setIfInBounds_toArray, List.set_cons_zero, List.set_cons_succ, Nat.reduceAdd]
  refine Steps.nil ?_
  intro v w' hJ
  obtain ⟨g5, cs8, hv8, hge8, hb8, hf8⟩ := hJ.end_new 0 _ rfl 8 rfl (by decide) (Nat.le_of_ble_eq_true rfl)
  have hfx : F64 w' (.agg cs8) z1.1 z1.2 := hf8
  obtain ⟨A8, p8, c8, B8, q8, e8, x8, hcs8, h1, h2, h3⟩ := hfx
  have hcs8' := Value.agg.inj hcs8
  subst hcs8'
  simp only [hv8]
  have E5 := Lib.hid (show Blk w' g5 47 #[.slice A8 p8 c8, .slice B8 q8 e8] from hb8)
  have NE5 := Lib.hid (show F64 w' (.agg #[.slice A8 p8 c8, .slice B8 q8 e8]) z1.1 z1.2 from hf8)
  clear hv8 hb8 hf8 hcs8 h1 h2
  have hge5 := E2.out.lt
  have hbr := hJ.but.below
  replace F1 := Lib.hid (F1.out.below hbr)
  replace F2 := Lib.hid (F2.out.below hbr)
  replace F3 := Lib.hid (F3.out.below hbr)
  replace E0 := Lib.hid (blk_below E0.out hbr)
  replace E1 := Lib.hid (blk_below E1.out hbr)
  replace E2 := Lib.hid (blk_below E2.out hbr)
  replace HB0 := Lib.hid (cbt HB0.out hbr)
  clear hJ hbr
  go_wp2_with fail
  let FS : List Kept1 := [.eq (.pointer (some ⟨w.heap.size + 1, 2, none⟩)), .eq (.pointer (some ⟨w.heap.size + 1, 4, none⟩)), .eq (.int .i64 n2), .f (m2) (1), .eq (.pointer (some ⟨w.heap.size, 0, none⟩)), .eq (.pointer (some ⟨w.heap.size, 4, none⟩)), .f (d2.1) (d2.2), .f (z2.1) (z2.2), .any, .any]
  let BS : List Bx := [Bx.rat (.inl 8) 9 #[.slice none 0 0, .slice none 0 0] (z2.1) (z2.2)]
  refine region_mono (Held w' (fun j => FS.getD j .any) BS) (by kernel_rfl) (by kernel_rfl) (by kernel_rfl) (Held.start _ _ _ (by simp [BS, Bx.nat, Bx.rat, Bx.ref, Bx.part]) (by simp [BS, Bx.nat, Bx.rat, Bx.ref, Bx.part])) ?_
  refine Steps.held ?_ ?_
  · intro L v w' hJ
    go_wp2_with fail
    exact ⟨rfl, rfl, hJ.out.same (by rfl) (rfl)⟩
  simp only [Act.put, List.setIfInBounds_toArray, List.set_cons_zero, List.set_cons_succ, Nat.reduceAdd]
  refine Steps.held ?_ ?_
  · intro L v w' hJ
    have hv0 : v 0 = .pointer (some ⟨w.heap.size + 1, 2, none⟩) := hJ.out.fact 0 (by kernel_rfl)
    simp only [hv0]
    clear hv0
    go_wp2_with fail
    exact ⟨rfl, rfl, hJ.out.same (by rfl) (rfl)⟩
  simp only [Act.put, List.setIfInBounds_toArray, List.set_cons_zero, List.set_cons_succ, Nat.reduceAdd]
  refine Steps.held ?_ ?_
  · intro L v w' hJ
    have hv1 : v 1 = .pointer (some ⟨w.heap.size + 1, 4, none⟩) := hJ.out.fact 1 (by kernel_rfl)
    simp only [hv1]
    clear hv1
    have kb := hJ.out.blk E1.out (by simp [oldsOf, BS, Bx.nat, Bx.rat, Bx.ref, Bx.part])
    have k0 := kb.cell 0
    have k1 := kb.cell 1
    have k2 := kb.cell 2
    have k3 := kb.cell 3
    have k4 := kb.cell 4
    have k5 := kb.cell 5
    have k6 := kb.cell 6
    clear kb
    go_wp2_with fail
    exact ⟨rfl, rfl, hJ.out.same (by rfl) (rfl)⟩
  simp only [Act.put, List.setIfInBounds_toArray, List.set_cons_zero, List.set_cons_succ, Nat.reduceAdd]
  refine Steps.held ?_ ?_
  · intro L v w' hJ
    have hv2 : v 2 = .int .i64 n2 := hJ.out.fact 2 (by kernel_rfl)
    simp only [hv2]
    clear hv2
    go_wp2_with fail
    with_reducible refine (HW2.out _).mono ?_
    rintro e w1 ⟨u, rfl, hu, hb⟩
    go_wp2_with fail
    exact ⟨rfl, rfl, hJ.out.call (by rfl) hb (hu)⟩
  simp only [Act.put, List.setIfInBounds_toArray, List.set_cons_zero, List.set_cons_succ, Nat.reduceAdd]
  refine Steps.held ?_ ?_
  · intro L v w' hJ
    go_wp2_with fail
    exact ⟨rfl, rfl, hJ.out.same (by rfl) (rfl)⟩
  simp only [Act.put, List.setIfInBounds_toArray, List.set_cons_zero, List.set_cons_succ, Nat.reduceAdd]
  refine Steps.held ?_ ?_
  · intro L v w' hJ
    have hv4 : v 4 = .pointer (some ⟨w.heap.size, 0, none⟩) := hJ.out.fact 4 (by kernel_rfl)
    simp only [hv4]
    clear hv4
    go_wp2_with fail
    exact ⟨rfl, rfl, hJ.out.same (by rfl) (rfl)⟩
  simp only [Act.put, List.setIfInBounds_toArray, List.set_cons_zero, List.set_cons_succ, Nat.reduceAdd]
  refine Steps.held ?_ ?_
  · intro L v w' hJ
    have hv5 : v 5 = .pointer (some ⟨w.heap.size, 4, none⟩) := hJ.out.fact 5 (by kernel_rfl)
    simp only [hv5]
    clear hv5
    have kb := hJ.out.blk E0.out (by simp [oldsOf, BS, Bx.nat, Bx.rat, Bx.ref, Bx.part])
    have k0 := kb.cell 0
    have k1 := kb.cell 1
    have k2 := kb.cell 2
    have k3 := kb.cell 3
    have k4 := kb.cell 4
    have k5 := kb.cell 5
    have k6 := kb.cell 6
    have k7 := kb.cell 7
    clear kb
    go_wp2_with fail
    exact ⟨rfl, rfl, hJ.out.same (by rfl) (F2.out.keep hJ.out.held.keep)⟩
  simp only [Act.put, List.setIfInBounds_toArray, List.set_cons_zero, List.set_cons_succ, Nat.reduceAdd]
  refine Steps.held ?_ ?_
  · intro L v w' hJ
    have X0 := Lib.hid (show F64 w' (v 3) (m2) (1) from hJ.out.fact 3 (by kernel_rfl))
    have X1 := Lib.hid (show F64 w' (v 6) (d2.1) (d2.2) from hJ.out.fact 6 (by kernel_rfl))
    go_wp2_with fail
    with_reducible refine (HM2.out _ _ _ X0.out X1.out).mono ?_
    rintro e w1 ⟨u, rfl, hu, hb⟩
    go_wp2_with fail
    exact ⟨rfl, rfl, hJ.out.call (by rfl) hb (hu)⟩
  simp only [Act.put, List.setIfInBounds_toArray, List.set_cons_zero, List.set_cons_succ, Nat.reduceAdd]
  refine Steps.held ?_ ?_
  · intro L v w' hJ
    go_wp2_with fail
    exact ⟨rfl, rfl, hJ.out.made 0 _ rfl rfl (by rfl) trivial⟩
  simp only [Act.put, List.setIfInBounds_toArray, List.set_cons_zero, List.set_cons_succ, Nat.reduceAdd]
  refine Steps.held ?_ ?_
  · intro L v w' hJ
    obtain ⟨g, hg, hge, hown, hst⟩ := hJ.out.newbox 0 _ rfl 8 rfl (by kernel_rfl)
    have hN : F64 w' (v 7) (z2.1) (z2.2) := hJ.out.fact 7 (by kernel_rfl)
    obtain ⟨A1, p1, c1, B1, q1, e1, x1, hv, h1, h2, h3⟩ := hN
    have HN := Lib.hid (show F64 w' (.agg #[.slice A1 p1 c1, .slice B1 q1 e1]) (z2.1) (z2.2) from ⟨A1, p1, c1, B1, q1, e1, x1, rfl, h1, h2, h3⟩)
    have kb := hJ.out.box 0 _ rfl rfl g hown
    have k0 : w'.cell? ⟨g, 0, none⟩ = some (.slice none 0 0) := kb.cell 0
    have k1 : w'.cell? ⟨g, 1, none⟩ = some (.slice none 0 0) := kb.cell 1
    have f0 := kb.frozen 0
    have f1 := kb.frozen 1
    have HO := Lib.hid hown
    have HS := Lib.hid hst
    clear kb h1 h2 h3 hown hst
    simp only [hg, hv]
    clear hg hv
    go_wp2_with fail
    exact ⟨rfl, rfl, hJ.out.fill2 0 _ rfl rfl (by rfl) g HO.out HS.out _ _ rfl rfl rfl (fun W k => HN.out.keep k) (fun _ => trivial)⟩
  simp only [Act.put, List.setIfInBounds_toArray, List.set_cons_zero, List.set_cons_succ, Nat.reduceAdd]
  refine Steps.nil ?_
  intro v w' hJ
  obtain ⟨g6, cs8, hv8, hge9, hb8, hf8⟩ := hJ.end_new 0 _ rfl 8 rfl (by decide) (Nat.le_of_ble_eq_true rfl)
  have hfx : F64 w' (.agg cs8) z2.1 z2.2 := hf8
  obtain ⟨A9, p9, c9, B9, q9, e9, x9, hcs8, h1, h2, h3⟩ := hfx
  have hcs8' := Value.agg.inj hcs8
  subst hcs8'
  simp only [hv8]
  have E6 := Lib.hid (show Blk w' g6 47 #[.slice A9 p9 c9, .slice B9 q9 e9] from hb8)
  have NE6 := Lib.hid (show F64 w' (.agg #[.slice A9 p9 c9, .slice B9 q9 e9]) z2.1 z2.2 from hf8)
  clear hv8 hb8 hf8 hcs8 h1 h2
  have hge6 := E2.out.lt
  have hbr := hJ.but.below
  replace F1 := Lib.hid (F1.out.below hbr)
  replace F2 := Lib.hid (F2.out.below hbr)
  replace F3 := Lib.hid (F3.out.below hbr)
  replace NE5 := Lib.hid (NE5.out.below hbr)
  replace E0 := Lib.hid (blk_below E0.out hbr)
  replace E1 := Lib.hid (blk_below E1.out hbr)
  replace E2 := Lib.hid (blk_below E2.out hbr)
  replace E5 := Lib.hid (blk_below E5.out hbr)
  replace HB0 := Lib.hid (cbt HB0.out hbr)
  clear hJ hbr
  go_wp2_with fail
  let FS : List Kept1 := [.f (z1.1) (z1.2), .f (z2.1) (z2.2), .eq (.pointer (some ⟨w.heap.size + 1, 0, none⟩)), .eq (.int .i64 T), .eq (.pointer (some ⟨w.heap.size + 1, 2, none⟩)), .eq (.pointer (some ⟨w.heap.size + 1, 3, none⟩)), .eq (.int .i64 n1), .eq (.int .i64 (T - n1)), .eq (.pointer (some ⟨w.heap.size + 1, 2, none⟩)), .eq (.pointer (some ⟨w.heap.size + 1, 4, none⟩)), .eq (.int .i64 n2), .eq (.int .i64 (T - n1 - n2)), .f (mt) (1), .eq (.pointer (some ⟨w.heap.size, 0, none⟩)), .eq (.pointer (some ⟨w.heap.size, 6, none⟩)), .f (d3.1) (d3.2), .f (z3.1) (z3.2), .rats 3 (ofL [z1, z2, z3]), .f (z4.1) (z4.2), .any]
  let BS : List Bx := [Bx.rat (.inr (w.heap.size + 1 + 1)) 19 #[(.slice none 0 0), (.slice none 0 0)] (z4.1) (z4.2)]
  refine region_mono (Held w' (fun j => FS.getD j .any) BS) (by kernel_rfl) (by kernel_rfl) (by kernel_rfl) (Held.start _ _ _ (by simp [BS, Bx.nat, Bx.rat, Bx.ref, Bx.part] <;> exact E2.out) (by simp [BS, Bx.nat, Bx.rat, Bx.ref, Bx.part])) ?_
  refine Steps.held ?_ ?_
  · intro L v w' hJ
    have kb := hJ.out.blk E5.out (by simp [oldsOf, BS, Bx.nat, Bx.rat, Bx.ref, Bx.part] <;> omega)
    have k0 := kb.cell 0
    have k1 := kb.cell 1
    clear kb
    go_wp2_with fail
    exact ⟨rfl, rfl, hJ.out.same (by rfl) (NE5.out.keep hJ.out.held.keep)⟩
  simp only [Act.put, List.setIfInBounds_toArray, List.set_cons_zero, List.set_cons_succ, Nat.reduceAdd]
  refine Steps.held ?_ ?_
  · intro L v w' hJ
    have kb := hJ.out.blk E6.out (by simp [oldsOf, BS, Bx.nat, Bx.rat, Bx.ref, Bx.part] <;> omega)
    have k0 := kb.cell 0
    have k1 := kb.cell 1
    clear kb
    go_wp2_with fail
    exact ⟨rfl, rfl, hJ.out.same (by rfl) (NE6.out.keep hJ.out.held.keep)⟩
  simp only [Act.put, List.setIfInBounds_toArray, List.set_cons_zero, List.set_cons_succ, Nat.reduceAdd]
  refine Steps.held ?_ ?_
  · intro L v w' hJ
    go_wp2_with fail
    exact ⟨rfl, rfl, hJ.out.same (by rfl) (rfl)⟩
  simp only [Act.put, List.setIfInBounds_toArray, List.set_cons_zero, List.set_cons_succ, Nat.reduceAdd]
  refine Steps.held ?_ ?_
  · intro L v w' hJ
    have hv2 : v 2 = .pointer (some ⟨w.heap.size + 1, 0, none⟩) := hJ.out.fact 2 (by kernel_rfl)
    simp only [hv2]
    clear hv2
    have kb := hJ.out.blk E1.out (by simp [oldsOf, BS, Bx.nat, Bx.rat, Bx.ref, Bx.part] <;> omega)
    have k0 := kb.cell 0
    have k1 := kb.cell 1
    have k2 := kb.cell 2
    have k3 := kb.cell 3
    have k4 := kb.cell 4
    have k5 := kb.cell 5
    have k6 := kb.cell 6
    clear kb
    go_wp2_with fail
    exact ⟨rfl, rfl, hJ.out.same (by rfl) (rfl)⟩
  simp only [Act.put, List.setIfInBounds_toArray, List.set_cons_zero, List.set_cons_succ, Nat.reduceAdd]
  refine Steps.held ?_ ?_
  · intro L v w' hJ
    go_wp2_with fail
    exact ⟨rfl, rfl, hJ.out.same (by rfl) (rfl)⟩
  simp only [Act.put, List.setIfInBounds_toArray, List.set_cons_zero, List.set_cons_succ, Nat.reduceAdd]
  refine Steps.held ?_ ?_
  · intro L v w' hJ
    have hv4 : v 4 = .pointer (some ⟨w.heap.size + 1, 2, none⟩) := hJ.out.fact 4 (by kernel_rfl)
    simp only [hv4]
    clear hv4
    go_wp2_with fail
    exact ⟨rfl, rfl, hJ.out.same (by rfl) (rfl)⟩
  simp only [Act.put, List.setIfInBounds_toArray, List.set_cons_zero, List.set_cons_succ, Nat.reduceAdd]
  refine Steps.held ?_ ?_
  · intro L v w' hJ
    have hv5 : v 5 = .pointer (some ⟨w.heap.size + 1, 3, none⟩) := hJ.out.fact 5 (by kernel_rfl)
    simp only [hv5]
    clear hv5
    have kb := hJ.out.blk E1.out (by simp [oldsOf, BS, Bx.nat, Bx.rat, Bx.ref, Bx.part] <;> omega)
    have k0 := kb.cell 0
    have k1 := kb.cell 1
    have k2 := kb.cell 2
    have k3 := kb.cell 3
    have k4 := kb.cell 4
    have k5 := kb.cell 5
    have k6 := kb.cell 6
    clear kb
    go_wp2_with fail
    exact ⟨rfl, rfl, hJ.out.same (by rfl) (rfl)⟩
  simp only [Act.put, List.setIfInBounds_toArray, List.set_cons_zero, List.set_cons_succ, Nat.reduceAdd]
  refine Steps.held ?_ ?_
  · intro L v w' hJ
    have hv3 : v 3 = .int .i64 T := hJ.out.fact 3 (by kernel_rfl)
    simp only [hv3]
    clear hv3
    have hv6 : v 6 = .int .i64 n1 := hJ.out.fact 6 (by kernel_rfl)
    simp only [hv6]
    clear hv6
    go_wp2_with fail
    exact ⟨rfl, rfl, hJ.out.same (by rfl) (congrArg (Value.int .i64) w1')⟩
  simp only [Act.put, List.setIfInBounds_toArray, List.set_cons_zero, List.set_cons_succ, Nat.reduceAdd]
  refine Steps.held ?_ ?_
  · intro L v w' hJ
    go_wp2_with fail
    exact ⟨rfl, rfl, hJ.out.same (by rfl) (rfl)⟩
  simp only [Act.put, List.setIfInBounds_toArray, List.set_cons_zero, List.set_cons_succ, Nat.reduceAdd]
  refine Steps.held ?_ ?_
  · intro L v w' hJ
    have hv8 : v 8 = .pointer (some ⟨w.heap.size + 1, 2, none⟩) := hJ.out.fact 8 (by kernel_rfl)
    simp only [hv8]
    clear hv8
    go_wp2_with fail
    exact ⟨rfl, rfl, hJ.out.same (by rfl) (rfl)⟩
  simp only [Act.put, List.setIfInBounds_toArray, List.set_cons_zero, List.set_cons_succ, Nat.reduceAdd]
  refine Steps.held ?_ ?_
  · intro L v w' hJ
    have hv9 : v 9 = .pointer (some ⟨w.heap.size + 1, 4, none⟩) := hJ.out.fact 9 (by kernel_rfl)
    simp only [hv9]
    clear hv9
    have kb := hJ.out.blk E1.out (by simp [oldsOf, BS, Bx.nat, Bx.rat, Bx.ref, Bx.part] <;> omega)
    have k0 := kb.cell 0
    have k1 := kb.cell 1
    have k2 := kb.cell 2
    have k3 := kb.cell 3
    have k4 := kb.cell 4
    have k5 := kb.cell 5
    have k6 := kb.cell 6
    clear kb
    go_wp2_with fail
    exact ⟨rfl, rfl, hJ.out.same (by rfl) (rfl)⟩
  simp only [Act.put, List.setIfInBounds_toArray, List.set_cons_zero, List.set_cons_succ, Nat.reduceAdd]
  refine Steps.held ?_ ?_
  · intro L v w' hJ
    have hv7 : v 7 = .int .i64 (T - n1) := hJ.out.fact 7 (by kernel_rfl)
    simp only [hv7]
    clear hv7
    have hv10 : v 10 = .int .i64 n2 := hJ.out.fact 10 (by kernel_rfl)
    simp only [hv10]
    clear hv10
    go_wp2_with fail
    exact ⟨rfl, rfl, hJ.out.same (by rfl) (congrArg (Value.int .i64) w2')⟩
  simp only [Act.put, List.setIfInBounds_toArray, List.set_cons_zero, List.set_cons_succ, Nat.reduceAdd]
  refine Steps.held ?_ ?_
  · intro L v w' hJ
    have hv11 : v 11 = .int .i64 (T - n1 - n2) := hJ.out.fact 11 (by kernel_rfl)
    simp only [hv11]
    clear hv11
    go_wp2_with fail
    with_reducible refine (HWT.out _).mono ?_
    rintro e w1 ⟨u, rfl, hu, hb⟩
    go_wp2_with fail
    exact ⟨rfl, rfl, hJ.out.call (by rfl) hb (hu)⟩
  simp only [Act.put, List.setIfInBounds_toArray, List.set_cons_zero, List.set_cons_succ, Nat.reduceAdd]
  refine Steps.held ?_ ?_
  · intro L v w' hJ
    go_wp2_with fail
    exact ⟨rfl, rfl, hJ.out.same (by rfl) (rfl)⟩
  simp only [Act.put, List.setIfInBounds_toArray, List.set_cons_zero, List.set_cons_succ, Nat.reduceAdd]
  refine Steps.held ?_ ?_
  · intro L v w' hJ
    have hv13 : v 13 = .pointer (some ⟨w.heap.size, 0, none⟩) := hJ.out.fact 13 (by kernel_rfl)
    simp only [hv13]
    clear hv13
    go_wp2_with fail
    exact ⟨rfl, rfl, hJ.out.same (by rfl) (rfl)⟩
  simp only [Act.put, List.setIfInBounds_toArray, List.set_cons_zero, List.set_cons_succ, Nat.reduceAdd]
  refine Steps.held ?_ ?_
  · intro L v w' hJ
    have hv14 : v 14 = .pointer (some ⟨w.heap.size, 6, none⟩) := hJ.out.fact 14 (by kernel_rfl)
    simp only [hv14]
    clear hv14
    have kb := hJ.out.blk E0.out (by simp [oldsOf, BS, Bx.nat, Bx.rat, Bx.ref, Bx.part] <;> omega)
    have k0 := kb.cell 0
    have k1 := kb.cell 1
    have k2 := kb.cell 2
    have k3 := kb.cell 3
    have k4 := kb.cell 4
    have k5 := kb.cell 5
    have k6 := kb.cell 6
    have k7 := kb.cell 7
    clear kb
    go_wp2_with fail
    exact ⟨rfl, rfl, hJ.out.same (by rfl) (F3.out.keep hJ.out.held.keep)⟩
  simp only [Act.put, List.setIfInBounds_toArray, List.set_cons_zero, List.set_cons_succ, Nat.reduceAdd]
  refine Steps.held ?_ ?_
  · intro L v w' hJ
    have X0 := Lib.hid (show F64 w' (v 12) (mt) (1) from hJ.out.fact 12 (by kernel_rfl))
    have X1 := Lib.hid (show F64 w' (v 15) (d3.1) (d3.2) from hJ.out.fact 15 (by kernel_rfl))
    go_wp2_with fail
    with_reducible refine (HMT.out _ _ _ X0.out X1.out).mono ?_
    rintro e w1 ⟨u, rfl, hu, hb⟩
    go_wp2_with fail
    exact ⟨rfl, rfl, hJ.out.call (by rfl) hb (hu)⟩
  simp only [Act.put, List.setIfInBounds_toArray, List.set_cons_zero, List.set_cons_succ, Nat.reduceAdd]
  refine Steps.held ?_ ?_
  · intro L v w' hJ
    have hN0 : F64 w' (v 0) (z1.1) (z1.2) := hJ.out.fact 0 (by kernel_rfl)
    obtain ⟨A0, p0, c0, B0, q0, e0, x0, hv0, h1, h2, h3⟩ := hN0
    have HN0 := Lib.hid (show F64 w' (.agg #[.slice A0 p0 c0, .slice B0 q0 e0]) (z1.1) (z1.2) from ⟨A0, p0, c0, B0, q0, e0, x0, rfl, h1, h2, h3⟩)
    clear h1 h2 h3
    have hN1 : F64 w' (v 1) (z2.1) (z2.2) := hJ.out.fact 1 (by kernel_rfl)
    obtain ⟨A1, p1, c1, B1, q1, e1, x1, hv1, h1, h2, h3⟩ := hN1
    have HN1 := Lib.hid (show F64 w' (.agg #[.slice A1 p1 c1, .slice B1 q1 e1]) (z2.1) (z2.2) from ⟨A1, p1, c1, B1, q1, e1, x1, rfl, h1, h2, h3⟩)
    clear h1 h2 h3
    have hN2 : F64 w' (v 16) (z3.1) (z3.2) := hJ.out.fact 16 (by kernel_rfl)
    obtain ⟨A2, p2, c2, B2, q2, e2, x2, hv2, h1, h2, h3⟩ := hN2
    have HN2 := Lib.hid (show F64 w' (.agg #[.slice A2 p2 c2, .slice B2 q2 e2]) (z3.1) (z3.2) from ⟨A2, p2, c2, B2, q2, e2, x2, rfl, h1, h2, h3⟩)
    clear h1 h2 h3
    simp only [hv0, hv1, hv2]
    clear hv0 hv1 hv2
    go_wp2_with fail
    exact ⟨rfl, rfl, hJ.out.call (by rfl) (cba (Below.refl _ w') _) (RowF.three (Blk.new w' 47 #[.slice A0 p0 c0, .slice B0 q0 e0, .slice A1 p1 c1, .slice B1 q1 e1, .slice A2 p2 c2, .slice B2 q2 e2]) (HN0.out.below (cba (Below.refl _ w') _)) (HN1.out.below (cba (Below.refl _ w') _)) (HN2.out.below (cba (Below.refl _ w') _)))⟩
  simp only [Act.put, List.setIfInBounds_toArray, List.set_cons_zero, List.set_cons_succ, Nat.reduceAdd]
  refine Steps.held ?_ ?_
  · intro L v w' hJ
    have X0 := Lib.hid (show RowF w' (v 17) 3 (ofL [z1, z2, z3]) from hJ.out.fact 17 (by kernel_rfl))
    go_wp2_with fail
    with_reducible refine (HAD.out _ _ X0.out).mono ?_
    rintro e w1 ⟨u, rfl, hu, hb⟩
    go_wp2_with fail
    exact ⟨rfl, rfl, hJ.out.call (by rfl) hb (hu)⟩
  simp only [Act.put, List.setIfInBounds_toArray, List.set_cons_zero, List.set_cons_succ, Nat.reduceAdd]
  refine Steps.held ?_ ?_
  · intro L v w' hJ
    obtain ⟨hown, hst⟩ := hJ.out.oldbox 0 _ rfl (w.heap.size + 1 + 1) rfl
    have hN : F64 w' (v 18) (z4.1) (z4.2) := hJ.out.fact 18 (by kernel_rfl)
    obtain ⟨A1, p1, c1, B1, q1, e1, x1, hv, h1, h2, h3⟩ := hN
    have HN := Lib.hid (show F64 w' (.agg #[.slice A1 p1 c1, .slice B1 q1 e1]) (z4.1) (z4.2) from ⟨A1, p1, c1, B1, q1, e1, x1, rfl, h1, h2, h3⟩)
    have kb := hJ.out.box 0 _ rfl rfl (w.heap.size + 1 + 1) hown
    have k0 : w'.cell? ⟨(w.heap.size + 1 + 1), 0, none⟩ = some ((.slice none 0 0)) := kb.cell 0
    have k1 : w'.cell? ⟨(w.heap.size + 1 + 1), 1, none⟩ = some ((.slice none 0 0)) := kb.cell 1
    have f0 := kb.frozen 0
    have f1 := kb.frozen 1
    have HO := Lib.hid hown
    have HS := Lib.hid hst
    clear kb h1 h2 h3 hown hst
    simp only [hv]
    clear hv
    go_wp2_with fail
    exact ⟨rfl, rfl, hJ.out.fill2 0 _ rfl rfl (by rfl) (w.heap.size + 1 + 1) HO.out HS.out _ _ rfl rfl rfl (fun W k => HN.out.keep k) (fun _ => trivial)⟩
  simp only [Act.put, List.setIfInBounds_toArray, List.set_cons_zero, List.set_cons_succ, Nat.reduceAdd]
  refine Steps.nil ?_
  intro v w' hJ
  obtain ⟨cs, hblk, hf⟩ := hJ.end_old 0 _ rfl (w.heap.size + 1 + 1) rfl (Nat.le_of_ble_eq_true rfl)
  have hf' : F64 w' (.agg cs) z4.1 z4.2 := hf
  obtain ⟨A1, p1, c1, B1, q1, e1, x1, hcs, h1, h2, h3⟩ := hf'
  have hcs' := Value.agg.inj hcs
  subst hcs'
  have k0 := hblk.cell 0
  have k1 := hblk.cell 1
  have hbw : Below w.heap.size w w' := hJ.but.to_below HB0.out HB0.out.size (by intro g hg; simp [oldsOf, BS, Bx.nat, Bx.rat, Bx.ref, Bx.part] at hg; subst hg; omega)
  have HX := Lib.hid (show MkF w z4.1 z4.2 (.returned (.agg #[.slice A1 p1 c1, .slice B1 q1 e1])) w' from ⟨_, rfl, ⟨A1, p1, c1, B1, q1, e1, x1, rfl, h1, h2, h3⟩, hbw⟩)
  clear hJ h1 h2 hbw hblk hcs hf
  go_wp2_with fail
  exact bodyPost_ret (v := .agg #[.slice A1 p1 c1, .slice B1 q1 e1]) (by simp [results, Try.results91, go_sem, k0, k1]) rfl HX.out
def gamR (a : Nat × Nat) (m : Nat) : Nat × Nat := if m < 1 then (1, 1) else byR a (m, 1)
set_option maxRecDepth 100000 in
set_option maxHeartbeats 4000000 in
theorem gamma_any (T S0 n0 n1 n2 n3 n4 : Int) (d0 d1 d2 d3 : Nat × Nat) (m1 m2 mt mS : Nat) (v : Value) (w : World) (hT0 : 0 ≤ T) (hT1 : T ≤ 1099511627776) (hn10 : 0 ≤ n1) (hn11 : n1 ≤ 1099511627776) (hn20 : 0 ≤ n2) (hn21 : n2 ≤ 1099511627776) (h1 : max n1 0 = (m1 : Int)) (h2 : max n2 0 = (m2 : Int)) (ht : max (T - n1 - n2) 0 = (mt : Int)) (r1 : Red d1) (r2 : Red d2) (r3 : Red d3) (s1 : Sz 80 d1) (s2 : Sz 80 d2) (s3 : Sz 80 d3) (hS : max S0 0 = (mS : Int)) (hS1 : S0 ≤ 1099511627776) (hs : SetF w v d0 d1 d2 d3) : Calls Try.prog 89 #[v, .agg #[.int .i64 T, .int .i64 S0, .int .i64 n0, .int .i64 n1, .int .i64 n2, .int .i64 n3, .int .i64 n4]] w (MkF w (gamR (addR (addR (mulR (m1, 1) d1) (mulR (m2, 1) d2)) (mulR (mt, 1) d3)) mS).1 (gamR (addR (addR (mulR (m1, 1) d1) (mulR (m2, 1) d2)) (mulR (mt, 1) d3)) mS).2) := by
  have HLF := Lib.hid (fun va W h => left_any T S0 n0 n1 n2 n3 n4 d0 d1 d2 d3 m1 m2 mt va W hT0 hT1 hn10 hn11 hn20 hn21 h1 h2 ht r1 r2 r3 s1 s2 s3 h)
  have i1 := (sz_int (x := m1) (by omega)).mono (C := 80) (by decide)
  have i2 := (sz_int (x := m2) (by omega)).mono (C := 80) (by decide)
  have it := (sz_int (x := mt) (by omega)).mono (C := 80) (by decide)
  have sL := ((((i1.mul s1).add (i2.mul s2)).add (it.mul s3))).mono (C := 1000) (by decide)
  have iS := (sz_int (x := mS) (by omega)).mono (C := 1000) (by decide)
  obtain ⟨x4, hx4⟩ : ∃ x, (addR (addR (mulR (m1, 1) d1) (mulR (m2, 1) d2)) (mulR (mt, 1) d3)) = x := ⟨_, rfl⟩
  rw [hx4] at HLF sL ⊢
  clear hx4 i1 i2 it r1 r2 r3 s1 s2 s3 h1 h2 ht hT0 hT1 hn10 hn11 hn20 hn21
  by_cases hz : S0 < 1
  · have HSV := Lib.hid hs
    obtain ⟨A0, p0, c0, B0, q0, u0, A1, p1, c1, B1, q1, u1, A2, p2, c2, B2, q2, u2, A3, p3, c3, B3, q3, u3, rfl, hs0, hs1, hs2, hs3⟩ := hs
    have F0 := Lib.hid hs0
    have F1 := Lib.hid hs1
    have F2 := Lib.hid hs2
    have F3 := Lib.hid hs3
    clear hs0 hs1 hs2 hs3
    have hg : gamR x4 mS = (1, 1) := if_pos (by omega)
    rw [hg]
    have dt : decide (S0 < 1) = true := decide_eq_true hz
    have HI1 : Hid (∀ W, Calls Try.prog 74 #[.int .u64 1] W (MkF W 1 1)) := Lib.hid (fun W => rint_any 1 (by decide) W)
    clear hg sL iS hS hS1 hz
    have e0 := ((Blk.new (w) 99 #[.slice A0 p0 c0, .slice B0 q0 u0, .slice A1 p1 c1, .slice B1 q1 u1, .slice A2 p2 c2, .slice B2 q2 u2, .slice A3 p3 c3, .slice B3 q3 u3]).alloc (.cells #[.int .i64 T, .int .i64 S0, .int .i64 n0, .int .i64 n1, .int .i64 n2, .int .i64 n3, .int .i64 n4] 96)).alloc (.cells #[(.slice none 0 0), (.slice none 0 0)] 47)
    have e1 := (Blk.new ((w).alloc (.cells #[.slice A0 p0 c0, .slice B0 q0 u0, .slice A1 p1 c1, .slice B1 q1 u1, .slice A2 p2 c2, .slice B2 q2 u2, .slice A3 p3 c3, .slice B3 q3 u3] 99)) 96 #[.int .i64 T, .int .i64 S0, .int .i64 n0, .int .i64 n1, .int .i64 n2, .int .i64 n3, .int .i64 n4]).alloc (.cells #[(.slice none 0 0), (.slice none 0 0)] 47)
    have e2 := Blk.new (((w).alloc (.cells #[.slice A0 p0 c0, .slice B0 q0 u0, .slice A1 p1 c1, .slice B1 q1 u1, .slice A2 p2 c2, .slice B2 q2 u2, .slice A3 p3 c3, .slice B3 q3 u3] 99)).alloc (.cells #[.int .i64 T, .int .i64 S0, .int .i64 n0, .int .i64 n1, .int .i64 n2, .int .i64 n3, .int .i64 n4] 96)) 47 #[(.slice none 0 0), (.slice none 0 0)]
    have hb := cba (cba (cba (Below.refl _ w) (.cells #[.slice A0 p0 c0, .slice B0 q0 u0, .slice A1 p1 c1, .slice B1 q1 u1, .slice A2 p2 c2, .slice B2 q2 u2, .slice A3 p3 c3, .slice B3 q3 u3] 99)) (.cells #[.int .i64 T, .int .i64 S0, .int .i64 n0, .int .i64 n1, .int .i64 n2, .int .i64 n3, .int .i64 n4] 96)) (.cells #[(.slice none 0 0), (.slice none 0 0)] 47)
    simp only [World.size_alloc] at e1 e2
    have hsz : w.heap.size ≤ w.heap.size := Nat.le_refl _
    go_enter Try.func89, Try.ntmps89
    go_upto_region 1 with (fail)
    obtain ⟨S, hS⟩ : ∃ S, (((w).alloc (.cells #[.slice A0 p0 c0, .slice B0 q0 u0, .slice A1 p1 c1, .slice B1 q1 u1, .slice A2 p2 c2, .slice B2 q2 u2, .slice A3 p3 c3, .slice B3 q3 u3] 99)).alloc (.cells #[.int .i64 T, .int .i64 S0, .int .i64 n0, .int .i64 n1, .int .i64 n2, .int .i64 n3, .int .i64 n4] 96)).alloc (.cells #[(.slice none 0 0), (.slice none 0 0)] 47) = S := ⟨_, rfl⟩
    rw [hS] at e0 e1 e2 hb ⊢
    replace HSV := Lib.hid (setF_keep HSV.out (Keep.of_below hb))
    have HB0 := Lib.hid hb
    have E0 := Lib.hid e0
    have E1 := Lib.hid e1
    have E2 := Lib.hid e2
    clear hS hb hsz e0 e1 e2
    have k_E0_0 := E0.out.cell 0
    have k_E0_1 := E0.out.cell 1
    have k_E0_2 := E0.out.cell 2
    have k_E0_3 := E0.out.cell 3
    have k_E0_4 := E0.out.cell 4
    have k_E0_5 := E0.out.cell 5
    have k_E0_6 := E0.out.cell 6
    have k_E0_7 := E0.out.cell 7
    have k_E1_0 := E1.out.cell 0
    have k_E1_1 := E1.out.cell 1
    have k_E1_2 := E1.out.cell 2
    have k_E1_3 := E1.out.cell 3
    have k_E1_4 := E1.out.cell 4
    have k_E1_5 := E1.out.cell 5
    have k_E1_6 := E1.out.cell 6
    have k_E2_0 := E2.out.cell 0
    have k_E2_1 := E2.out.cell 1
    go_wp2_with fail
    with_reducible refine (HI1.out _).mono ?_
    rintro e w1 ⟨u, rfl, hu, hb⟩
    clear k_E0_0 k_E0_1 k_E0_2 k_E0_3 k_E0_4 k_E0_5 k_E0_6 k_E0_7 k_E1_0 k_E1_1 k_E1_2 k_E1_3 k_E1_4 k_E1_5 k_E1_6 k_E2_0 k_E2_1
    replace E0 := Lib.hid (blk_below E0.out hb)
    replace E1 := Lib.hid (blk_below E1.out hb)
    replace E2 := Lib.hid (blk_below E2.out hb)
    replace HB0 := Lib.hid (cbt HB0.out hb)
    have NV := Lib.hid hu
    clear hb hu HSV
    have k_E0_0 := E0.out.cell 0
    have k_E0_1 := E0.out.cell 1
    have k_E0_2 := E0.out.cell 2
    have k_E0_3 := E0.out.cell 3
    have k_E0_4 := E0.out.cell 4
    have k_E0_5 := E0.out.cell 5
    have k_E0_6 := E0.out.cell 6
    have k_E0_7 := E0.out.cell 7
    have k_E1_0 := E1.out.cell 0
    have k_E1_1 := E1.out.cell 1
    have k_E1_2 := E1.out.cell 2
    have k_E1_3 := E1.out.cell 3
    have k_E1_4 := E1.out.cell 4
    have k_E1_5 := E1.out.cell 5
    have k_E1_6 := E1.out.cell 6
    have k_E2_0 := E2.out.cell 0
    have k_E2_1 := E2.out.cell 1
    clear k_E0_0 k_E0_1 k_E0_2 k_E0_3 k_E0_4 k_E0_5 k_E0_6 k_E0_7 k_E1_0 k_E1_1 k_E1_2 k_E1_3 k_E1_4 k_E1_5 k_E1_6 k_E2_0 k_E2_1
    have ZV := NV.out
    obtain ⟨AV, pV, cV, BV, qV, eV, xV, rfl, _, _, _⟩ := ZV
    have f0 := E2.out.frozen 0
    have f1 := E2.out.frozen 1
    have HX := Lib.hid (retF E2.out (by omega) HB0.out NV.out)
    have j0 := E2.out.cell 0
    have j1 := E2.out.cell 1
    go_wp2_with fail
    exact bodyPost_ret (v := .agg #[.slice AV pV cV, .slice BV qV eV]) (by simp [results, Try.results89, go_sem, j0, j1]) rfl HX.out
  · have HSV := Lib.hid hs
    obtain ⟨A0, p0, c0, B0, q0, u0, A1, p1, c1, B1, q1, u1, A2, p2, c2, B2, q2, u2, A3, p3, c3, B3, q3, u3, rfl, hs0, hs1, hs2, hs3⟩ := hs
    have F0 := Lib.hid hs0
    have F1 := Lib.hid hs1
    have F2 := Lib.hid hs2
    have F3 := Lib.hid hs3
    clear hs0 hs1 hs2 hs3
    have hg : gamR x4 mS = byR x4 (mS, 1) := if_neg (by omega)
    rw [hg]
    have dt : decide (S0 < 1) = false := decide_eq_false hz
    have HWS := Lib.hid (fun W => whole_any S0 mS hS (by omega) W)
    have HBY : Hid (∀ va vb W, F64 W va x4.1 x4.2 → F64 W vb mS 1 → Calls Try.prog 123 #[va, vb] W (MkF W (byR x4 (mS, 1)).1 (byR x4 (mS, 1)).2)) := Lib.hid (fun va vb W h1 h2 => by_any (b := (mS, 1)) (B := 1000) (by decide) sL iS h1 h2)
    generalize byR x4 (mS, 1) = x5 at *
    clear hg sL iS hS hS1 hz
    have e0 := ((Blk.new (w) 99 #[.slice A0 p0 c0, .slice B0 q0 u0, .slice A1 p1 c1, .slice B1 q1 u1, .slice A2 p2 c2, .slice B2 q2 u2, .slice A3 p3 c3, .slice B3 q3 u3]).alloc (.cells #[.int .i64 T, .int .i64 S0, .int .i64 n0, .int .i64 n1, .int .i64 n2, .int .i64 n3, .int .i64 n4] 96)).alloc (.cells #[(.slice none 0 0), (.slice none 0 0)] 47)
    have e1 := (Blk.new ((w).alloc (.cells #[.slice A0 p0 c0, .slice B0 q0 u0, .slice A1 p1 c1, .slice B1 q1 u1, .slice A2 p2 c2, .slice B2 q2 u2, .slice A3 p3 c3, .slice B3 q3 u3] 99)) 96 #[.int .i64 T, .int .i64 S0, .int .i64 n0, .int .i64 n1, .int .i64 n2, .int .i64 n3, .int .i64 n4]).alloc (.cells #[(.slice none 0 0), (.slice none 0 0)] 47)
    have e2 := Blk.new (((w).alloc (.cells #[.slice A0 p0 c0, .slice B0 q0 u0, .slice A1 p1 c1, .slice B1 q1 u1, .slice A2 p2 c2, .slice B2 q2 u2, .slice A3 p3 c3, .slice B3 q3 u3] 99)).alloc (.cells #[.int .i64 T, .int .i64 S0, .int .i64 n0, .int .i64 n1, .int .i64 n2, .int .i64 n3, .int .i64 n4] 96)) 47 #[(.slice none 0 0), (.slice none 0 0)]
    have hb := cba (cba (cba (Below.refl _ w) (.cells #[.slice A0 p0 c0, .slice B0 q0 u0, .slice A1 p1 c1, .slice B1 q1 u1, .slice A2 p2 c2, .slice B2 q2 u2, .slice A3 p3 c3, .slice B3 q3 u3] 99)) (.cells #[.int .i64 T, .int .i64 S0, .int .i64 n0, .int .i64 n1, .int .i64 n2, .int .i64 n3, .int .i64 n4] 96)) (.cells #[(.slice none 0 0), (.slice none 0 0)] 47)
    simp only [World.size_alloc] at e1 e2
    have hsz : w.heap.size ≤ w.heap.size := Nat.le_refl _
    go_enter Try.func89, Try.ntmps89
    go_upto_region 1 with (fail)
    obtain ⟨S, hS⟩ : ∃ S, (((w).alloc (.cells #[.slice A0 p0 c0, .slice B0 q0 u0, .slice A1 p1 c1, .slice B1 q1 u1, .slice A2 p2 c2, .slice B2 q2 u2, .slice A3 p3 c3, .slice B3 q3 u3] 99)).alloc (.cells #[.int .i64 T, .int .i64 S0, .int .i64 n0, .int .i64 n1, .int .i64 n2, .int .i64 n3, .int .i64 n4] 96)).alloc (.cells #[(.slice none 0 0), (.slice none 0 0)] 47) = S := ⟨_, rfl⟩
    rw [hS] at e0 e1 e2 hb ⊢
    replace HSV := Lib.hid (setF_keep HSV.out (Keep.of_below hb))
    have HB0 := Lib.hid hb
    have E0 := Lib.hid e0
    have E1 := Lib.hid e1
    have E2 := Lib.hid e2
    clear hS hb hsz e0 e1 e2
    have k_E0_0 := E0.out.cell 0
    have k_E0_1 := E0.out.cell 1
    have k_E0_2 := E0.out.cell 2
    have k_E0_3 := E0.out.cell 3
    have k_E0_4 := E0.out.cell 4
    have k_E0_5 := E0.out.cell 5
    have k_E0_6 := E0.out.cell 6
    have k_E0_7 := E0.out.cell 7
    have k_E1_0 := E1.out.cell 0
    have k_E1_1 := E1.out.cell 1
    have k_E1_2 := E1.out.cell 2
    have k_E1_3 := E1.out.cell 3
    have k_E1_4 := E1.out.cell 4
    have k_E1_5 := E1.out.cell 5
    have k_E1_6 := E1.out.cell 6
    have k_E2_0 := E2.out.cell 0
    have k_E2_1 := E2.out.cell 1
    go_wp2_with fail
    clear k_E0_0 k_E0_1 k_E0_2 k_E0_3 k_E0_4 k_E0_5 k_E0_6 k_E0_7 k_E1_0 k_E1_1 k_E1_2 k_E1_3 k_E1_4 k_E1_5 k_E1_6 k_E2_0 k_E2_1
    let FS : List Kept1 := [.setF (d0) (d1) (d2) (d3), .eq (.agg #[.int .i64 T, .int .i64 S0, .int .i64 n0, .int .i64 n1, .int .i64 n2, .int .i64 n3, .int .i64 n4]), .f (x4.1) (x4.2), .eq (.pointer (some ⟨w.heap.size + 1, 1, none⟩)), .eq (.int .i64 S0), .f (mS) (1), .f (x5.1) (x5.2), .any]
    let BS : List Bx := [Bx.rat (.inr (w.heap.size + 1 + 1)) 7 #[(.slice none 0 0), (.slice none 0 0)] (x5.1) (x5.2)]
    refine region_mono (Held S (fun j => FS.getD j .any) BS) (by kernel_rfl) (by kernel_rfl) (by kernel_rfl) (Held.start _ _ _ (by simp [BS, Bx.nat, Bx.rat, Bx.ref, Bx.part] <;> exact E2.out) (by simp [BS, Bx.nat, Bx.rat, Bx.ref, Bx.part])) ?_
    refine Steps.held ?_ ?_
    · intro L v w' hJ
      have kb := hJ.out.blk E0.out (by simp [oldsOf, BS, Bx.nat, Bx.rat, Bx.ref, Bx.part] <;> omega)
      have k0 := kb.cell 0
      have k1 := kb.cell 1
      have k2 := kb.cell 2
      have k3 := kb.cell 3
      have k4 := kb.cell 4
      have k5 := kb.cell 5
      have k6 := kb.cell 6
      have k7 := kb.cell 7
      clear kb
      go_wp2_with fail
      exact ⟨rfl, rfl, hJ.out.same (by rfl) (setF_keep HSV.out hJ.out.held.keep)⟩
    simp only [Act.put, List.setIfInBounds_toArray, List.set_cons_zero, List.set_cons_succ, Nat.reduceAdd]
    refine Steps.held ?_ ?_
    · intro L v w' hJ
      have kb := hJ.out.blk E1.out (by simp [oldsOf, BS, Bx.nat, Bx.rat, Bx.ref, Bx.part] <;> omega)
      have k0 := kb.cell 0
      have k1 := kb.cell 1
      have k2 := kb.cell 2
      have k3 := kb.cell 3
      have k4 := kb.cell 4
      have k5 := kb.cell 5
      have k6 := kb.cell 6
      clear kb
      go_wp2_with fail
      exact ⟨rfl, rfl, hJ.out.same (by rfl) (rfl)⟩
    simp only [Act.put, List.setIfInBounds_toArray, List.set_cons_zero, List.set_cons_succ, Nat.reduceAdd]
    refine Steps.held ?_ ?_
    · intro L v w' hJ
      have hv1 : v 1 = .agg #[.int .i64 T, .int .i64 S0, .int .i64 n0, .int .i64 n1, .int .i64 n2, .int .i64 n3, .int .i64 n4] := hJ.out.fact 1 (by kernel_rfl)
      simp only [hv1]
      clear hv1
      have X0 := Lib.hid (show SetF w' (v 0) (d0) (d1) (d2) (d3) from hJ.out.fact 0 (by kernel_rfl))
      go_wp2_with fail
      with_reducible refine (HLF.out _ _ X0.out).mono ?_
      rintro e w1 ⟨u, rfl, hu, hb⟩
      go_wp2_with fail
      exact ⟨rfl, rfl, hJ.out.call (by rfl) hb (hu)⟩
    simp only [Act.put, List.setIfInBounds_toArray, List.set_cons_zero, List.set_cons_succ, Nat.reduceAdd]
    refine Steps.held ?_ ?_
    · intro L v w' hJ
      go_wp2_with fail
      exact ⟨rfl, rfl, hJ.out.same (by rfl) (rfl)⟩
    simp only [Act.put, List.setIfInBounds_toArray, List.set_cons_zero, List.set_cons_succ, Nat.reduceAdd]
    refine Steps.held ?_ ?_
    · intro L v w' hJ
      have hv3 : v 3 = .pointer (some ⟨w.heap.size + 1, 1, none⟩) := hJ.out.fact 3 (by kernel_rfl)
      simp only [hv3]
      clear hv3
      have kb := hJ.out.blk E1.out (by simp [oldsOf, BS, Bx.nat, Bx.rat, Bx.ref, Bx.part] <;> omega)
      have k0 := kb.cell 0
      have k1 := kb.cell 1
      have k2 := kb.cell 2
      have k3 := kb.cell 3
      have k4 := kb.cell 4
      have k5 := kb.cell 5
      have k6 := kb.cell 6
      clear kb
      go_wp2_with fail
      exact ⟨rfl, rfl, hJ.out.same (by rfl) (rfl)⟩
    simp only [Act.put, List.setIfInBounds_toArray, List.set_cons_zero, List.set_cons_succ, Nat.reduceAdd]
    refine Steps.held ?_ ?_
    · intro L v w' hJ
      have hv4 : v 4 = .int .i64 S0 := hJ.out.fact 4 (by kernel_rfl)
      simp only [hv4]
      clear hv4
      go_wp2_with fail
      with_reducible refine (HWS.out _).mono ?_
      rintro e w1 ⟨u, rfl, hu, hb⟩
      go_wp2_with fail
      exact ⟨rfl, rfl, hJ.out.call (by rfl) hb (hu)⟩
    simp only [Act.put, List.setIfInBounds_toArray, List.set_cons_zero, List.set_cons_succ, Nat.reduceAdd]
    refine Steps.held ?_ ?_
    · intro L v w' hJ
      have X0 := Lib.hid (show F64 w' (v 2) (x4.1) (x4.2) from hJ.out.fact 2 (by kernel_rfl))
      have X1 := Lib.hid (show F64 w' (v 5) (mS) (1) from hJ.out.fact 5 (by kernel_rfl))
      go_wp2_with fail
      with_reducible refine (HBY.out _ _ _ X0.out X1.out).mono ?_
      rintro e w1 ⟨u, rfl, hu, hb⟩
      go_wp2_with fail
      exact ⟨rfl, rfl, hJ.out.call (by rfl) hb (hu)⟩
    simp only [Act.put, List.setIfInBounds_toArray, List.set_cons_zero, List.set_cons_succ, Nat.reduceAdd]
    refine Steps.held ?_ ?_
    · intro L v w' hJ
      obtain ⟨hown, hst⟩ := hJ.out.oldbox 0 _ rfl (w.heap.size + 1 + 1) rfl
      have hN : F64 w' (v 6) (x5.1) (x5.2) := hJ.out.fact 6 (by kernel_rfl)
      obtain ⟨A1, p1, c1, B1, q1, e1, x1, hv, h1, h2, h3⟩ := hN
      have HN := Lib.hid (show F64 w' (.agg #[.slice A1 p1 c1, .slice B1 q1 e1]) (x5.1) (x5.2) from ⟨A1, p1, c1, B1, q1, e1, x1, rfl, h1, h2, h3⟩)
      have kb := hJ.out.box 0 _ rfl rfl (w.heap.size + 1 + 1) hown
      have k0 : w'.cell? ⟨(w.heap.size + 1 + 1), 0, none⟩ = some ((.slice none 0 0)) := kb.cell 0
      have k1 : w'.cell? ⟨(w.heap.size + 1 + 1), 1, none⟩ = some ((.slice none 0 0)) := kb.cell 1
      have f0 := kb.frozen 0
      have f1 := kb.frozen 1
      have HO := Lib.hid hown
      have HS := Lib.hid hst
      clear kb h1 h2 h3 hown hst
      simp only [hv]
      clear hv
      go_wp2_with fail
      exact ⟨rfl, rfl, hJ.out.fill2 0 _ rfl rfl (by rfl) (w.heap.size + 1 + 1) HO.out HS.out _ _ rfl rfl rfl (fun W k => HN.out.keep k) (fun _ => trivial)⟩
    simp only [Act.put, List.setIfInBounds_toArray, List.set_cons_zero, List.set_cons_succ, Nat.reduceAdd]
    refine Steps.nil ?_
    intro v w' hJ
    obtain ⟨cs, hblk, hf⟩ := hJ.end_old 0 _ rfl (w.heap.size + 1 + 1) rfl (Nat.le_of_ble_eq_true rfl)
    have hf' : F64 w' (.agg cs) x5.1 x5.2 := hf
    obtain ⟨A1, p1, c1, B1, q1, e1, x1, hcs, h1, h2, h3⟩ := hf'
    have hcs' := Value.agg.inj hcs
    subst hcs'
    have k0 := hblk.cell 0
    have k1 := hblk.cell 1
    have hbw : Below w.heap.size w w' := hJ.but.to_below HB0.out HB0.out.size (by intro g hg; simp [oldsOf, BS, Bx.nat, Bx.rat, Bx.ref, Bx.part] at hg; subst hg; omega)
    have HX := Lib.hid (show MkF w x5.1 x5.2 (.returned (.agg #[.slice A1 p1 c1, .slice B1 q1 e1])) w' from ⟨_, rfl, ⟨A1, p1, c1, B1, q1, e1, x1, rfl, h1, h2, h3⟩, hbw⟩)
    clear hJ h1 h2 hbw hblk hcs hf
    go_wp2_with fail
    exact bodyPost_ret (v := .agg #[.slice A1 p1 c1, .slice B1 q1 e1]) (by simp [results, Try.results89, go_sem, k0, k1]) rfl HX.out
end Go.Proofs.Yteikhnmmkanndaa
namespace Go.Proofs.Yteikhnmmkanndaa
open Go.RowKit Go.Proofs.YteikhnmmkanndaaW.PrintWords
set_option linter.unusedSimpArgs false
set_option linter.unusedVariables false
theorem xwhole (x : Nat) (hx : x < 9223372036854775808) (W : World) : Calls Try.prog 70 #[.int .i64 (x : Nat)] W (MkR W x 1) := by
  refine xint_any (x : Int) x ?_ (Nat.lt_trans hx (by decide)) W
  unfold IntKind.wrap
  rw [if_neg (by rw [show IntKind.u64.signed = false from rfl, Bool.false_and]; decide)]
  show (x : Int) % 18446744073709551616 = (x : Int)
  omega
def prt (m1 m2 k mk ml : Nat) : Nat × Nat := mulR (mulR (k + 1, 1) (divR (m1, 1) (m1 + 2 * m2, 1))) (divR (ml, 1) (mk, 1))
set_option maxRecDepth 100000 in
set_option maxHeartbeats 4000000 in
theorem part1_any (T S0 : Int) (m1 m2 m3 m4 : Nat) (w : World) (p1 : 0 < m1) (pk : 0 < m1) (b1 : m1 ≤ 1099511627776) (b2 : m2 ≤ 1099511627776) (b3 : m3 ≤ 1099511627776) (b4 : m4 ≤ 1099511627776) : Calls Try.prog 124 #[.int .i64 1, .agg #[.int .i64 T, .int .i64 S0, .int .i64 (m1 : Int), .int .i64 (m2 : Int), .int .i64 (m3 : Int), .int .i64 (m4 : Int)]] w (MkR w (prt m1 m2 1 m1 m2).1 (prt m1 m2 1 m1 m2).2) := by
  have HX1 := Lib.hid (fun W => xwhole m1 (by omega) W)
  have HXK := Lib.hid (fun W => xwhole m1 (by omega) W)
  have HXL := Lib.hid (fun W => xwhole m2 (by omega) W)
  have HXS := Lib.hid (fun W => xwhole (m1 + 2 * m2) (by omega) W)
  have HXC : Hid (∀ W, Calls Try.prog 70 #[.int .i64 2] W (MkR W 2 1)) := Lib.hid (fun W => xwhole 2 (by decide) W)
  have e1 : ((m1 + 2 * m2 : Nat) : Int) = (m1 : Int) + 2 * (m2 : Int) := by omega
  rw [e1] at HXS
  have w1' : wrap64 (2 * (m2 : Int)) = 2 * (m2 : Int) := w64 (by omega) (by omega)
  have w2' : wrap64 ((m1 : Int) + 2 * (m2 : Int)) = (m1 : Int) + 2 * (m2 : Int) := w64 (by omega) (by omega)
  have s1 := sz_int (x := m1) (by omega)
  have ss := sz_int (x := m1 + 2 * m2) (by omega)
  have sk := sz_int (x := m1) (by omega)
  have sl := sz_int (x := m2) (by omega)
  have sc : Sz 6 (2, 1) := sz_int (by decide)
  have ry := divR_red (b := (m1 + 2 * m2, 1)) (red_int m1) (by show 0 < m1 + 2 * m2; omega)
  have sy := s1.div ss
  have rz := divR_red (b := (m1, 1)) (red_int m2) pk
  have sz := sl.div sk
  have HDY : Hid (∀ va vb W, RF W va m1 1 → RF W vb (m1 + 2 * m2) 1 → Calls Try.prog 78 #[va, vb] W (MkR W (divR (m1, 1) (m1 + 2 * m2, 1)).1 (divR (m1, 1) (m1 + 2 * m2, 1)).2)) := Lib.hid (fun va vb W h1 h2 => c_xdiv (a := (m1, 1)) (b := (m1 + 2 * m2, 1)) (B := 80) (by decide) (red_int m1) (by show 0 < m1 + 2 * m2; omega) (s1.mono (by decide)) (ss.mono (by decide)) h1 h2)
  have HDZ : Hid (∀ va vb W, RF W va m2 1 → RF W vb m1 1 → Calls Try.prog 78 #[va, vb] W (MkR W (divR (m2, 1) (m1, 1)).1 (divR (m2, 1) (m1, 1)).2)) := Lib.hid (fun va vb W h1 h2 => c_xdiv (a := (m2, 1)) (b := (m1, 1)) (B := 80) (by decide) (red_int m2) pk (sl.mono (by decide)) (sk.mono (by decide)) h1 h2)
  unfold prt
  generalize divR (m1, 1) (m1 + 2 * m2, 1) = y at *
  generalize divR (m2, 1) (m1, 1) = z at *
  have HM1 : Hid (∀ va vb W, RF W va 2 1 → RF W vb y.1 y.2 → Calls Try.prog 77 #[va, vb] W (MkR W (mulR (2, 1) y).1 (mulR (2, 1) y).2)) := Lib.hid (fun va vb W h1 h2 => c_xmul (a := (2, 1)) (B := 80) (by decide) (red_int 2) ry (sc.mono (by decide)) (sy.mono (by decide)) h1 h2)
  have rt := mulR_red (red_int 2) ry
  have st := sc.mul sy
  have HM2 := Lib.hid (fun va vb W h1 h2 => c_xmul (a := mulR (2, 1) y) (b := z) (va := va) (vb := vb) (W := W) (B := 80) (by decide) rt rz (st.mono (by decide)) (sz.mono (by decide)) h1 h2)
  have e2 : (1 + 1, 1) = ((2, 1) : Nat × Nat) := rfl
  rw [e2]
  generalize mulR (2, 1) y = t at *
  generalize mulR t z = r at *
  clear e1 e2 s1 ss sk sl sc ry sy rz sz rt st p1 pk b1 b2 b3 b4
  have e0 := (Blk.new (w) 103 #[.int .i64 T, .int .i64 S0, .int .i64 (m1 : Int), .int .i64 (m2 : Int), .int .i64 (m3 : Int), .int .i64 (m4 : Int)]).alloc (.cells #[(.slice none 0 0), (.slice none 0 0)] 52)
  have e1 := Blk.new ((w).alloc (.cells #[.int .i64 T, .int .i64 S0, .int .i64 (m1 : Int), .int .i64 (m2 : Int), .int .i64 (m3 : Int), .int .i64 (m4 : Int)] 103)) 52 #[(.slice none 0 0), (.slice none 0 0)]
  have hb := cba (cba (Below.refl _ w) (.cells #[.int .i64 T, .int .i64 S0, .int .i64 (m1 : Int), .int .i64 (m2 : Int), .int .i64 (m3 : Int), .int .i64 (m4 : Int)] 103)) (.cells #[(.slice none 0 0), (.slice none 0 0)] 52)
  simp only [World.size_alloc] at e1
  have hsz : w.heap.size ≤ w.heap.size := Nat.le_refl _
  go_enter Try.func124, Try.ntmps124
  go_upto_region 1 with (fail)
  obtain ⟨S, hS⟩ : ∃ S, ((w).alloc (.cells #[.int .i64 T, .int .i64 S0, .int .i64 (m1 : Int), .int .i64 (m2 : Int), .int .i64 (m3 : Int), .int .i64 (m4 : Int)] 103)).alloc (.cells #[(.slice none 0 0), (.slice none 0 0)] 52) = S := ⟨_, rfl⟩
  rw [hS] at e0 e1 hb ⊢
  have HB0 := Lib.hid hb
  have E0 := Lib.hid e0
  have E1 := Lib.hid e1
  clear hS hb hsz e0 e1
  go_wp2_with fail
  let FS : List Kept1 := [.eq (.pointer (some ⟨w.heap.size, 2, none⟩)), .eq (.int .i64 (m1 : Int)), .rf (m1) (1), .eq (.pointer (some ⟨w.heap.size, 2, none⟩)), .eq (.int .i64 (m1 : Int)), .eq (.pointer (some ⟨w.heap.size, 3, none⟩)), .eq (.int .i64 (m2 : Int)), .eq (.int .i64 (2 * (m2 : Int))), .eq (.int .i64 ((m1 : Int) + 2 * (m2 : Int))), .rf (m1 + 2 * m2) (1), .rf (y.1) (y.2), .any, .any]
  let BS : List Bx := [Bx.ref (.inl 11) 12 #[.slice none 0 0, .slice none 0 0] (y.1) (y.2)]
  refine region_mono (Held S (fun j => FS.getD j .any) BS) (by kernel_rfl) (by kernel_rfl) (by kernel_rfl) (Held.start _ _ _ (by simp [BS, Bx.nat, Bx.rat, Bx.ref, Bx.part]) (by simp [BS, Bx.nat, Bx.rat, Bx.ref, Bx.part])) ?_
  refine Steps.held ?_ ?_
  · intro L v w' hJ
    go_wp2_with fail
    exact ⟨rfl, rfl, hJ.out.same (by rfl) (rfl)⟩
  simp only [Act.put, List.setIfInBounds_toArray, List.set_cons_zero, List.set_cons_succ, Nat.reduceAdd]
  refine Steps.held ?_ ?_
  · intro L v w' hJ
    have hv0 : v 0 = .pointer (some ⟨w.heap.size, 2, none⟩) := hJ.out.fact 0 (by kernel_rfl)
    simp only [hv0]
    clear hv0
    have kb := hJ.out.blk E0.out (by simp [oldsOf, BS, Bx.nat, Bx.rat, Bx.ref, Bx.part])
    have k0 := kb.cell 0
    have k1 := kb.cell 1
    have k2 := kb.cell 2
    have k3 := kb.cell 3
    have k4 := kb.cell 4
    have k5 := kb.cell 5
    clear kb
    go_wp2_with fail
    exact ⟨rfl, rfl, hJ.out.same (by rfl) (rfl)⟩
  simp only [Act.put, List.setIfInBounds_toArray, List.set_cons_zero, List.set_cons_succ, Nat.reduceAdd]
  refine Steps.held ?_ ?_
  · intro L v w' hJ
    have hv1 : v 1 = .int .i64 (m1 : Int) := hJ.out.fact 1 (by kernel_rfl)
    simp only [hv1]
    clear hv1
    go_wp2_with fail
    with_reducible refine (HX1.out _).mono ?_
    rintro e w1 ⟨u, rfl, hu, hb⟩
    go_wp2_with fail
    exact ⟨rfl, rfl, hJ.out.call (by rfl) hb (hu)⟩
  simp only [Act.put, List.setIfInBounds_toArray, List.set_cons_zero, List.set_cons_succ, Nat.reduceAdd]
  refine Steps.held ?_ ?_
  · intro L v w' hJ
    go_wp2_with fail
    exact ⟨rfl, rfl, hJ.out.same (by rfl) (rfl)⟩
  simp only [Act.put, List.setIfInBounds_toArray, List.set_cons_zero, List.set_cons_succ, Nat.reduceAdd]
  refine Steps.held ?_ ?_
  · intro L v w' hJ
    have hv3 : v 3 = .pointer (some ⟨w.heap.size, 2, none⟩) := hJ.out.fact 3 (by kernel_rfl)
    simp only [hv3]
    clear hv3
    have kb := hJ.out.blk E0.out (by simp [oldsOf, BS, Bx.nat, Bx.rat, Bx.ref, Bx.part])
    have k0 := kb.cell 0
    have k1 := kb.cell 1
    have k2 := kb.cell 2
    have k3 := kb.cell 3
    have k4 := kb.cell 4
    have k5 := kb.cell 5
    clear kb
    go_wp2_with fail
    exact ⟨rfl, rfl, hJ.out.same (by rfl) (rfl)⟩
  simp only [Act.put, List.setIfInBounds_toArray, List.set_cons_zero, List.set_cons_succ, Nat.reduceAdd]
  refine Steps.held ?_ ?_
  · intro L v w' hJ
    go_wp2_with fail
    exact ⟨rfl, rfl, hJ.out.same (by rfl) (rfl)⟩
  simp only [Act.put, List.setIfInBounds_toArray, List.set_cons_zero, List.set_cons_succ, Nat.reduceAdd]
  refine Steps.held ?_ ?_
  · intro L v w' hJ
    have hv5 : v 5 = .pointer (some ⟨w.heap.size, 3, none⟩) := hJ.out.fact 5 (by kernel_rfl)
    simp only [hv5]
    clear hv5
    have kb := hJ.out.blk E0.out (by simp [oldsOf, BS, Bx.nat, Bx.rat, Bx.ref, Bx.part])
    have k0 := kb.cell 0
    have k1 := kb.cell 1
    have k2 := kb.cell 2
    have k3 := kb.cell 3
    have k4 := kb.cell 4
    have k5 := kb.cell 5
    clear kb
    go_wp2_with fail
    exact ⟨rfl, rfl, hJ.out.same (by rfl) (rfl)⟩
  simp only [Act.put, List.setIfInBounds_toArray, List.set_cons_zero, List.set_cons_succ, Nat.reduceAdd]
  refine Steps.held ?_ ?_
  · intro L v w' hJ
    have hv6 : v 6 = .int .i64 (m2 : Int) := hJ.out.fact 6 (by kernel_rfl)
    simp only [hv6]
    clear hv6
    go_wp2_with fail
    exact ⟨rfl, rfl, hJ.out.same (by rfl) (congrArg (Value.int .i64) w1')⟩
  simp only [Act.put, List.setIfInBounds_toArray, List.set_cons_zero, List.set_cons_succ, Nat.reduceAdd]
  refine Steps.held ?_ ?_
  · intro L v w' hJ
    have hv4 : v 4 = .int .i64 (m1 : Int) := hJ.out.fact 4 (by kernel_rfl)
    simp only [hv4]
    clear hv4
    have hv7 : v 7 = .int .i64 (2 * (m2 : Int)) := hJ.out.fact 7 (by kernel_rfl)
    simp only [hv7]
    clear hv7
    go_wp2_with fail
    exact ⟨rfl, rfl, hJ.out.same (by rfl) (congrArg (Value.int .i64) w2')⟩
  simp only [Act.put, List.setIfInBounds_toArray, List.set_cons_zero, List.set_cons_succ, Nat.reduceAdd]
  refine Steps.held ?_ ?_
  · intro L v w' hJ
    have hv8 : v 8 = .int .i64 ((m1 : Int) + 2 * (m2 : Int)) := hJ.out.fact 8 (by kernel_rfl)
    simp only [hv8]
    clear hv8
    go_wp2_with fail
    with_reducible refine (HXS.out _).mono ?_
    rintro e w1 ⟨u, rfl, hu, hb⟩
    go_wp2_with fail
    exact ⟨rfl, rfl, hJ.out.call (by rfl) hb (hu)⟩
  simp only [Act.put, List.setIfInBounds_toArray, List.set_cons_zero, List.set_cons_succ, Nat.reduceAdd]
  refine Steps.held ?_ ?_
  · intro L v w' hJ
    have X0 := Lib.hid (show RF w' (v 2) (m1) (1) from hJ.out.fact 2 (by kernel_rfl))
    have X1 := Lib.hid (show RF w' (v 9) (m1 + 2 * m2) (1) from hJ.out.fact 9 (by kernel_rfl))
    go_wp2_with fail
    with_reducible refine (HDY.out _ _ _ X0.out X1.out).mono ?_
    rintro e w1 ⟨u, rfl, hu, hb⟩
    go_wp2_with fail
    exact ⟨rfl, rfl, hJ.out.call (by rfl) hb (hu)⟩
  simp only [Act.put, List.setIfInBounds_toArray, List.set_cons_zero, List.set_cons_succ, Nat.reduceAdd]
  refine Steps.held ?_ ?_
  · intro L v w' hJ
    go_wp2_with fail
    exact ⟨rfl, rfl, hJ.out.made 0 _ rfl rfl (by rfl) trivial⟩
  simp only [Act.put, List.setIfInBounds_toArray, List.set_cons_zero, List.set_cons_succ, Nat.reduceAdd]
  refine Steps.held ?_ ?_
  · intro L v w' hJ
    obtain ⟨g, hg, hge, hown, hst⟩ := hJ.out.newbox 0 _ rfl 11 rfl (by kernel_rfl)
    have hN : RF w' (v 10) (y.1) (y.2) := hJ.out.fact 10 (by kernel_rfl)
    obtain ⟨A1, p1, c1, B1, q1, e1, hv, h1, h2⟩ := hN
    have HN := Lib.hid (show RF w' (.agg #[.slice A1 p1 c1, .slice B1 q1 e1]) (y.1) (y.2) from ⟨A1, p1, c1, B1, q1, e1, rfl, h1, h2⟩)
    have kb := hJ.out.box 0 _ rfl rfl g hown
    have k0 : w'.cell? ⟨g, 0, none⟩ = some (.slice none 0 0) := kb.cell 0
    have k1 : w'.cell? ⟨g, 1, none⟩ = some (.slice none 0 0) := kb.cell 1
    have f0 := kb.frozen 0
    have f1 := kb.frozen 1
    have HO := Lib.hid hown
    have HS := Lib.hid hst
    clear kb h1 h2 hown hst
    simp only [hg, hv]
    clear hg hv
    go_wp2_with fail
    exact ⟨rfl, rfl, hJ.out.fill2 0 _ rfl rfl (by rfl) g HO.out HS.out _ _ rfl rfl rfl (fun W k => HN.out.keep k) (fun _ => trivial)⟩
  simp only [Act.put, List.setIfInBounds_toArray, List.set_cons_zero, List.set_cons_succ, Nat.reduceAdd]
  refine Steps.nil ?_
  intro v w' hJ
  obtain ⟨g5, cs11, hv11, hge11, hb11, hf11⟩ := hJ.end_new 0 _ rfl 11 rfl (by decide) (Nat.le_of_ble_eq_true rfl)
  have hfx : RF w' (.agg cs11) y.1 y.2 := hf11
  obtain ⟨A11, p11, c11, B11, q11, e11, hcs11, h1, h2⟩ := hfx
  have hcs11' := Value.agg.inj hcs11
  subst hcs11'
  simp only [hv11]
  have E5 := Lib.hid (show Blk w' g5 52 #[.slice A11 p11 c11, .slice B11 q11 e11] from hb11)
  have NE5 := Lib.hid (show RF w' (.agg #[.slice A11 p11 c11, .slice B11 q11 e11]) y.1 y.2 from hf11)
  clear hv11 hb11 hf11 hcs11 h1 h2
  have hge5 := E1.out.lt
  have hbr := hJ.but.below
  replace E0 := Lib.hid (blk_below E0.out hbr)
  replace E1 := Lib.hid (blk_below E1.out hbr)
  replace HB0 := Lib.hid (cbt HB0.out hbr)
  clear hJ hbr
  go_wp2_with fail
  let FS : List Kept1 := [.eq (.int .i64 1), .eq (.int .i64 2), .rf (2) (1), .rf (y.1) (y.2), .rf (t.1) (t.2), .eq (.int .i64 1), .eq (.int .i64 3), .eq (.pointer (some ⟨w.heap.size, 3, none⟩)), .eq (.int .i64 (m2 : Int)), .rf (m2) (1), .eq (.int .i64 1), .eq (.int .i64 2), .eq (.pointer (some ⟨w.heap.size, 2, none⟩)), .eq (.int .i64 (m1 : Int)), .rf (m1) (1), .rf (z.1) (z.2), .rf (r.1) (r.2), .any]
  let BS : List Bx := [Bx.ref (.inr (w.heap.size + 1)) 17 #[(.slice none 0 0), (.slice none 0 0)] (r.1) (r.2)]
  refine region_mono (Held w' (fun j => FS.getD j .any) BS) (by kernel_rfl) (by kernel_rfl) (by kernel_rfl) (Held.start _ _ _ (by simp [BS, Bx.nat, Bx.rat, Bx.ref, Bx.part] <;> exact E1.out) (by simp [BS, Bx.nat, Bx.rat, Bx.ref, Bx.part])) ?_
  refine Steps.held ?_ ?_
  · intro L v w' hJ
    go_wp2_with fail
    exact ⟨rfl, rfl, hJ.out.same (by rfl) (rfl)⟩
  simp only [Act.put, List.setIfInBounds_toArray, List.set_cons_zero, List.set_cons_succ, Nat.reduceAdd]
  refine Steps.held ?_ ?_
  · intro L v w' hJ
    have hv0 : v 0 = .int .i64 1 := hJ.out.fact 0 (by kernel_rfl)
    simp only [hv0]
    clear hv0
    go_wp2_with fail
    exact ⟨rfl, rfl, hJ.out.same (by rfl) (rfl)⟩
  simp only [Act.put, List.setIfInBounds_toArray, List.set_cons_zero, List.set_cons_succ, Nat.reduceAdd]
  refine Steps.held ?_ ?_
  · intro L v w' hJ
    have hv1 : v 1 = .int .i64 2 := hJ.out.fact 1 (by kernel_rfl)
    simp only [hv1]
    clear hv1
    go_wp2_with fail
    with_reducible refine (HXC.out _).mono ?_
    rintro e w1 ⟨u, rfl, hu, hb⟩
    go_wp2_with fail
    exact ⟨rfl, rfl, hJ.out.call (by rfl) hb (hu)⟩
  simp only [Act.put, List.setIfInBounds_toArray, List.set_cons_zero, List.set_cons_succ, Nat.reduceAdd]
  refine Steps.held ?_ ?_
  · intro L v w' hJ
    have kb := hJ.out.blk E5.out (by simp [oldsOf, BS, Bx.nat, Bx.rat, Bx.ref, Bx.part] <;> omega)
    have k0 := kb.cell 0
    have k1 := kb.cell 1
    clear kb
    go_wp2_with fail
    exact ⟨rfl, rfl, hJ.out.same (by rfl) (NE5.out.keep hJ.out.held.keep)⟩
  simp only [Act.put, List.setIfInBounds_toArray, List.set_cons_zero, List.set_cons_succ, Nat.reduceAdd]
  refine Steps.held ?_ ?_
  · intro L v w' hJ
    have X0 := Lib.hid (show RF w' (v 2) (2) (1) from hJ.out.fact 2 (by kernel_rfl))
    have X1 := Lib.hid (show RF w' (v 3) (y.1) (y.2) from hJ.out.fact 3 (by kernel_rfl))
    go_wp2_with fail
    with_reducible refine (HM1.out _ _ _ X0.out X1.out).mono ?_
    rintro e w1 ⟨u, rfl, hu, hb⟩
    go_wp2_with fail
    exact ⟨rfl, rfl, hJ.out.call (by rfl) hb (hu)⟩
  simp only [Act.put, List.setIfInBounds_toArray, List.set_cons_zero, List.set_cons_succ, Nat.reduceAdd]
  refine Steps.held ?_ ?_
  · intro L v w' hJ
    go_wp2_with fail
    exact ⟨rfl, rfl, hJ.out.same (by rfl) (rfl)⟩
  simp only [Act.put, List.setIfInBounds_toArray, List.set_cons_zero, List.set_cons_succ, Nat.reduceAdd]
  refine Steps.held ?_ ?_
  · intro L v w' hJ
    have hv5 : v 5 = .int .i64 1 := hJ.out.fact 5 (by kernel_rfl)
    simp only [hv5]
    clear hv5
    go_wp2_with fail
    exact ⟨rfl, rfl, hJ.out.same (by rfl) (rfl)⟩
  simp only [Act.put, List.setIfInBounds_toArray, List.set_cons_zero, List.set_cons_succ, Nat.reduceAdd]
  refine Steps.held ?_ ?_
  · intro L v w' hJ
    have hv6 : v 6 = .int .i64 3 := hJ.out.fact 6 (by kernel_rfl)
    simp only [hv6]
    clear hv6
    go_wp2_with fail
    exact ⟨rfl, rfl, hJ.out.same (by rfl) (rfl)⟩
  simp only [Act.put, List.setIfInBounds_toArray, List.set_cons_zero, List.set_cons_succ, Nat.reduceAdd]
  refine Steps.held ?_ ?_
  · intro L v w' hJ
    have hv7 : v 7 = .pointer (some ⟨w.heap.size, 3, none⟩) := hJ.out.fact 7 (by kernel_rfl)
    simp only [hv7]
    clear hv7
    have kb := hJ.out.blk E0.out (by simp [oldsOf, BS, Bx.nat, Bx.rat, Bx.ref, Bx.part] <;> omega)
    have k0 := kb.cell 0
    have k1 := kb.cell 1
    have k2 := kb.cell 2
    have k3 := kb.cell 3
    have k4 := kb.cell 4
    have k5 := kb.cell 5
    clear kb
    go_wp2_with fail
    exact ⟨rfl, rfl, hJ.out.same (by rfl) (rfl)⟩
  simp only [Act.put, List.setIfInBounds_toArray, List.set_cons_zero, List.set_cons_succ, Nat.reduceAdd]
  refine Steps.held ?_ ?_
  · intro L v w' hJ
    have hv8 : v 8 = .int .i64 (m2 : Int) := hJ.out.fact 8 (by kernel_rfl)
    simp only [hv8]
    clear hv8
    go_wp2_with fail
    with_reducible refine (HXL.out _).mono ?_
    rintro e w1 ⟨u, rfl, hu, hb⟩
    go_wp2_with fail
    exact ⟨rfl, rfl, hJ.out.call (by rfl) hb (hu)⟩
  simp only [Act.put, List.setIfInBounds_toArray, List.set_cons_zero, List.set_cons_succ, Nat.reduceAdd]
  refine Steps.held ?_ ?_
  · intro L v w' hJ
    go_wp2_with fail
    exact ⟨rfl, rfl, hJ.out.same (by rfl) (rfl)⟩
  simp only [Act.put, List.setIfInBounds_toArray, List.set_cons_zero, List.set_cons_succ, Nat.reduceAdd]
  refine Steps.held ?_ ?_
  · intro L v w' hJ
    have hv10 : v 10 = .int .i64 1 := hJ.out.fact 10 (by kernel_rfl)
    simp only [hv10]
    clear hv10
    go_wp2_with fail
    exact ⟨rfl, rfl, hJ.out.same (by rfl) (rfl)⟩
  simp only [Act.put, List.setIfInBounds_toArray, List.set_cons_zero, List.set_cons_succ, Nat.reduceAdd]
  refine Steps.held ?_ ?_
  · intro L v w' hJ
    have hv11 : v 11 = .int .i64 2 := hJ.out.fact 11 (by kernel_rfl)
    simp only [hv11]
    clear hv11
    go_wp2_with fail
    exact ⟨rfl, rfl, hJ.out.same (by rfl) (rfl)⟩
  simp only [Act.put, List.setIfInBounds_toArray, List.set_cons_zero, List.set_cons_succ, Nat.reduceAdd]
  refine Steps.held ?_ ?_
  · intro L v w' hJ
    have hv12 : v 12 = .pointer (some ⟨w.heap.size, 2, none⟩) := hJ.out.fact 12 (by kernel_rfl)
    simp only [hv12]
    clear hv12
    have kb := hJ.out.blk E0.out (by simp [oldsOf, BS, Bx.nat, Bx.rat, Bx.ref, Bx.part] <;> omega)
    have k0 := kb.cell 0
    have k1 := kb.cell 1
    have k2 := kb.cell 2
    have k3 := kb.cell 3
    have k4 := kb.cell 4
    have k5 := kb.cell 5
    clear kb
    go_wp2_with fail
    exact ⟨rfl, rfl, hJ.out.same (by rfl) (rfl)⟩
  simp only [Act.put, List.setIfInBounds_toArray, List.set_cons_zero, List.set_cons_succ, Nat.reduceAdd]
  refine Steps.held ?_ ?_
  · intro L v w' hJ
    have hv13 : v 13 = .int .i64 (m1 : Int) := hJ.out.fact 13 (by kernel_rfl)
    simp only [hv13]
    clear hv13
    go_wp2_with fail
    with_reducible refine (HXK.out _).mono ?_
    rintro e w1 ⟨u, rfl, hu, hb⟩
    go_wp2_with fail
    exact ⟨rfl, rfl, hJ.out.call (by rfl) hb (hu)⟩
  simp only [Act.put, List.setIfInBounds_toArray, List.set_cons_zero, List.set_cons_succ, Nat.reduceAdd]
  refine Steps.held ?_ ?_
  · intro L v w' hJ
    have X0 := Lib.hid (show RF w' (v 9) (m2) (1) from hJ.out.fact 9 (by kernel_rfl))
    have X1 := Lib.hid (show RF w' (v 14) (m1) (1) from hJ.out.fact 14 (by kernel_rfl))
    go_wp2_with fail
    with_reducible refine (HDZ.out _ _ _ X0.out X1.out).mono ?_
    rintro e w1 ⟨u, rfl, hu, hb⟩
    go_wp2_with fail
    exact ⟨rfl, rfl, hJ.out.call (by rfl) hb (hu)⟩
  simp only [Act.put, List.setIfInBounds_toArray, List.set_cons_zero, List.set_cons_succ, Nat.reduceAdd]
  refine Steps.held ?_ ?_
  · intro L v w' hJ
    have X0 := Lib.hid (show RF w' (v 4) (t.1) (t.2) from hJ.out.fact 4 (by kernel_rfl))
    have X1 := Lib.hid (show RF w' (v 15) (z.1) (z.2) from hJ.out.fact 15 (by kernel_rfl))
    go_wp2_with fail
    with_reducible refine (HM2.out _ _ _ X0.out X1.out).mono ?_
    rintro e w1 ⟨u, rfl, hu, hb⟩
    go_wp2_with fail
    exact ⟨rfl, rfl, hJ.out.call (by rfl) hb (hu)⟩
  simp only [Act.put, List.setIfInBounds_toArray, List.set_cons_zero, List.set_cons_succ, Nat.reduceAdd]
  refine Steps.held ?_ ?_
  · intro L v w' hJ
    obtain ⟨hown, hst⟩ := hJ.out.oldbox 0 _ rfl (w.heap.size + 1) rfl
    have hN : RF w' (v 16) (r.1) (r.2) := hJ.out.fact 16 (by kernel_rfl)
    obtain ⟨A1, p1, c1, B1, q1, e1, hv, h1, h2⟩ := hN
    have HN := Lib.hid (show RF w' (.agg #[.slice A1 p1 c1, .slice B1 q1 e1]) (r.1) (r.2) from ⟨A1, p1, c1, B1, q1, e1, rfl, h1, h2⟩)
    have kb := hJ.out.box 0 _ rfl rfl (w.heap.size + 1) hown
    have k0 : w'.cell? ⟨(w.heap.size + 1), 0, none⟩ = some ((.slice none 0 0)) := kb.cell 0
    have k1 : w'.cell? ⟨(w.heap.size + 1), 1, none⟩ = some ((.slice none 0 0)) := kb.cell 1
    have f0 := kb.frozen 0
    have f1 := kb.frozen 1
    have HO := Lib.hid hown
    have HS := Lib.hid hst
    clear kb h1 h2 hown hst
    simp only [hv]
    clear hv
    go_wp2_with fail
    exact ⟨rfl, rfl, hJ.out.fill2 0 _ rfl rfl (by rfl) (w.heap.size + 1) HO.out HS.out _ _ rfl rfl rfl (fun W k => HN.out.keep k) (fun _ => trivial)⟩
  simp only [Act.put, List.setIfInBounds_toArray, List.set_cons_zero, List.set_cons_succ, Nat.reduceAdd]
  refine Steps.nil ?_
  intro v w' hJ
  obtain ⟨cs, hblk, hf⟩ := hJ.end_old 0 _ rfl (w.heap.size + 1) rfl (Nat.le_of_ble_eq_true rfl)
  have hf' : RF w' (.agg cs) r.1 r.2 := hf
  obtain ⟨A1, p1, c1, B1, q1, e1, hcs, h1, h2⟩ := hf'
  have hcs' := Value.agg.inj hcs
  subst hcs'
  have k0 := hblk.cell 0
  have k1 := hblk.cell 1
  have hbw : Below w.heap.size w w' := hJ.but.to_below HB0.out HB0.out.size (by intro g hg; simp [oldsOf, BS, Bx.nat, Bx.rat, Bx.ref, Bx.part] at hg; subst hg; omega)
  have HX := Lib.hid (show MkR w r.1 r.2 (.returned (.agg #[.slice A1 p1 c1, .slice B1 q1 e1])) w' from ⟨_, rfl, ⟨A1, p1, c1, B1, q1, e1, rfl, h1, h2⟩, hbw⟩)
  clear hJ h1 h2 hbw hblk hcs hf
  go_wp2_with fail
  exact bodyPost_ret (v := .agg #[.slice A1 p1 c1, .slice B1 q1 e1]) (by simp [results, Try.results124, go_sem, k0, k1]) rfl HX.out
set_option maxRecDepth 100000 in
set_option maxHeartbeats 4000000 in
theorem part2_any (T S0 : Int) (m1 m2 m3 m4 : Nat) (w : World) (p1 : 0 < m1) (pk : 0 < m2) (b1 : m1 ≤ 1099511627776) (b2 : m2 ≤ 1099511627776) (b3 : m3 ≤ 1099511627776) (b4 : m4 ≤ 1099511627776) : Calls Try.prog 124 #[.int .i64 2, .agg #[.int .i64 T, .int .i64 S0, .int .i64 (m1 : Int), .int .i64 (m2 : Int), .int .i64 (m3 : Int), .int .i64 (m4 : Int)]] w (MkR w (prt m1 m2 2 m2 m3).1 (prt m1 m2 2 m2 m3).2) := by
  have HX1 := Lib.hid (fun W => xwhole m1 (by omega) W)
  have HXK := Lib.hid (fun W => xwhole m2 (by omega) W)
  have HXL := Lib.hid (fun W => xwhole m3 (by omega) W)
  have HXS := Lib.hid (fun W => xwhole (m1 + 2 * m2) (by omega) W)
  have HXC : Hid (∀ W, Calls Try.prog 70 #[.int .i64 3] W (MkR W 3 1)) := Lib.hid (fun W => xwhole 3 (by decide) W)
  have e1 : ((m1 + 2 * m2 : Nat) : Int) = (m1 : Int) + 2 * (m2 : Int) := by omega
  rw [e1] at HXS
  have w1' : wrap64 (2 * (m2 : Int)) = 2 * (m2 : Int) := w64 (by omega) (by omega)
  have w2' : wrap64 ((m1 : Int) + 2 * (m2 : Int)) = (m1 : Int) + 2 * (m2 : Int) := w64 (by omega) (by omega)
  have s1 := sz_int (x := m1) (by omega)
  have ss := sz_int (x := m1 + 2 * m2) (by omega)
  have sk := sz_int (x := m2) (by omega)
  have sl := sz_int (x := m3) (by omega)
  have sc : Sz 6 (3, 1) := sz_int (by decide)
  have ry := divR_red (b := (m1 + 2 * m2, 1)) (red_int m1) (by show 0 < m1 + 2 * m2; omega)
  have sy := s1.div ss
  have rz := divR_red (b := (m2, 1)) (red_int m3) pk
  have sz := sl.div sk
  have HDY : Hid (∀ va vb W, RF W va m1 1 → RF W vb (m1 + 2 * m2) 1 → Calls Try.prog 78 #[va, vb] W (MkR W (divR (m1, 1) (m1 + 2 * m2, 1)).1 (divR (m1, 1) (m1 + 2 * m2, 1)).2)) := Lib.hid (fun va vb W h1 h2 => c_xdiv (a := (m1, 1)) (b := (m1 + 2 * m2, 1)) (B := 80) (by decide) (red_int m1) (by show 0 < m1 + 2 * m2; omega) (s1.mono (by decide)) (ss.mono (by decide)) h1 h2)
  have HDZ : Hid (∀ va vb W, RF W va m3 1 → RF W vb m2 1 → Calls Try.prog 78 #[va, vb] W (MkR W (divR (m3, 1) (m2, 1)).1 (divR (m3, 1) (m2, 1)).2)) := Lib.hid (fun va vb W h1 h2 => c_xdiv (a := (m3, 1)) (b := (m2, 1)) (B := 80) (by decide) (red_int m3) pk (sl.mono (by decide)) (sk.mono (by decide)) h1 h2)
  unfold prt
  generalize divR (m1, 1) (m1 + 2 * m2, 1) = y at *
  generalize divR (m3, 1) (m2, 1) = z at *
  have HM1 : Hid (∀ va vb W, RF W va 3 1 → RF W vb y.1 y.2 → Calls Try.prog 77 #[va, vb] W (MkR W (mulR (3, 1) y).1 (mulR (3, 1) y).2)) := Lib.hid (fun va vb W h1 h2 => c_xmul (a := (3, 1)) (B := 80) (by decide) (red_int 3) ry (sc.mono (by decide)) (sy.mono (by decide)) h1 h2)
  have rt := mulR_red (red_int 3) ry
  have st := sc.mul sy
  have HM2 := Lib.hid (fun va vb W h1 h2 => c_xmul (a := mulR (3, 1) y) (b := z) (va := va) (vb := vb) (W := W) (B := 80) (by decide) rt rz (st.mono (by decide)) (sz.mono (by decide)) h1 h2)
  have e2 : (2 + 1, 1) = ((3, 1) : Nat × Nat) := rfl
  rw [e2]
  generalize mulR (3, 1) y = t at *
  generalize mulR t z = r at *
  clear e1 e2 s1 ss sk sl sc ry sy rz sz rt st p1 pk b1 b2 b3 b4
  have e0 := (Blk.new (w) 103 #[.int .i64 T, .int .i64 S0, .int .i64 (m1 : Int), .int .i64 (m2 : Int), .int .i64 (m3 : Int), .int .i64 (m4 : Int)]).alloc (.cells #[(.slice none 0 0), (.slice none 0 0)] 52)
  have e1 := Blk.new ((w).alloc (.cells #[.int .i64 T, .int .i64 S0, .int .i64 (m1 : Int), .int .i64 (m2 : Int), .int .i64 (m3 : Int), .int .i64 (m4 : Int)] 103)) 52 #[(.slice none 0 0), (.slice none 0 0)]
  have hb := cba (cba (Below.refl _ w) (.cells #[.int .i64 T, .int .i64 S0, .int .i64 (m1 : Int), .int .i64 (m2 : Int), .int .i64 (m3 : Int), .int .i64 (m4 : Int)] 103)) (.cells #[(.slice none 0 0), (.slice none 0 0)] 52)
  simp only [World.size_alloc] at e1
  have hsz : w.heap.size ≤ w.heap.size := Nat.le_refl _
  go_enter Try.func124, Try.ntmps124
  go_upto_region 1 with (fail)
  obtain ⟨S, hS⟩ : ∃ S, ((w).alloc (.cells #[.int .i64 T, .int .i64 S0, .int .i64 (m1 : Int), .int .i64 (m2 : Int), .int .i64 (m3 : Int), .int .i64 (m4 : Int)] 103)).alloc (.cells #[(.slice none 0 0), (.slice none 0 0)] 52) = S := ⟨_, rfl⟩
  rw [hS] at e0 e1 hb ⊢
  have HB0 := Lib.hid hb
  have E0 := Lib.hid e0
  have E1 := Lib.hid e1
  clear hS hb hsz e0 e1
  go_wp2_with fail
  let FS : List Kept1 := [.eq (.pointer (some ⟨w.heap.size, 2, none⟩)), .eq (.int .i64 (m1 : Int)), .rf (m1) (1), .eq (.pointer (some ⟨w.heap.size, 2, none⟩)), .eq (.int .i64 (m1 : Int)), .eq (.pointer (some ⟨w.heap.size, 3, none⟩)), .eq (.int .i64 (m2 : Int)), .eq (.int .i64 (2 * (m2 : Int))), .eq (.int .i64 ((m1 : Int) + 2 * (m2 : Int))), .rf (m1 + 2 * m2) (1), .rf (y.1) (y.2), .any, .any]
  let BS : List Bx := [Bx.ref (.inl 11) 12 #[.slice none 0 0, .slice none 0 0] (y.1) (y.2)]
  refine region_mono (Held S (fun j => FS.getD j .any) BS) (by kernel_rfl) (by kernel_rfl) (by kernel_rfl) (Held.start _ _ _ (by simp [BS, Bx.nat, Bx.rat, Bx.ref, Bx.part]) (by simp [BS, Bx.nat, Bx.rat, Bx.ref, Bx.part])) ?_
  refine Steps.held ?_ ?_
  · intro L v w' hJ
    go_wp2_with fail
    exact ⟨rfl, rfl, hJ.out.same (by rfl) (rfl)⟩
  simp only [Act.put, List.setIfInBounds_toArray, List.set_cons_zero, List.set_cons_succ, Nat.reduceAdd]
  refine Steps.held ?_ ?_
  · intro L v w' hJ
    have hv0 : v 0 = .pointer (some ⟨w.heap.size, 2, none⟩) := hJ.out.fact 0 (by kernel_rfl)
    simp only [hv0]
    clear hv0
    have kb := hJ.out.blk E0.out (by simp [oldsOf, BS, Bx.nat, Bx.rat, Bx.ref, Bx.part])
    have k0 := kb.cell 0
    have k1 := kb.cell 1
    have k2 := kb.cell 2
    have k3 := kb.cell 3
    have k4 := kb.cell 4
    have k5 := kb.cell 5
    clear kb
    go_wp2_with fail
    exact ⟨rfl, rfl, hJ.out.same (by rfl) (rfl)⟩
  simp only [Act.put, List.setIfInBounds_toArray, List.set_cons_zero, List.set_cons_succ, Nat.reduceAdd]
  refine Steps.held ?_ ?_
  · intro L v w' hJ
    have hv1 : v 1 = .int .i64 (m1 : Int) := hJ.out.fact 1 (by kernel_rfl)
    simp only [hv1]
    clear hv1
    go_wp2_with fail
    with_reducible refine (HX1.out _).mono ?_
    rintro e w1 ⟨u, rfl, hu, hb⟩
    go_wp2_with fail
    exact ⟨rfl, rfl, hJ.out.call (by rfl) hb (hu)⟩
  simp only [Act.put, List.setIfInBounds_toArray, List.set_cons_zero, List.set_cons_succ, Nat.reduceAdd]
  refine Steps.held ?_ ?_
  · intro L v w' hJ
    go_wp2_with fail
    exact ⟨rfl, rfl, hJ.out.same (by rfl) (rfl)⟩
  simp only [Act.put, List.setIfInBounds_toArray, List.set_cons_zero, List.set_cons_succ, Nat.reduceAdd]
  refine Steps.held ?_ ?_
  · intro L v w' hJ
    have hv3 : v 3 = .pointer (some ⟨w.heap.size, 2, none⟩) := hJ.out.fact 3 (by kernel_rfl)
    simp only [hv3]
    clear hv3
    have kb := hJ.out.blk E0.out (by simp [oldsOf, BS, Bx.nat, Bx.rat, Bx.ref, Bx.part])
    have k0 := kb.cell 0
    have k1 := kb.cell 1
    have k2 := kb.cell 2
    have k3 := kb.cell 3
    have k4 := kb.cell 4
    have k5 := kb.cell 5
    clear kb
    go_wp2_with fail
    exact ⟨rfl, rfl, hJ.out.same (by rfl) (rfl)⟩
  simp only [Act.put, List.setIfInBounds_toArray, List.set_cons_zero, List.set_cons_succ, Nat.reduceAdd]
  refine Steps.held ?_ ?_
  · intro L v w' hJ
    go_wp2_with fail
    exact ⟨rfl, rfl, hJ.out.same (by rfl) (rfl)⟩
  simp only [Act.put, List.setIfInBounds_toArray, List.set_cons_zero, List.set_cons_succ, Nat.reduceAdd]
  refine Steps.held ?_ ?_
  · intro L v w' hJ
    have hv5 : v 5 = .pointer (some ⟨w.heap.size, 3, none⟩) := hJ.out.fact 5 (by kernel_rfl)
    simp only [hv5]
    clear hv5
    have kb := hJ.out.blk E0.out (by simp [oldsOf, BS, Bx.nat, Bx.rat, Bx.ref, Bx.part])
    have k0 := kb.cell 0
    have k1 := kb.cell 1
    have k2 := kb.cell 2
    have k3 := kb.cell 3
    have k4 := kb.cell 4
    have k5 := kb.cell 5
    clear kb
    go_wp2_with fail
    exact ⟨rfl, rfl, hJ.out.same (by rfl) (rfl)⟩
  simp only [Act.put, List.setIfInBounds_toArray, List.set_cons_zero, List.set_cons_succ, Nat.reduceAdd]
  refine Steps.held ?_ ?_
  · intro L v w' hJ
    have hv6 : v 6 = .int .i64 (m2 : Int) := hJ.out.fact 6 (by kernel_rfl)
    simp only [hv6]
    clear hv6
    go_wp2_with fail
    exact ⟨rfl, rfl, hJ.out.same (by rfl) (congrArg (Value.int .i64) w1')⟩
  simp only [Act.put, List.setIfInBounds_toArray, List.set_cons_zero, List.set_cons_succ, Nat.reduceAdd]
  refine Steps.held ?_ ?_
  · intro L v w' hJ
    have hv4 : v 4 = .int .i64 (m1 : Int) := hJ.out.fact 4 (by kernel_rfl)
    simp only [hv4]
    clear hv4
    have hv7 : v 7 = .int .i64 (2 * (m2 : Int)) := hJ.out.fact 7 (by kernel_rfl)
    simp only [hv7]
    clear hv7
    go_wp2_with fail
    exact ⟨rfl, rfl, hJ.out.same (by rfl) (congrArg (Value.int .i64) w2')⟩
  simp only [Act.put, List.setIfInBounds_toArray, List.set_cons_zero, List.set_cons_succ, Nat.reduceAdd]
  refine Steps.held ?_ ?_
  · intro L v w' hJ
    have hv8 : v 8 = .int .i64 ((m1 : Int) + 2 * (m2 : Int)) := hJ.out.fact 8 (by kernel_rfl)
    simp only [hv8]
    clear hv8
    go_wp2_with fail
    with_reducible refine (HXS.out _).mono ?_
    rintro e w1 ⟨u, rfl, hu, hb⟩
    go_wp2_with fail
    exact ⟨rfl, rfl, hJ.out.call (by rfl) hb (hu)⟩
  simp only [Act.put, List.setIfInBounds_toArray, List.set_cons_zero, List.set_cons_succ, Nat.reduceAdd]
  refine Steps.held ?_ ?_
  · intro L v w' hJ
    have X0 := Lib.hid (show RF w' (v 2) (m1) (1) from hJ.out.fact 2 (by kernel_rfl))
    have X1 := Lib.hid (show RF w' (v 9) (m1 + 2 * m2) (1) from hJ.out.fact 9 (by kernel_rfl))
    go_wp2_with fail
    with_reducible refine (HDY.out _ _ _ X0.out X1.out).mono ?_
    rintro e w1 ⟨u, rfl, hu, hb⟩
    go_wp2_with fail
    exact ⟨rfl, rfl, hJ.out.call (by rfl) hb (hu)⟩
  simp only [Act.put, List.setIfInBounds_toArray, List.set_cons_zero, List.set_cons_succ, Nat.reduceAdd]
  refine Steps.held ?_ ?_
  · intro L v w' hJ
    go_wp2_with fail
    exact ⟨rfl, rfl, hJ.out.made 0 _ rfl rfl (by rfl) trivial⟩
  simp only [Act.put, List.setIfInBounds_toArray, List.set_cons_zero, List.set_cons_succ, Nat.reduceAdd]
  refine Steps.held ?_ ?_
  · intro L v w' hJ
    obtain ⟨g, hg, hge, hown, hst⟩ := hJ.out.newbox 0 _ rfl 11 rfl (by kernel_rfl)
    have hN : RF w' (v 10) (y.1) (y.2) := hJ.out.fact 10 (by kernel_rfl)
    obtain ⟨A1, p1, c1, B1, q1, e1, hv, h1, h2⟩ := hN
    have HN := Lib.hid (show RF w' (.agg #[.slice A1 p1 c1, .slice B1 q1 e1]) (y.1) (y.2) from ⟨A1, p1, c1, B1, q1, e1, rfl, h1, h2⟩)
    have kb := hJ.out.box 0 _ rfl rfl g hown
    have k0 : w'.cell? ⟨g, 0, none⟩ = some (.slice none 0 0) := kb.cell 0
    have k1 : w'.cell? ⟨g, 1, none⟩ = some (.slice none 0 0) := kb.cell 1
    have f0 := kb.frozen 0
    have f1 := kb.frozen 1
    have HO := Lib.hid hown
    have HS := Lib.hid hst
    clear kb h1 h2 hown hst
    simp only [hg, hv]
    clear hg hv
    go_wp2_with fail
    exact ⟨rfl, rfl, hJ.out.fill2 0 _ rfl rfl (by rfl) g HO.out HS.out _ _ rfl rfl rfl (fun W k => HN.out.keep k) (fun _ => trivial)⟩
  simp only [Act.put, List.setIfInBounds_toArray, List.set_cons_zero, List.set_cons_succ, Nat.reduceAdd]
  refine Steps.nil ?_
  intro v w' hJ
  obtain ⟨g5, cs11, hv11, hge11, hb11, hf11⟩ := hJ.end_new 0 _ rfl 11 rfl (by decide) (Nat.le_of_ble_eq_true rfl)
  have hfx : RF w' (.agg cs11) y.1 y.2 := hf11
  obtain ⟨A11, p11, c11, B11, q11, e11, hcs11, h1, h2⟩ := hfx
  have hcs11' := Value.agg.inj hcs11
  subst hcs11'
  simp only [hv11]
  have E5 := Lib.hid (show Blk w' g5 52 #[.slice A11 p11 c11, .slice B11 q11 e11] from hb11)
  have NE5 := Lib.hid (show RF w' (.agg #[.slice A11 p11 c11, .slice B11 q11 e11]) y.1 y.2 from hf11)
  clear hv11 hb11 hf11 hcs11 h1 h2
  have hge5 := E1.out.lt
  have hbr := hJ.but.below
  replace E0 := Lib.hid (blk_below E0.out hbr)
  replace E1 := Lib.hid (blk_below E1.out hbr)
  replace HB0 := Lib.hid (cbt HB0.out hbr)
  clear hJ hbr
  go_wp2_with fail
  let FS : List Kept1 := [.eq (.int .i64 2), .eq (.int .i64 3), .rf (3) (1), .rf (y.1) (y.2), .rf (t.1) (t.2), .eq (.int .i64 2), .eq (.int .i64 4), .eq (.pointer (some ⟨w.heap.size, 4, none⟩)), .eq (.int .i64 (m3 : Int)), .rf (m3) (1), .eq (.int .i64 2), .eq (.int .i64 3), .eq (.pointer (some ⟨w.heap.size, 3, none⟩)), .eq (.int .i64 (m2 : Int)), .rf (m2) (1), .rf (z.1) (z.2), .rf (r.1) (r.2), .any]
  let BS : List Bx := [Bx.ref (.inr (w.heap.size + 1)) 17 #[(.slice none 0 0), (.slice none 0 0)] (r.1) (r.2)]
  refine region_mono (Held w' (fun j => FS.getD j .any) BS) (by kernel_rfl) (by kernel_rfl) (by kernel_rfl) (Held.start _ _ _ (by simp [BS, Bx.nat, Bx.rat, Bx.ref, Bx.part] <;> exact E1.out) (by simp [BS, Bx.nat, Bx.rat, Bx.ref, Bx.part])) ?_
  refine Steps.held ?_ ?_
  · intro L v w' hJ
    go_wp2_with fail
    exact ⟨rfl, rfl, hJ.out.same (by rfl) (rfl)⟩
  simp only [Act.put, List.setIfInBounds_toArray, List.set_cons_zero, List.set_cons_succ, Nat.reduceAdd]
  refine Steps.held ?_ ?_
  · intro L v w' hJ
    have hv0 : v 0 = .int .i64 2 := hJ.out.fact 0 (by kernel_rfl)
    simp only [hv0]
    clear hv0
    go_wp2_with fail
    exact ⟨rfl, rfl, hJ.out.same (by rfl) (rfl)⟩
  simp only [Act.put, List.setIfInBounds_toArray, List.set_cons_zero, List.set_cons_succ, Nat.reduceAdd]
  refine Steps.held ?_ ?_
  · intro L v w' hJ
    have hv1 : v 1 = .int .i64 3 := hJ.out.fact 1 (by kernel_rfl)
    simp only [hv1]
    clear hv1
    go_wp2_with fail
    with_reducible refine (HXC.out _).mono ?_
    rintro e w1 ⟨u, rfl, hu, hb⟩
    go_wp2_with fail
    exact ⟨rfl, rfl, hJ.out.call (by rfl) hb (hu)⟩
  simp only [Act.put, List.setIfInBounds_toArray, List.set_cons_zero, List.set_cons_succ, Nat.reduceAdd]
  refine Steps.held ?_ ?_
  · intro L v w' hJ
    have kb := hJ.out.blk E5.out (by simp [oldsOf, BS, Bx.nat, Bx.rat, Bx.ref, Bx.part] <;> omega)
    have k0 := kb.cell 0
    have k1 := kb.cell 1
    clear kb
    go_wp2_with fail
    exact ⟨rfl, rfl, hJ.out.same (by rfl) (NE5.out.keep hJ.out.held.keep)⟩
  simp only [Act.put, List.setIfInBounds_toArray, List.set_cons_zero, List.set_cons_succ, Nat.reduceAdd]
  refine Steps.held ?_ ?_
  · intro L v w' hJ
    have X0 := Lib.hid (show RF w' (v 2) (3) (1) from hJ.out.fact 2 (by kernel_rfl))
    have X1 := Lib.hid (show RF w' (v 3) (y.1) (y.2) from hJ.out.fact 3 (by kernel_rfl))
    go_wp2_with fail
    with_reducible refine (HM1.out _ _ _ X0.out X1.out).mono ?_
    rintro e w1 ⟨u, rfl, hu, hb⟩
    go_wp2_with fail
    exact ⟨rfl, rfl, hJ.out.call (by rfl) hb (hu)⟩
  simp only [Act.put, List.setIfInBounds_toArray, List.set_cons_zero, List.set_cons_succ, Nat.reduceAdd]
  refine Steps.held ?_ ?_
  · intro L v w' hJ
    go_wp2_with fail
    exact ⟨rfl, rfl, hJ.out.same (by rfl) (rfl)⟩
  simp only [Act.put, List.setIfInBounds_toArray, List.set_cons_zero, List.set_cons_succ, Nat.reduceAdd]
  refine Steps.held ?_ ?_
  · intro L v w' hJ
    have hv5 : v 5 = .int .i64 2 := hJ.out.fact 5 (by kernel_rfl)
    simp only [hv5]
    clear hv5
    go_wp2_with fail
    exact ⟨rfl, rfl, hJ.out.same (by rfl) (rfl)⟩
  simp only [Act.put, List.setIfInBounds_toArray, List.set_cons_zero, List.set_cons_succ, Nat.reduceAdd]
  refine Steps.held ?_ ?_
  · intro L v w' hJ
    have hv6 : v 6 = .int .i64 4 := hJ.out.fact 6 (by kernel_rfl)
    simp only [hv6]
    clear hv6
    go_wp2_with fail
    exact ⟨rfl, rfl, hJ.out.same (by rfl) (rfl)⟩
  simp only [Act.put, List.setIfInBounds_toArray, List.set_cons_zero, List.set_cons_succ, Nat.reduceAdd]
  refine Steps.held ?_ ?_
  · intro L v w' hJ
    have hv7 : v 7 = .pointer (some ⟨w.heap.size, 4, none⟩) := hJ.out.fact 7 (by kernel_rfl)
    simp only [hv7]
    clear hv7
    have kb := hJ.out.blk E0.out (by simp [oldsOf, BS, Bx.nat, Bx.rat, Bx.ref, Bx.part] <;> omega)
    have k0 := kb.cell 0
    have k1 := kb.cell 1
    have k2 := kb.cell 2
    have k3 := kb.cell 3
    have k4 := kb.cell 4
    have k5 := kb.cell 5
    clear kb
    go_wp2_with fail
    exact ⟨rfl, rfl, hJ.out.same (by rfl) (rfl)⟩
  simp only [Act.put, List.setIfInBounds_toArray, List.set_cons_zero, List.set_cons_succ, Nat.reduceAdd]
  refine Steps.held ?_ ?_
  · intro L v w' hJ
    have hv8 : v 8 = .int .i64 (m3 : Int) := hJ.out.fact 8 (by kernel_rfl)
    simp only [hv8]
    clear hv8
    go_wp2_with fail
    with_reducible refine (HXL.out _).mono ?_
    rintro e w1 ⟨u, rfl, hu, hb⟩
    go_wp2_with fail
    exact ⟨rfl, rfl, hJ.out.call (by rfl) hb (hu)⟩
  simp only [Act.put, List.setIfInBounds_toArray, List.set_cons_zero, List.set_cons_succ, Nat.reduceAdd]
  refine Steps.held ?_ ?_
  · intro L v w' hJ
    go_wp2_with fail
    exact ⟨rfl, rfl, hJ.out.same (by rfl) (rfl)⟩
  simp only [Act.put, List.setIfInBounds_toArray, List.set_cons_zero, List.set_cons_succ, Nat.reduceAdd]
  refine Steps.held ?_ ?_
  · intro L v w' hJ
    have hv10 : v 10 = .int .i64 2 := hJ.out.fact 10 (by kernel_rfl)
    simp only [hv10]
    clear hv10
    go_wp2_with fail
    exact ⟨rfl, rfl, hJ.out.same (by rfl) (rfl)⟩
  simp only [Act.put, List.setIfInBounds_toArray, List.set_cons_zero, List.set_cons_succ, Nat.reduceAdd]
  refine Steps.held ?_ ?_
  · intro L v w' hJ
    have hv11 : v 11 = .int .i64 3 := hJ.out.fact 11 (by kernel_rfl)
    simp only [hv11]
    clear hv11
    go_wp2_with fail
    exact ⟨rfl, rfl, hJ.out.same (by rfl) (rfl)⟩
  simp only [Act.put, List.setIfInBounds_toArray, List.set_cons_zero, List.set_cons_succ, Nat.reduceAdd]
  refine Steps.held ?_ ?_
  · intro L v w' hJ
    have hv12 : v 12 = .pointer (some ⟨w.heap.size, 3, none⟩) := hJ.out.fact 12 (by kernel_rfl)
    simp only [hv12]
    clear hv12
    have kb := hJ.out.blk E0.out (by simp [oldsOf, BS, Bx.nat, Bx.rat, Bx.ref, Bx.part] <;> omega)
    have k0 := kb.cell 0
    have k1 := kb.cell 1
    have k2 := kb.cell 2
    have k3 := kb.cell 3
    have k4 := kb.cell 4
    have k5 := kb.cell 5
    clear kb
    go_wp2_with fail
    exact ⟨rfl, rfl, hJ.out.same (by rfl) (rfl)⟩
  simp only [Act.put, List.setIfInBounds_toArray, List.set_cons_zero, List.set_cons_succ, Nat.reduceAdd]
  refine Steps.held ?_ ?_
  · intro L v w' hJ
    have hv13 : v 13 = .int .i64 (m2 : Int) := hJ.out.fact 13 (by kernel_rfl)
    simp only [hv13]
    clear hv13
    go_wp2_with fail
    with_reducible refine (HXK.out _).mono ?_
    rintro e w1 ⟨u, rfl, hu, hb⟩
    go_wp2_with fail
    exact ⟨rfl, rfl, hJ.out.call (by rfl) hb (hu)⟩
  simp only [Act.put, List.setIfInBounds_toArray, List.set_cons_zero, List.set_cons_succ, Nat.reduceAdd]
  refine Steps.held ?_ ?_
  · intro L v w' hJ
    have X0 := Lib.hid (show RF w' (v 9) (m3) (1) from hJ.out.fact 9 (by kernel_rfl))
    have X1 := Lib.hid (show RF w' (v 14) (m2) (1) from hJ.out.fact 14 (by kernel_rfl))
    go_wp2_with fail
    with_reducible refine (HDZ.out _ _ _ X0.out X1.out).mono ?_
    rintro e w1 ⟨u, rfl, hu, hb⟩
    go_wp2_with fail
    exact ⟨rfl, rfl, hJ.out.call (by rfl) hb (hu)⟩
  simp only [Act.put, List.setIfInBounds_toArray, List.set_cons_zero, List.set_cons_succ, Nat.reduceAdd]
  refine Steps.held ?_ ?_
  · intro L v w' hJ
    have X0 := Lib.hid (show RF w' (v 4) (t.1) (t.2) from hJ.out.fact 4 (by kernel_rfl))
    have X1 := Lib.hid (show RF w' (v 15) (z.1) (z.2) from hJ.out.fact 15 (by kernel_rfl))
    go_wp2_with fail
    with_reducible refine (HM2.out _ _ _ X0.out X1.out).mono ?_
    rintro e w1 ⟨u, rfl, hu, hb⟩
    go_wp2_with fail
    exact ⟨rfl, rfl, hJ.out.call (by rfl) hb (hu)⟩
  simp only [Act.put, List.setIfInBounds_toArray, List.set_cons_zero, List.set_cons_succ, Nat.reduceAdd]
  refine Steps.held ?_ ?_
  · intro L v w' hJ
    obtain ⟨hown, hst⟩ := hJ.out.oldbox 0 _ rfl (w.heap.size + 1) rfl
    have hN : RF w' (v 16) (r.1) (r.2) := hJ.out.fact 16 (by kernel_rfl)
    obtain ⟨A1, p1, c1, B1, q1, e1, hv, h1, h2⟩ := hN
    have HN := Lib.hid (show RF w' (.agg #[.slice A1 p1 c1, .slice B1 q1 e1]) (r.1) (r.2) from ⟨A1, p1, c1, B1, q1, e1, rfl, h1, h2⟩)
    have kb := hJ.out.box 0 _ rfl rfl (w.heap.size + 1) hown
    have k0 : w'.cell? ⟨(w.heap.size + 1), 0, none⟩ = some ((.slice none 0 0)) := kb.cell 0
    have k1 : w'.cell? ⟨(w.heap.size + 1), 1, none⟩ = some ((.slice none 0 0)) := kb.cell 1
    have f0 := kb.frozen 0
    have f1 := kb.frozen 1
    have HO := Lib.hid hown
    have HS := Lib.hid hst
    clear kb h1 h2 hown hst
    simp only [hv]
    clear hv
    go_wp2_with fail
    exact ⟨rfl, rfl, hJ.out.fill2 0 _ rfl rfl (by rfl) (w.heap.size + 1) HO.out HS.out _ _ rfl rfl rfl (fun W k => HN.out.keep k) (fun _ => trivial)⟩
  simp only [Act.put, List.setIfInBounds_toArray, List.set_cons_zero, List.set_cons_succ, Nat.reduceAdd]
  refine Steps.nil ?_
  intro v w' hJ
  obtain ⟨cs, hblk, hf⟩ := hJ.end_old 0 _ rfl (w.heap.size + 1) rfl (Nat.le_of_ble_eq_true rfl)
  have hf' : RF w' (.agg cs) r.1 r.2 := hf
  obtain ⟨A1, p1, c1, B1, q1, e1, hcs, h1, h2⟩ := hf'
  have hcs' := Value.agg.inj hcs
  subst hcs'
  have k0 := hblk.cell 0
  have k1 := hblk.cell 1
  have hbw : Below w.heap.size w w' := hJ.but.to_below HB0.out HB0.out.size (by intro g hg; simp [oldsOf, BS, Bx.nat, Bx.rat, Bx.ref, Bx.part] at hg; subst hg; omega)
  have HX := Lib.hid (show MkR w r.1 r.2 (.returned (.agg #[.slice A1 p1 c1, .slice B1 q1 e1])) w' from ⟨_, rfl, ⟨A1, p1, c1, B1, q1, e1, rfl, h1, h2⟩, hbw⟩)
  clear hJ h1 h2 hbw hblk hcs hf
  go_wp2_with fail
  exact bodyPost_ret (v := .agg #[.slice A1 p1 c1, .slice B1 q1 e1]) (by simp [results, Try.results124, go_sem, k0, k1]) rfl HX.out
set_option maxRecDepth 100000 in
set_option maxHeartbeats 4000000 in
theorem part3_any (T S0 : Int) (m1 m2 m3 m4 : Nat) (w : World) (p1 : 0 < m1) (pk : 0 < m3) (b1 : m1 ≤ 1099511627776) (b2 : m2 ≤ 1099511627776) (b3 : m3 ≤ 1099511627776) (b4 : m4 ≤ 1099511627776) : Calls Try.prog 124 #[.int .i64 3, .agg #[.int .i64 T, .int .i64 S0, .int .i64 (m1 : Int), .int .i64 (m2 : Int), .int .i64 (m3 : Int), .int .i64 (m4 : Int)]] w (MkR w (prt m1 m2 3 m3 m4).1 (prt m1 m2 3 m3 m4).2) := by
  have HX1 := Lib.hid (fun W => xwhole m1 (by omega) W)
  have HXK := Lib.hid (fun W => xwhole m3 (by omega) W)
  have HXL := Lib.hid (fun W => xwhole m4 (by omega) W)
  have HXS := Lib.hid (fun W => xwhole (m1 + 2 * m2) (by omega) W)
  have HXC : Hid (∀ W, Calls Try.prog 70 #[.int .i64 4] W (MkR W 4 1)) := Lib.hid (fun W => xwhole 4 (by decide) W)
  have e1 : ((m1 + 2 * m2 : Nat) : Int) = (m1 : Int) + 2 * (m2 : Int) := by omega
  rw [e1] at HXS
  have w1' : wrap64 (2 * (m2 : Int)) = 2 * (m2 : Int) := w64 (by omega) (by omega)
  have w2' : wrap64 ((m1 : Int) + 2 * (m2 : Int)) = (m1 : Int) + 2 * (m2 : Int) := w64 (by omega) (by omega)
  have s1 := sz_int (x := m1) (by omega)
  have ss := sz_int (x := m1 + 2 * m2) (by omega)
  have sk := sz_int (x := m3) (by omega)
  have sl := sz_int (x := m4) (by omega)
  have sc : Sz 6 (4, 1) := sz_int (by decide)
  have ry := divR_red (b := (m1 + 2 * m2, 1)) (red_int m1) (by show 0 < m1 + 2 * m2; omega)
  have sy := s1.div ss
  have rz := divR_red (b := (m3, 1)) (red_int m4) pk
  have sz := sl.div sk
  have HDY : Hid (∀ va vb W, RF W va m1 1 → RF W vb (m1 + 2 * m2) 1 → Calls Try.prog 78 #[va, vb] W (MkR W (divR (m1, 1) (m1 + 2 * m2, 1)).1 (divR (m1, 1) (m1 + 2 * m2, 1)).2)) := Lib.hid (fun va vb W h1 h2 => c_xdiv (a := (m1, 1)) (b := (m1 + 2 * m2, 1)) (B := 80) (by decide) (red_int m1) (by show 0 < m1 + 2 * m2; omega) (s1.mono (by decide)) (ss.mono (by decide)) h1 h2)
  have HDZ : Hid (∀ va vb W, RF W va m4 1 → RF W vb m3 1 → Calls Try.prog 78 #[va, vb] W (MkR W (divR (m4, 1) (m3, 1)).1 (divR (m4, 1) (m3, 1)).2)) := Lib.hid (fun va vb W h1 h2 => c_xdiv (a := (m4, 1)) (b := (m3, 1)) (B := 80) (by decide) (red_int m4) pk (sl.mono (by decide)) (sk.mono (by decide)) h1 h2)
  unfold prt
  generalize divR (m1, 1) (m1 + 2 * m2, 1) = y at *
  generalize divR (m4, 1) (m3, 1) = z at *
  have HM1 : Hid (∀ va vb W, RF W va 4 1 → RF W vb y.1 y.2 → Calls Try.prog 77 #[va, vb] W (MkR W (mulR (4, 1) y).1 (mulR (4, 1) y).2)) := Lib.hid (fun va vb W h1 h2 => c_xmul (a := (4, 1)) (B := 80) (by decide) (red_int 4) ry (sc.mono (by decide)) (sy.mono (by decide)) h1 h2)
  have rt := mulR_red (red_int 4) ry
  have st := sc.mul sy
  have HM2 := Lib.hid (fun va vb W h1 h2 => c_xmul (a := mulR (4, 1) y) (b := z) (va := va) (vb := vb) (W := W) (B := 80) (by decide) rt rz (st.mono (by decide)) (sz.mono (by decide)) h1 h2)
  have e2 : (3 + 1, 1) = ((4, 1) : Nat × Nat) := rfl
  rw [e2]
  generalize mulR (4, 1) y = t at *
  generalize mulR t z = r at *
  clear e1 e2 s1 ss sk sl sc ry sy rz sz rt st p1 pk b1 b2 b3 b4
  have e0 := (Blk.new (w) 103 #[.int .i64 T, .int .i64 S0, .int .i64 (m1 : Int), .int .i64 (m2 : Int), .int .i64 (m3 : Int), .int .i64 (m4 : Int)]).alloc (.cells #[(.slice none 0 0), (.slice none 0 0)] 52)
  have e1 := Blk.new ((w).alloc (.cells #[.int .i64 T, .int .i64 S0, .int .i64 (m1 : Int), .int .i64 (m2 : Int), .int .i64 (m3 : Int), .int .i64 (m4 : Int)] 103)) 52 #[(.slice none 0 0), (.slice none 0 0)]
  have hb := cba (cba (Below.refl _ w) (.cells #[.int .i64 T, .int .i64 S0, .int .i64 (m1 : Int), .int .i64 (m2 : Int), .int .i64 (m3 : Int), .int .i64 (m4 : Int)] 103)) (.cells #[(.slice none 0 0), (.slice none 0 0)] 52)
  simp only [World.size_alloc] at e1
  have hsz : w.heap.size ≤ w.heap.size := Nat.le_refl _
  go_enter Try.func124, Try.ntmps124
  go_upto_region 1 with (fail)
  obtain ⟨S, hS⟩ : ∃ S, ((w).alloc (.cells #[.int .i64 T, .int .i64 S0, .int .i64 (m1 : Int), .int .i64 (m2 : Int), .int .i64 (m3 : Int), .int .i64 (m4 : Int)] 103)).alloc (.cells #[(.slice none 0 0), (.slice none 0 0)] 52) = S := ⟨_, rfl⟩
  rw [hS] at e0 e1 hb ⊢
  have HB0 := Lib.hid hb
  have E0 := Lib.hid e0
  have E1 := Lib.hid e1
  clear hS hb hsz e0 e1
  go_wp2_with fail
  let FS : List Kept1 := [.eq (.pointer (some ⟨w.heap.size, 2, none⟩)), .eq (.int .i64 (m1 : Int)), .rf (m1) (1), .eq (.pointer (some ⟨w.heap.size, 2, none⟩)), .eq (.int .i64 (m1 : Int)), .eq (.pointer (some ⟨w.heap.size, 3, none⟩)), .eq (.int .i64 (m2 : Int)), .eq (.int .i64 (2 * (m2 : Int))), .eq (.int .i64 ((m1 : Int) + 2 * (m2 : Int))), .rf (m1 + 2 * m2) (1), .rf (y.1) (y.2), .any, .any]
  let BS : List Bx := [Bx.ref (.inl 11) 12 #[.slice none 0 0, .slice none 0 0] (y.1) (y.2)]
  refine region_mono (Held S (fun j => FS.getD j .any) BS) (by kernel_rfl) (by kernel_rfl) (by kernel_rfl) (Held.start _ _ _ (by simp [BS, Bx.nat, Bx.rat, Bx.ref, Bx.part]) (by simp [BS, Bx.nat, Bx.rat, Bx.ref, Bx.part])) ?_
  refine Steps.held ?_ ?_
  · intro L v w' hJ
    go_wp2_with fail
    exact ⟨rfl, rfl, hJ.out.same (by rfl) (rfl)⟩
  simp only [Act.put, List.setIfInBounds_toArray, List.set_cons_zero, List.set_cons_succ, Nat.reduceAdd]
  refine Steps.held ?_ ?_
  · intro L v w' hJ
    have hv0 : v 0 = .pointer (some ⟨w.heap.size, 2, none⟩) := hJ.out.fact 0 (by kernel_rfl)
    simp only [hv0]
    clear hv0
    have kb := hJ.out.blk E0.out (by simp [oldsOf, BS, Bx.nat, Bx.rat, Bx.ref, Bx.part])
    have k0 := kb.cell 0
    have k1 := kb.cell 1
    have k2 := kb.cell 2
    have k3 := kb.cell 3
    have k4 := kb.cell 4
    have k5 := kb.cell 5
    clear kb
    go_wp2_with fail
    exact ⟨rfl, rfl, hJ.out.same (by rfl) (rfl)⟩
  simp only [Act.put, List.setIfInBounds_toArray, List.set_cons_zero, List.set_cons_succ, Nat.reduceAdd]
  refine Steps.held ?_ ?_
  · intro L v w' hJ
    have hv1 : v 1 = .int .i64 (m1 : Int) := hJ.out.fact 1 (by kernel_rfl)
    simp only [hv1]
    clear hv1
    go_wp2_with fail
    with_reducible refine (HX1.out _).mono ?_
    rintro e w1 ⟨u, rfl, hu, hb⟩
    go_wp2_with fail
    exact ⟨rfl, rfl, hJ.out.call (by rfl) hb (hu)⟩
  simp only [Act.put, List.setIfInBounds_toArray, List.set_cons_zero, List.set_cons_succ, Nat.reduceAdd]
  refine Steps.held ?_ ?_
  · intro L v w' hJ
    go_wp2_with fail
    exact ⟨rfl, rfl, hJ.out.same (by rfl) (rfl)⟩
  simp only [Act.put, List.setIfInBounds_toArray, List.set_cons_zero, List.set_cons_succ, Nat.reduceAdd]
  refine Steps.held ?_ ?_
  · intro L v w' hJ
    have hv3 : v 3 = .pointer (some ⟨w.heap.size, 2, none⟩) := hJ.out.fact 3 (by kernel_rfl)
    simp only [hv3]
    clear hv3
    have kb := hJ.out.blk E0.out (by simp [oldsOf, BS, Bx.nat, Bx.rat, Bx.ref, Bx.part])
    have k0 := kb.cell 0
    have k1 := kb.cell 1
    have k2 := kb.cell 2
    have k3 := kb.cell 3
    have k4 := kb.cell 4
    have k5 := kb.cell 5
    clear kb
    go_wp2_with fail
    exact ⟨rfl, rfl, hJ.out.same (by rfl) (rfl)⟩
  simp only [Act.put, List.setIfInBounds_toArray, List.set_cons_zero, List.set_cons_succ, Nat.reduceAdd]
  refine Steps.held ?_ ?_
  · intro L v w' hJ
    go_wp2_with fail
    exact ⟨rfl, rfl, hJ.out.same (by rfl) (rfl)⟩
  simp only [Act.put, List.setIfInBounds_toArray, List.set_cons_zero, List.set_cons_succ, Nat.reduceAdd]
  refine Steps.held ?_ ?_
  · intro L v w' hJ
    have hv5 : v 5 = .pointer (some ⟨w.heap.size, 3, none⟩) := hJ.out.fact 5 (by kernel_rfl)
    simp only [hv5]
    clear hv5
    have kb := hJ.out.blk E0.out (by simp [oldsOf, BS, Bx.nat, Bx.rat, Bx.ref, Bx.part])
    have k0 := kb.cell 0
    have k1 := kb.cell 1
    have k2 := kb.cell 2
    have k3 := kb.cell 3
    have k4 := kb.cell 4
    have k5 := kb.cell 5
    clear kb
    go_wp2_with fail
    exact ⟨rfl, rfl, hJ.out.same (by rfl) (rfl)⟩
  simp only [Act.put, List.setIfInBounds_toArray, List.set_cons_zero, List.set_cons_succ, Nat.reduceAdd]
  refine Steps.held ?_ ?_
  · intro L v w' hJ
    have hv6 : v 6 = .int .i64 (m2 : Int) := hJ.out.fact 6 (by kernel_rfl)
    simp only [hv6]
    clear hv6
    go_wp2_with fail
    exact ⟨rfl, rfl, hJ.out.same (by rfl) (congrArg (Value.int .i64) w1')⟩
  simp only [Act.put, List.setIfInBounds_toArray, List.set_cons_zero, List.set_cons_succ, Nat.reduceAdd]
  refine Steps.held ?_ ?_
  · intro L v w' hJ
    have hv4 : v 4 = .int .i64 (m1 : Int) := hJ.out.fact 4 (by kernel_rfl)
    simp only [hv4]
    clear hv4
    have hv7 : v 7 = .int .i64 (2 * (m2 : Int)) := hJ.out.fact 7 (by kernel_rfl)
    simp only [hv7]
    clear hv7
    go_wp2_with fail
    exact ⟨rfl, rfl, hJ.out.same (by rfl) (congrArg (Value.int .i64) w2')⟩
  simp only [Act.put, List.setIfInBounds_toArray, List.set_cons_zero, List.set_cons_succ, Nat.reduceAdd]
  refine Steps.held ?_ ?_
  · intro L v w' hJ
    have hv8 : v 8 = .int .i64 ((m1 : Int) + 2 * (m2 : Int)) := hJ.out.fact 8 (by kernel_rfl)
    simp only [hv8]
    clear hv8
    go_wp2_with fail
    with_reducible refine (HXS.out _).mono ?_
    rintro e w1 ⟨u, rfl, hu, hb⟩
    go_wp2_with fail
    exact ⟨rfl, rfl, hJ.out.call (by rfl) hb (hu)⟩
  simp only [Act.put, List.setIfInBounds_toArray, List.set_cons_zero, List.set_cons_succ, Nat.reduceAdd]
  refine Steps.held ?_ ?_
  · intro L v w' hJ
    have X0 := Lib.hid (show RF w' (v 2) (m1) (1) from hJ.out.fact 2 (by kernel_rfl))
    have X1 := Lib.hid (show RF w' (v 9) (m1 + 2 * m2) (1) from hJ.out.fact 9 (by kernel_rfl))
    go_wp2_with fail
    with_reducible refine (HDY.out _ _ _ X0.out X1.out).mono ?_
    rintro e w1 ⟨u, rfl, hu, hb⟩
    go_wp2_with fail
    exact ⟨rfl, rfl, hJ.out.call (by rfl) hb (hu)⟩
  simp only [Act.put, List.setIfInBounds_toArray, List.set_cons_zero, List.set_cons_succ, Nat.reduceAdd]
  refine Steps.held ?_ ?_
  · intro L v w' hJ
    go_wp2_with fail
    exact ⟨rfl, rfl, hJ.out.made 0 _ rfl rfl (by rfl) trivial⟩
  simp only [Act.put, List.setIfInBounds_toArray, List.set_cons_zero, List.set_cons_succ, Nat.reduceAdd]
  refine Steps.held ?_ ?_
  · intro L v w' hJ
    obtain ⟨g, hg, hge, hown, hst⟩ := hJ.out.newbox 0 _ rfl 11 rfl (by kernel_rfl)
    have hN : RF w' (v 10) (y.1) (y.2) := hJ.out.fact 10 (by kernel_rfl)
    obtain ⟨A1, p1, c1, B1, q1, e1, hv, h1, h2⟩ := hN
    have HN := Lib.hid (show RF w' (.agg #[.slice A1 p1 c1, .slice B1 q1 e1]) (y.1) (y.2) from ⟨A1, p1, c1, B1, q1, e1, rfl, h1, h2⟩)
    have kb := hJ.out.box 0 _ rfl rfl g hown
    have k0 : w'.cell? ⟨g, 0, none⟩ = some (.slice none 0 0) := kb.cell 0
    have k1 : w'.cell? ⟨g, 1, none⟩ = some (.slice none 0 0) := kb.cell 1
    have f0 := kb.frozen 0
    have f1 := kb.frozen 1
    have HO := Lib.hid hown
    have HS := Lib.hid hst
    clear kb h1 h2 hown hst
    simp only [hg, hv]
    clear hg hv
    go_wp2_with fail
    exact ⟨rfl, rfl, hJ.out.fill2 0 _ rfl rfl (by rfl) g HO.out HS.out _ _ rfl rfl rfl (fun W k => HN.out.keep k) (fun _ => trivial)⟩
  simp only [Act.put, List.setIfInBounds_toArray, List.set_cons_zero, List.set_cons_succ, Nat.reduceAdd]
  refine Steps.nil ?_
  intro v w' hJ
  obtain ⟨g5, cs11, hv11, hge11, hb11, hf11⟩ := hJ.end_new 0 _ rfl 11 rfl (by decide) (Nat.le_of_ble_eq_true rfl)
  have hfx : RF w' (.agg cs11) y.1 y.2 := hf11
  obtain ⟨A11, p11, c11, B11, q11, e11, hcs11, h1, h2⟩ := hfx
  have hcs11' := Value.agg.inj hcs11
  subst hcs11'
  simp only [hv11]
  have E5 := Lib.hid (show Blk w' g5 52 #[.slice A11 p11 c11, .slice B11 q11 e11] from hb11)
  have NE5 := Lib.hid (show RF w' (.agg #[.slice A11 p11 c11, .slice B11 q11 e11]) y.1 y.2 from hf11)
  clear hv11 hb11 hf11 hcs11 h1 h2
  have hge5 := E1.out.lt
  have hbr := hJ.but.below
  replace E0 := Lib.hid (blk_below E0.out hbr)
  replace E1 := Lib.hid (blk_below E1.out hbr)
  replace HB0 := Lib.hid (cbt HB0.out hbr)
  clear hJ hbr
  go_wp2_with fail
  let FS : List Kept1 := [.eq (.int .i64 3), .eq (.int .i64 4), .rf (4) (1), .rf (y.1) (y.2), .rf (t.1) (t.2), .eq (.int .i64 3), .eq (.int .i64 5), .eq (.pointer (some ⟨w.heap.size, 5, none⟩)), .eq (.int .i64 (m4 : Int)), .rf (m4) (1), .eq (.int .i64 3), .eq (.int .i64 4), .eq (.pointer (some ⟨w.heap.size, 4, none⟩)), .eq (.int .i64 (m3 : Int)), .rf (m3) (1), .rf (z.1) (z.2), .rf (r.1) (r.2), .any]
  let BS : List Bx := [Bx.ref (.inr (w.heap.size + 1)) 17 #[(.slice none 0 0), (.slice none 0 0)] (r.1) (r.2)]
  refine region_mono (Held w' (fun j => FS.getD j .any) BS) (by kernel_rfl) (by kernel_rfl) (by kernel_rfl) (Held.start _ _ _ (by simp [BS, Bx.nat, Bx.rat, Bx.ref, Bx.part] <;> exact E1.out) (by simp [BS, Bx.nat, Bx.rat, Bx.ref, Bx.part])) ?_
  refine Steps.held ?_ ?_
  · intro L v w' hJ
    go_wp2_with fail
    exact ⟨rfl, rfl, hJ.out.same (by rfl) (rfl)⟩
  simp only [Act.put, List.setIfInBounds_toArray, List.set_cons_zero, List.set_cons_succ, Nat.reduceAdd]
  refine Steps.held ?_ ?_
  · intro L v w' hJ
    have hv0 : v 0 = .int .i64 3 := hJ.out.fact 0 (by kernel_rfl)
    simp only [hv0]
    clear hv0
    go_wp2_with fail
    exact ⟨rfl, rfl, hJ.out.same (by rfl) (rfl)⟩
  simp only [Act.put, List.setIfInBounds_toArray, List.set_cons_zero, List.set_cons_succ, Nat.reduceAdd]
  refine Steps.held ?_ ?_
  · intro L v w' hJ
    have hv1 : v 1 = .int .i64 4 := hJ.out.fact 1 (by kernel_rfl)
    simp only [hv1]
    clear hv1
    go_wp2_with fail
    with_reducible refine (HXC.out _).mono ?_
    rintro e w1 ⟨u, rfl, hu, hb⟩
    go_wp2_with fail
    exact ⟨rfl, rfl, hJ.out.call (by rfl) hb (hu)⟩
  simp only [Act.put, List.setIfInBounds_toArray, List.set_cons_zero, List.set_cons_succ, Nat.reduceAdd]
  refine Steps.held ?_ ?_
  · intro L v w' hJ
    have kb := hJ.out.blk E5.out (by simp [oldsOf, BS, Bx.nat, Bx.rat, Bx.ref, Bx.part] <;> omega)
    have k0 := kb.cell 0
    have k1 := kb.cell 1
    clear kb
    go_wp2_with fail
    exact ⟨rfl, rfl, hJ.out.same (by rfl) (NE5.out.keep hJ.out.held.keep)⟩
  simp only [Act.put, List.setIfInBounds_toArray, List.set_cons_zero, List.set_cons_succ, Nat.reduceAdd]
  refine Steps.held ?_ ?_
  · intro L v w' hJ
    have X0 := Lib.hid (show RF w' (v 2) (4) (1) from hJ.out.fact 2 (by kernel_rfl))
    have X1 := Lib.hid (show RF w' (v 3) (y.1) (y.2) from hJ.out.fact 3 (by kernel_rfl))
    go_wp2_with fail
    with_reducible refine (HM1.out _ _ _ X0.out X1.out).mono ?_
    rintro e w1 ⟨u, rfl, hu, hb⟩
    go_wp2_with fail
    exact ⟨rfl, rfl, hJ.out.call (by rfl) hb (hu)⟩
  simp only [Act.put, List.setIfInBounds_toArray, List.set_cons_zero, List.set_cons_succ, Nat.reduceAdd]
  refine Steps.held ?_ ?_
  · intro L v w' hJ
    go_wp2_with fail
    exact ⟨rfl, rfl, hJ.out.same (by rfl) (rfl)⟩
  simp only [Act.put, List.setIfInBounds_toArray, List.set_cons_zero, List.set_cons_succ, Nat.reduceAdd]
  refine Steps.held ?_ ?_
  · intro L v w' hJ
    have hv5 : v 5 = .int .i64 3 := hJ.out.fact 5 (by kernel_rfl)
    simp only [hv5]
    clear hv5
    go_wp2_with fail
    exact ⟨rfl, rfl, hJ.out.same (by rfl) (rfl)⟩
  simp only [Act.put, List.setIfInBounds_toArray, List.set_cons_zero, List.set_cons_succ, Nat.reduceAdd]
  refine Steps.held ?_ ?_
  · intro L v w' hJ
    have hv6 : v 6 = .int .i64 5 := hJ.out.fact 6 (by kernel_rfl)
    simp only [hv6]
    clear hv6
    go_wp2_with fail
    exact ⟨rfl, rfl, hJ.out.same (by rfl) (rfl)⟩
  simp only [Act.put, List.setIfInBounds_toArray, List.set_cons_zero, List.set_cons_succ, Nat.reduceAdd]
  refine Steps.held ?_ ?_
  · intro L v w' hJ
    have hv7 : v 7 = .pointer (some ⟨w.heap.size, 5, none⟩) := hJ.out.fact 7 (by kernel_rfl)
    simp only [hv7]
    clear hv7
    have kb := hJ.out.blk E0.out (by simp [oldsOf, BS, Bx.nat, Bx.rat, Bx.ref, Bx.part] <;> omega)
    have k0 := kb.cell 0
    have k1 := kb.cell 1
    have k2 := kb.cell 2
    have k3 := kb.cell 3
    have k4 := kb.cell 4
    have k5 := kb.cell 5
    clear kb
    go_wp2_with fail
    exact ⟨rfl, rfl, hJ.out.same (by rfl) (rfl)⟩
  simp only [Act.put, List.setIfInBounds_toArray, List.set_cons_zero, List.set_cons_succ, Nat.reduceAdd]
  refine Steps.held ?_ ?_
  · intro L v w' hJ
    have hv8 : v 8 = .int .i64 (m4 : Int) := hJ.out.fact 8 (by kernel_rfl)
    simp only [hv8]
    clear hv8
    go_wp2_with fail
    with_reducible refine (HXL.out _).mono ?_
    rintro e w1 ⟨u, rfl, hu, hb⟩
    go_wp2_with fail
    exact ⟨rfl, rfl, hJ.out.call (by rfl) hb (hu)⟩
  simp only [Act.put, List.setIfInBounds_toArray, List.set_cons_zero, List.set_cons_succ, Nat.reduceAdd]
  refine Steps.held ?_ ?_
  · intro L v w' hJ
    go_wp2_with fail
    exact ⟨rfl, rfl, hJ.out.same (by rfl) (rfl)⟩
  simp only [Act.put, List.setIfInBounds_toArray, List.set_cons_zero, List.set_cons_succ, Nat.reduceAdd]
  refine Steps.held ?_ ?_
  · intro L v w' hJ
    have hv10 : v 10 = .int .i64 3 := hJ.out.fact 10 (by kernel_rfl)
    simp only [hv10]
    clear hv10
    go_wp2_with fail
    exact ⟨rfl, rfl, hJ.out.same (by rfl) (rfl)⟩
  simp only [Act.put, List.setIfInBounds_toArray, List.set_cons_zero, List.set_cons_succ, Nat.reduceAdd]
  refine Steps.held ?_ ?_
  · intro L v w' hJ
    have hv11 : v 11 = .int .i64 4 := hJ.out.fact 11 (by kernel_rfl)
    simp only [hv11]
    clear hv11
    go_wp2_with fail
    exact ⟨rfl, rfl, hJ.out.same (by rfl) (rfl)⟩
  simp only [Act.put, List.setIfInBounds_toArray, List.set_cons_zero, List.set_cons_succ, Nat.reduceAdd]
  refine Steps.held ?_ ?_
  · intro L v w' hJ
    have hv12 : v 12 = .pointer (some ⟨w.heap.size, 4, none⟩) := hJ.out.fact 12 (by kernel_rfl)
    simp only [hv12]
    clear hv12
    have kb := hJ.out.blk E0.out (by simp [oldsOf, BS, Bx.nat, Bx.rat, Bx.ref, Bx.part] <;> omega)
    have k0 := kb.cell 0
    have k1 := kb.cell 1
    have k2 := kb.cell 2
    have k3 := kb.cell 3
    have k4 := kb.cell 4
    have k5 := kb.cell 5
    clear kb
    go_wp2_with fail
    exact ⟨rfl, rfl, hJ.out.same (by rfl) (rfl)⟩
  simp only [Act.put, List.setIfInBounds_toArray, List.set_cons_zero, List.set_cons_succ, Nat.reduceAdd]
  refine Steps.held ?_ ?_
  · intro L v w' hJ
    have hv13 : v 13 = .int .i64 (m3 : Int) := hJ.out.fact 13 (by kernel_rfl)
    simp only [hv13]
    clear hv13
    go_wp2_with fail
    with_reducible refine (HXK.out _).mono ?_
    rintro e w1 ⟨u, rfl, hu, hb⟩
    go_wp2_with fail
    exact ⟨rfl, rfl, hJ.out.call (by rfl) hb (hu)⟩
  simp only [Act.put, List.setIfInBounds_toArray, List.set_cons_zero, List.set_cons_succ, Nat.reduceAdd]
  refine Steps.held ?_ ?_
  · intro L v w' hJ
    have X0 := Lib.hid (show RF w' (v 9) (m4) (1) from hJ.out.fact 9 (by kernel_rfl))
    have X1 := Lib.hid (show RF w' (v 14) (m3) (1) from hJ.out.fact 14 (by kernel_rfl))
    go_wp2_with fail
    with_reducible refine (HDZ.out _ _ _ X0.out X1.out).mono ?_
    rintro e w1 ⟨u, rfl, hu, hb⟩
    go_wp2_with fail
    exact ⟨rfl, rfl, hJ.out.call (by rfl) hb (hu)⟩
  simp only [Act.put, List.setIfInBounds_toArray, List.set_cons_zero, List.set_cons_succ, Nat.reduceAdd]
  refine Steps.held ?_ ?_
  · intro L v w' hJ
    have X0 := Lib.hid (show RF w' (v 4) (t.1) (t.2) from hJ.out.fact 4 (by kernel_rfl))
    have X1 := Lib.hid (show RF w' (v 15) (z.1) (z.2) from hJ.out.fact 15 (by kernel_rfl))
    go_wp2_with fail
    with_reducible refine (HM2.out _ _ _ X0.out X1.out).mono ?_
    rintro e w1 ⟨u, rfl, hu, hb⟩
    go_wp2_with fail
    exact ⟨rfl, rfl, hJ.out.call (by rfl) hb (hu)⟩
  simp only [Act.put, List.setIfInBounds_toArray, List.set_cons_zero, List.set_cons_succ, Nat.reduceAdd]
  refine Steps.held ?_ ?_
  · intro L v w' hJ
    obtain ⟨hown, hst⟩ := hJ.out.oldbox 0 _ rfl (w.heap.size + 1) rfl
    have hN : RF w' (v 16) (r.1) (r.2) := hJ.out.fact 16 (by kernel_rfl)
    obtain ⟨A1, p1, c1, B1, q1, e1, hv, h1, h2⟩ := hN
    have HN := Lib.hid (show RF w' (.agg #[.slice A1 p1 c1, .slice B1 q1 e1]) (r.1) (r.2) from ⟨A1, p1, c1, B1, q1, e1, rfl, h1, h2⟩)
    have kb := hJ.out.box 0 _ rfl rfl (w.heap.size + 1) hown
    have k0 : w'.cell? ⟨(w.heap.size + 1), 0, none⟩ = some ((.slice none 0 0)) := kb.cell 0
    have k1 : w'.cell? ⟨(w.heap.size + 1), 1, none⟩ = some ((.slice none 0 0)) := kb.cell 1
    have f0 := kb.frozen 0
    have f1 := kb.frozen 1
    have HO := Lib.hid hown
    have HS := Lib.hid hst
    clear kb h1 h2 hown hst
    simp only [hv]
    clear hv
    go_wp2_with fail
    exact ⟨rfl, rfl, hJ.out.fill2 0 _ rfl rfl (by rfl) (w.heap.size + 1) HO.out HS.out _ _ rfl rfl rfl (fun W k => HN.out.keep k) (fun _ => trivial)⟩
  simp only [Act.put, List.setIfInBounds_toArray, List.set_cons_zero, List.set_cons_succ, Nat.reduceAdd]
  refine Steps.nil ?_
  intro v w' hJ
  obtain ⟨cs, hblk, hf⟩ := hJ.end_old 0 _ rfl (w.heap.size + 1) rfl (Nat.le_of_ble_eq_true rfl)
  have hf' : RF w' (.agg cs) r.1 r.2 := hf
  obtain ⟨A1, p1, c1, B1, q1, e1, hcs, h1, h2⟩ := hf'
  have hcs' := Value.agg.inj hcs
  subst hcs'
  have k0 := hblk.cell 0
  have k1 := hblk.cell 1
  have hbw : Below w.heap.size w w' := hJ.but.to_below HB0.out HB0.out.size (by intro g hg; simp [oldsOf, BS, Bx.nat, Bx.rat, Bx.ref, Bx.part] at hg; subst hg; omega)
  have HX := Lib.hid (show MkR w r.1 r.2 (.returned (.agg #[.slice A1 p1 c1, .slice B1 q1 e1])) w' from ⟨_, rfl, ⟨A1, p1, c1, B1, q1, e1, rfl, h1, h2⟩, hbw⟩)
  clear hJ h1 h2 hbw hblk hcs hf
  go_wp2_with fail
  exact bodyPost_ret (v := .agg #[.slice A1 p1 c1, .slice B1 q1 e1]) (by simp [results, Try.results124, go_sem, k0, k1]) rfl HX.out
end Go.Proofs.Yteikhnmmkanndaa
