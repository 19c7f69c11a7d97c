/- Laid together by prune.py out of the texts that the row needs: the declarations that its theorem uses. -/
import Derived.Test.YteikhnmmkanndaaXDiscountGamma6
import Derived.Deep.Slices
import Derived.Deep.Fields
import Derived.ChangeSame
import Derived.OpenShut
import Derived.ChangeOld
namespace Go.Proofs.Yteikhnmmkanndaa
open Go.RowKit Go.Proofs.YteikhnmmkanndaaW.PrintWords
set_option linter.unusedSimpArgs false
set_option linter.unusedVariables false
theorem prt_red {m1 m2 k mk ml : Nat} (p1 : 0 < m1) (pk : 0 < mk) : Red (prt m1 m2 k mk ml) :=
  mulR_red (mulR_red (red_int _) (divR_red (b := (m1 + 2 * m2, 1)) (red_int m1) (by show 0 < m1 + 2 * m2; omega))) (divR_red (b := (mk, 1)) (red_int ml) pk)
theorem prt_sz {m1 m2 k mk ml : Nat} (h1 : m1 ≤ 1099511627776) (h2 : m2 ≤ 1099511627776) (hk : mk ≤ 1099511627776) (hl : ml ≤ 1099511627776) (hc : k ≤ 3) : Sz 80 (prt m1 m2 k mk ml) :=
  ((((sz_int (by omega)).mul ((sz_int (by omega)).div (sz_int (x := m1 + 2 * m2) (by omega)))).mul ((sz_int (by omega)).div (sz_int (by omega))))).mono (by decide)
set_option maxRecDepth 100000 in
set_option maxHeartbeats 4000000 in
theorem rdof_any (T S0 : Int) (m1 m2 m3 m4 : Nat) (b1 : m1 ≤ 1099511627776) (b2 : m2 ≤ 1099511627776) (b3 : m3 ≤ 1099511627776) (b4 : m4 ≤ 1099511627776) (w : World) : Calls Try.prog 81 #[.agg #[.int .i64 T, .int .i64 S0, .int .i64 (m1 : Int), .int .i64 (m2 : Int), .int .i64 (m3 : Int), .int .i64 (m4 : Int)]] w (MkS RF w (0, 1) (dNum m1 m2 1 m1 m2) (dNum m1 m2 2 m2 m3) (dNum m1 m2 3 m3 m4)) := by
  have HP1 := Lib.hid (fun W p1 pk => part1_any T S0 m1 m2 m3 m4 W p1 pk b1 b2 b3 b4)
  have HP2 := Lib.hid (fun W p1 pk => part2_any T S0 m1 m2 m3 m4 W p1 pk b1 b2 b3 b4)
  have HP3 := Lib.hid (fun W p1 pk => part3_any T S0 m1 m2 m3 m4 W p1 pk b1 b2 b3 b4)
  have HR1 := Lib.hid (fun p1 pk => prt_red (m1 := m1) (m2 := m2) (k := 1) (mk := m1) (ml := m2) p1 pk)
  have HR2 := Lib.hid (fun p1 pk => prt_red (m1 := m1) (m2 := m2) (k := 2) (mk := m2) (ml := m3) p1 pk)
  have HR3 := Lib.hid (fun p1 pk => prt_red (m1 := m1) (m2 := m2) (k := 3) (mk := m3) (ml := m4) p1 pk)
  have HS1 := Lib.hid (prt_sz (m1 := m1) (m2 := m2) (k := 1) (mk := m1) (ml := m2) b1 b2 b1 b2 (by decide))
  have HS2 := Lib.hid (prt_sz (m1 := m1) (m2 := m2) (k := 2) (mk := m2) (ml := m3) b1 b2 b2 b3 (by decide))
  have HS3 := Lib.hid (prt_sz (m1 := m1) (m2 := m2) (k := 3) (mk := m3) (ml := m4) b1 b2 b3 b4 (by decide))
  have HD1 : Hid ((m1 = 0 ∨ m1 = 0) ∧ (dNum m1 m2 1 m1 m2) = (0, 1) ∨ (0 < m1 ∧ 0 < m1) ∧ (dNum m1 m2 1 m1 m2) = lessR (1, 1) (prt m1 m2 1 m1 m2)) := Lib.hid (by
    unfold dNum
    by_cases h : m1 = 0 ∨ m1 = 0
    · exact .inl ⟨h, if_pos h⟩
    · exact .inr ⟨by omega, if_neg h⟩)
  have HD2 : Hid ((m1 = 0 ∨ m2 = 0) ∧ (dNum m1 m2 2 m2 m3) = (0, 1) ∨ (0 < m1 ∧ 0 < m2) ∧ (dNum m1 m2 2 m2 m3) = lessR (2, 1) (prt m1 m2 2 m2 m3)) := Lib.hid (by
    unfold dNum
    by_cases h : m1 = 0 ∨ m2 = 0
    · exact .inl ⟨h, if_pos h⟩
    · exact .inr ⟨by omega, if_neg h⟩)
  have HD3 : Hid ((m1 = 0 ∨ m3 = 0) ∧ (dNum m1 m2 3 m3 m4) = (0, 1) ∨ (0 < m1 ∧ 0 < m3) ∧ (dNum m1 m2 3 m3 m4) = lessR (3, 1) (prt m1 m2 3 m3 m4)) := Lib.hid (by
    unfold dNum
    by_cases h : m1 = 0 ∨ m3 = 0
    · exact .inl ⟨h, if_pos h⟩
    · exact .inr ⟨by omega, if_neg h⟩)
  generalize (dNum m1 m2 1 m1 m2) = d1 at *
  generalize (dNum m1 m2 2 m2 m3) = d2 at *
  generalize (dNum m1 m2 3 m3 m4) = d3 at *
  generalize prt m1 m2 1 m1 m2 = z1 at *
  generalize prt m1 m2 2 m2 m3 = z2 at *
  generalize prt m1 m2 3 m3 m4 = z3 at *
  have HI0 : Hid (∀ W, Calls Try.prog 70 #[.int .i64 0] W (MkR W 0 1)) := Lib.hid (fun W => xint_any 0 0 (by decide) (by decide) W)
  clear b1 b2 b3 b4
  have e0 := (Blk.new (w) 103 #[.int .i64 T, .int .i64 S0, .int .i64 (m1 : Int), .int .i64 (m2 : Int), .int .i64 (m3 : Int), .int .i64 (m4 : Int)]).alloc (.cells #[(.slice none 0 0), (.slice none 0 0), (.slice none 0 0), (.slice none 0 0), (.slice none 0 0), (.slice none 0 0), (.slice none 0 0), (.slice none 0 0)] 101)
  have e1 := Blk.new ((w).alloc (.cells #[.int .i64 T, .int .i64 S0, .int .i64 (m1 : Int), .int .i64 (m2 : Int), .int .i64 (m3 : Int), .int .i64 (m4 : Int)] 103)) 101 #[(.slice none 0 0), (.slice none 0 0), (.slice none 0 0), (.slice none 0 0), (.slice none 0 0), (.slice none 0 0), (.slice none 0 0), (.slice none 0 0)]
  have hb := cba (cba (Below.refl _ w) (.cells #[.int .i64 T, .int .i64 S0, .int .i64 (m1 : Int), .int .i64 (m2 : Int), .int .i64 (m3 : Int), .int .i64 (m4 : Int)] 103)) (.cells #[(.slice none 0 0), (.slice none 0 0), (.slice none 0 0), (.slice none 0 0), (.slice none 0 0), (.slice none 0 0), (.slice none 0 0), (.slice none 0 0)] 101)
  simp only [World.size_alloc] at e1
  have hsz : w.heap.size ≤ w.heap.size := Nat.le_refl _
  go_enter Try.func81, Try.ntmps81
  go_upto_region 1 with (fail)
  obtain ⟨S, hS⟩ : ∃ S, ((w).alloc (.cells #[.int .i64 T, .int .i64 S0, .int .i64 (m1 : Int), .int .i64 (m2 : Int), .int .i64 (m3 : Int), .int .i64 (m4 : Int)] 103)).alloc (.cells #[(.slice none 0 0), (.slice none 0 0), (.slice none 0 0), (.slice none 0 0), (.slice none 0 0), (.slice none 0 0), (.slice none 0 0), (.slice none 0 0)] 101) = S := ⟨_, rfl⟩
  rw [hS] at e0 e1 hb ⊢
  have HB0 := Lib.hid hb
  have E0 := Lib.hid e0
  have E1 := Lib.hid e1
  clear hS hb hsz e0 e1
  have k_E0_0 := E0.out.cell 0
  have k_E0_1 := E0.out.cell 1
  have k_E0_2 := E0.out.cell 2
  have k_E0_3 := E0.out.cell 3
  have k_E0_4 := E0.out.cell 4
  have k_E0_5 := E0.out.cell 5
  have k_E1_0 := E1.out.cell 0
  have k_E1_1 := E1.out.cell 1
  have k_E1_2 := E1.out.cell 2
  have k_E1_3 := E1.out.cell 3
  have k_E1_4 := E1.out.cell 4
  have k_E1_5 := E1.out.cell 5
  have k_E1_6 := E1.out.cell 6
  have k_E1_7 := E1.out.cell 7
  go_wp2_with fail
  with_reducible refine (HI0.out _).mono ?_
  rintro e w1 ⟨u, rfl, hu, hb⟩
  clear k_E0_0 k_E0_1 k_E0_2 k_E0_3 k_E0_4 k_E0_5 k_E1_0 k_E1_1 k_E1_2 k_E1_3 k_E1_4 k_E1_5 k_E1_6 k_E1_7
  replace E0 := Lib.hid (blk_below E0.out hb)
  replace E1 := Lib.hid (blk_below E1.out hb)
  replace HB0 := Lib.hid (cbt HB0.out hb)
  have R0 := Lib.hid hu
  clear hb hu
  have k_E0_0 := E0.out.cell 0
  have k_E0_1 := E0.out.cell 1
  have k_E0_2 := E0.out.cell 2
  have k_E0_3 := E0.out.cell 3
  have k_E0_4 := E0.out.cell 4
  have k_E0_5 := E0.out.cell 5
  have k_E1_0 := E1.out.cell 0
  have k_E1_1 := E1.out.cell 1
  have k_E1_2 := E1.out.cell 2
  have k_E1_3 := E1.out.cell 3
  have k_E1_4 := E1.out.cell 4
  have k_E1_5 := E1.out.cell 5
  have k_E1_6 := E1.out.cell 6
  have k_E1_7 := E1.out.cell 7
  go_wp2_with fail
  with_reducible refine (HI0.out _).mono ?_
  rintro e w1 ⟨u, rfl, hu, hb⟩
  clear k_E0_0 k_E0_1 k_E0_2 k_E0_3 k_E0_4 k_E0_5 k_E1_0 k_E1_1 k_E1_2 k_E1_3 k_E1_4 k_E1_5 k_E1_6 k_E1_7
  replace R0 := Lib.hid (R0.out.below hb)
  replace E0 := Lib.hid (blk_below E0.out hb)
  replace E1 := Lib.hid (blk_below E1.out hb)
  replace HB0 := Lib.hid (cbt HB0.out hb)
  have R1 := Lib.hid hu
  clear hb hu
  have k_E0_0 := E0.out.cell 0
  have k_E0_1 := E0.out.cell 1
  have k_E0_2 := E0.out.cell 2
  have k_E0_3 := E0.out.cell 3
  have k_E0_4 := E0.out.cell 4
  have k_E0_5 := E0.out.cell 5
  have k_E1_0 := E1.out.cell 0
  have k_E1_1 := E1.out.cell 1
  have k_E1_2 := E1.out.cell 2
  have k_E1_3 := E1.out.cell 3
  have k_E1_4 := E1.out.cell 4
  have k_E1_5 := E1.out.cell 5
  have k_E1_6 := E1.out.cell 6
  have k_E1_7 := E1.out.cell 7
  go_wp2_with fail
  with_reducible refine (HI0.out _).mono ?_
  rintro e w1 ⟨u, rfl, hu, hb⟩
  clear k_E0_0 k_E0_1 k_E0_2 k_E0_3 k_E0_4 k_E0_5 k_E1_0 k_E1_1 k_E1_2 k_E1_3 k_E1_4 k_E1_5 k_E1_6 k_E1_7
  replace R0 := Lib.hid (R0.out.below hb)
  replace R1 := Lib.hid (R1.out.below hb)
  replace E0 := Lib.hid (blk_below E0.out hb)
  replace E1 := Lib.hid (blk_below E1.out hb)
  replace HB0 := Lib.hid (cbt HB0.out hb)
  have R2 := Lib.hid hu
  clear hb hu
  have k_E0_0 := E0.out.cell 0
  have k_E0_1 := E0.out.cell 1
  have k_E0_2 := E0.out.cell 2
  have k_E0_3 := E0.out.cell 3
  have k_E0_4 := E0.out.cell 4
  have k_E0_5 := E0.out.cell 5
  have k_E1_0 := E1.out.cell 0
  have k_E1_1 := E1.out.cell 1
  have k_E1_2 := E1.out.cell 2
  have k_E1_3 := E1.out.cell 3
  have k_E1_4 := E1.out.cell 4
  have k_E1_5 := E1.out.cell 5
  have k_E1_6 := E1.out.cell 6
  have k_E1_7 := E1.out.cell 7
  go_wp2_with fail
  with_reducible refine (HI0.out _).mono ?_
  rintro e w1 ⟨u, rfl, hu, hb⟩
  clear k_E0_0 k_E0_1 k_E0_2 k_E0_3 k_E0_4 k_E0_5 k_E1_0 k_E1_1 k_E1_2 k_E1_3 k_E1_4 k_E1_5 k_E1_6 k_E1_7
  replace R0 := Lib.hid (R0.out.below hb)
  replace R1 := Lib.hid (R1.out.below hb)
  replace R2 := Lib.hid (R2.out.below hb)
  replace E0 := Lib.hid (blk_below E0.out hb)
  replace E1 := Lib.hid (blk_below E1.out hb)
  replace HB0 := Lib.hid (cbt HB0.out hb)
  have R3 := Lib.hid hu
  clear hb hu
  have k_E0_0 := E0.out.cell 0
  have k_E0_1 := E0.out.cell 1
  have k_E0_2 := E0.out.cell 2
  have k_E0_3 := E0.out.cell 3
  have k_E0_4 := E0.out.cell 4
  have k_E0_5 := E0.out.cell 5
  have k_E1_0 := E1.out.cell 0
  have k_E1_1 := E1.out.cell 1
  have k_E1_2 := E1.out.cell 2
  have k_E1_3 := E1.out.cell 3
  have k_E1_4 := E1.out.cell 4
  have k_E1_5 := E1.out.cell 5
  have k_E1_6 := E1.out.cell 6
  have k_E1_7 := E1.out.cell 7
  have Y0 := R0.out
  obtain ⟨A0, p0, c0, B0, q0, u0, rfl, _, _⟩ := Y0
  have Y1 := R1.out
  obtain ⟨A1, p1, c1, B1, q1, u1, rfl, _, _⟩ := Y1
  have Y2 := R2.out
  obtain ⟨A2, p2, c2, B2, q2, u2, rfl, _, _⟩ := Y2
  have Y3 := R3.out
  obtain ⟨A3, p3, c3, B3, q3, u3, rfl, _, _⟩ := Y3
  have e2 := Blk.new w1 101 #[.slice A0 p0 c0, .slice B0 q0 u0, .slice A1 p1 c1, .slice B1 q1 u1, .slice A2 p2 c2, .slice B2 q2 u2, .slice A3 p3 c3, .slice B3 q3 u3]
  have hb := cba (Below.refl _ w1) (.cells #[.slice A0 p0 c0, .slice B0 q0 u0, .slice A1 p1 c1, .slice B1 q1 u1, .slice A2 p2 c2, .slice B2 q2 u2, .slice A3 p3 c3, .slice B3 q3 u3] 101)
  have hl1 := E1.out.lt
  go_upto_region 2 with (fail)
  obtain ⟨X, hX⟩ : ∃ X, w1.alloc (.cells #[.slice A0 p0 c0, .slice B0 q0 u0, .slice A1 p1 c1, .slice B1 q1 u1, .slice A2 p2 c2, .slice B2 q2 u2, .slice A3 p3 c3, .slice B3 q3 u3] 101) = X := ⟨_, rfl⟩
  rw [hX] at e2 hb ⊢
  obtain ⟨g3, hg⟩ : ∃ g, w1.heap.size = g := ⟨_, rfl⟩
  rw [hg] at e2 hl1
  simp only [hg]
  replace E0 := Lib.hid (blk_below E0.out hb)
  replace E1 := Lib.hid (blk_below E1.out hb)
  replace HB0 := Lib.hid (cbt HB0.out hb)
  have HSB := Lib.hid (show BoxSR X g3 (0, 1) (0, 1) (0, 1) (0, 1) from ⟨_, _, _, _, _, _, _, _, _, _, _, _, _, _, _, _, _, _, _, _, _, _, _, _, e2, R0.out.below hb, R1.out.below hb, R2.out.below hb, R3.out.below hb⟩)
  clear hX hg hb e2 R0 R1 R2 R3 HI0 k_E0_0 k_E0_1 k_E0_2 k_E0_3 k_E0_4 k_E0_5 k_E1_0 k_E1_1 k_E1_2 k_E1_3 k_E1_4 k_E1_5 k_E1_6 k_E1_7
  go_wp2_with fail
  go_loopw [4] (fun v4 wr => ∃ (k : Nat) (j : Int), (k = 1 ∧ j = 1 ∨ k = 2 ∧ j = 2 ∨ k = 3 ∧ j = 3 ∨ k = 4 ∧ j = 4) ∧ v4 = .int .i64 j ∧ Hid (BoxSR wr g3 (0, 1) (cond (Nat.blt 1 k) d1 (0, 1)) (cond (Nat.blt 2 k) d2 (0, 1)) (cond (Nat.blt 3 k) d3 (0, 1))) ∧ Hid (Blk wr w.heap.size 103 #[.int .i64 T, .int .i64 S0, .int .i64 (m1 : Int), .int .i64 (m2 : Int), .int .i64 (m3 : Int), .int .i64 (m4 : Int)]) ∧ Hid (Blk wr (w.heap.size + 1) 101 #[(.slice none 0 0), (.slice none 0 0), (.slice none 0 0), (.slice none 0 0), (.slice none 0 0), (.slice none 0 0), (.slice none 0 0), (.slice none 0 0)]) ∧ Hid (Below w.heap.size w wr)) (fun v4 _ => 4 - (intOf v4).toNat)
  case atStart => exact ⟨1, 1, .inl ⟨rfl, rfl⟩, rfl, HSB, E0, E1, HB0⟩
  case round =>
    obtain ⟨k, j, hk, rfl, HBO, HE0, HE1, HBW⟩ := hrel
    clear HSB E0 E1 HB0
    rcases hk with ⟨rfl, rfl⟩ | ⟨rfl, rfl⟩ | ⟨rfl, rfl⟩ | ⟨rfl, rfl⟩
    · rcases HD1.out with ⟨hzz, hdk⟩ | ⟨⟨hp1, hpk⟩, hdk⟩
      · by_cases hz1 : m1 = 0
        · obtain ⟨A0, p0, c0, B0, q0, u0, A1, p1, c1, B1, q1, u1, A2, p2, c2, B2, q2, u2, A3, p3, c3, B3, q3, u3, hbk, h0, h1, h2, h3⟩ := HBO.out
          have E3 := Lib.hid hbk
          have F0 := Lib.hid (show RF wr (.agg #[.slice A0 p0 c0, .slice B0 q0 u0]) (0, 1).1 (0, 1).2 from h0)
          have F1 := Lib.hid (show RF wr (.agg #[.slice A1 p1 c1, .slice B1 q1 u1]) (0, 1).1 (0, 1).2 from h1)
          have F2 := Lib.hid (show RF wr (.agg #[.slice A2 p2 c2, .slice B2 q2 u2]) (0, 1).1 (0, 1).2 from h2)
          have F3 := Lib.hid (show RF wr (.agg #[.slice A3 p3 c3, .slice B3 q3 u3]) (0, 1).1 (0, 1).2 from h3)
          clear hbk h0 h1 h2 h3 HBO
          have dd1 : decide (0 < m1) = false := decide_eq_false (by omega)
          clear hz1 hzz
          have k_HE0_0 := HE0.out.cell 0
          have k_HE0_1 := HE0.out.cell 1
          have k_HE0_2 := HE0.out.cell 2
          have k_HE0_3 := HE0.out.cell 3
          have k_HE0_4 := HE0.out.cell 4
          have k_HE0_5 := HE0.out.cell 5
          have HD := Lib.hid hdk
          clear hdk
          go_wp2_with fail
          go_roundw
          case rel => exact ⟨2, 2, .inr (.inl ⟨rfl, rfl⟩), rfl, Lib.hid ⟨_, _, _, _, _, _, _, _, _, _, _, _, _, _, _, _, _, _, _, _, _, _, _, _, E3.out, F0.out, (by rw [show (cond (Nat.blt 1 2) d1 (0, 1)) = d1 from rfl, HD.out]; exact F1.out), F2.out, F3.out⟩, HE0, HE1, HBW⟩
          case measure => simp [intOf]
        · exact absurd hzz (by omega)
      · obtain ⟨A0, p0, c0, B0, q0, u0, A1, p1, c1, B1, q1, u1, A2, p2, c2, B2, q2, u2, A3, p3, c3, B3, q3, u3, hbk, h0, h1, h2, h3⟩ := HBO.out
        have E3 := Lib.hid hbk
        have F0 := Lib.hid (show RF wr (.agg #[.slice A0 p0 c0, .slice B0 q0 u0]) (0, 1).1 (0, 1).2 from h0)
        have F1 := Lib.hid (show RF wr (.agg #[.slice A1 p1 c1, .slice B1 q1 u1]) (0, 1).1 (0, 1).2 from h1)
        have F2 := Lib.hid (show RF wr (.agg #[.slice A2 p2 c2, .slice B2 q2 u2]) (0, 1).1 (0, 1).2 from h2)
        have F3 := Lib.hid (show RF wr (.agg #[.slice A3 p3 c3, .slice B3 q3 u3]) (0, 1).1 (0, 1).2 from h3)
        clear hbk h0 h1 h2 h3 HBO
        have dd1 : decide (0 < m1) = true := decide_eq_true (by omega)
        have HXB : Hid (∀ W, Calls Try.prog 70 #[.int .i64 1] W (MkR W 1 1)) := Lib.hid (fun W => xwhole 1 (by decide) W)
        have HPP := Lib.hid (fun W => HP1.out W hp1 hpk)
        have HLS : Hid (∀ va vb W, RF W va 1 1 → RF W vb z1.1 z1.2 → Calls Try.prog 69 #[va, vb] W (MkR W (lessR (1, 1) z1).1 (lessR (1, 1) z1).2)) := Lib.hid (fun va vb W h1 h2 => c_xless (a := (1, 1)) (b := z1) (B := 80) (by decide) (red_int 1) (HR1.out hp1 hpk) ((sz_int (by decide)).mono (by decide)) HS1.out h1 h2)
        rw [← hdk] at HLS
        clear hdk hp1 hpk
        have k_HE0_0 := HE0.out.cell 0
        have k_HE0_1 := HE0.out.cell 1
        have k_HE0_2 := HE0.out.cell 2
        have k_HE0_3 := HE0.out.cell 3
        have k_HE0_4 := HE0.out.cell 4
        have k_HE0_5 := HE0.out.cell 5
        have k_HE1_0 := HE1.out.cell 0
        have k_HE1_1 := HE1.out.cell 1
        have k_HE1_2 := HE1.out.cell 2
        have k_HE1_3 := HE1.out.cell 3
        have k_HE1_4 := HE1.out.cell 4
        have k_HE1_5 := HE1.out.cell 5
        have k_HE1_6 := HE1.out.cell 6
        have k_HE1_7 := HE1.out.cell 7
        have k_E3_0 := E3.out.cell 0
        have k_E3_1 := E3.out.cell 1
        have k_E3_2 := E3.out.cell 2
        have k_E3_3 := E3.out.cell 3
        have k_E3_4 := E3.out.cell 4
        have k_E3_5 := E3.out.cell 5
        have k_E3_6 := E3.out.cell 6
        have k_E3_7 := E3.out.cell 7
        have hlt3 := E3.out.lt
        go_wp2_with fail
        clear k_HE0_0 k_HE0_1 k_HE0_2 k_HE0_3 k_HE0_4 k_HE0_5 k_HE1_0 k_HE1_1 k_HE1_2 k_HE1_3 k_HE1_4 k_HE1_5 k_HE1_6 k_HE1_7 k_E3_0 k_E3_1 k_E3_2 k_E3_3 k_E3_4 k_E3_5 k_E3_6 k_E3_7
        let FS : List Kept1 := [.eq (.int .i64 1), .eq (.int .i64 1), .rf (1) (1), .eq (.int .i64 1), .eq (.agg #[.int .i64 T, .int .i64 S0, .int .i64 (m1 : Int), .int .i64 (m2 : Int), .int .i64 (m3 : Int), .int .i64 (m4 : Int)]), .rf (z1.1) (z1.2), .rf (d1.1) (d1.2), .eq (.pointer (some ⟨g3, 2, none⟩)), .any]
        let BS : List Bx := [Bx.part RF keepR (.inr (g3)) 8 101 #[.slice A0 p0 c0, .slice B0 q0 u0, .slice A1 p1 c1, .slice B1 q1 u1, .slice A2 p2 c2, .slice B2 q2 u2, .slice A3 p3 c3, .slice B3 q3 u3] 2 (d1.1) (d1.2)]
        refine region_mono (Held wr (fun j => FS.getD j .any) BS) (by kernel_rfl) (by kernel_rfl) (by kernel_rfl) (Held.start _ _ _ (by simp [BS, Bx.nat, Bx.rat, Bx.ref, Bx.part] <;> exact E3.out) (by simp [BS, Bx.nat, Bx.rat, Bx.ref, Bx.part])) ?_
        refine Steps.held ?_ ?_
        · intro L v w' hJ
          go_wp2_with fail
          exact ⟨rfl, rfl, hJ.out.same (by rfl) (rfl)⟩
        simp only [Act.put, List.setIfInBounds_toArray, List.set_cons_zero, List.set_cons_succ, Nat.reduceAdd]
        refine Steps.held ?_ ?_
        · intro L v w' hJ
          go_wp2_with fail
          exact ⟨rfl, rfl, hJ.out.same (by rfl) (rfl)⟩
        simp only [Act.put, List.setIfInBounds_toArray, List.set_cons_zero, List.set_cons_succ, Nat.reduceAdd]
        refine Steps.held ?_ ?_
        · intro L v w' hJ
          have hv1 : v 1 = .int .i64 1 := hJ.out.fact 1 (by kernel_rfl)
          simp only [hv1]
          clear hv1
          go_wp2_with fail
          with_reducible refine (HXB.out _).mono ?_
          rintro e w1 ⟨u, rfl, hu, hb⟩
          go_wp2_with fail
          exact ⟨rfl, rfl, hJ.out.call (by rfl) hb (hu)⟩
        simp only [Act.put, List.setIfInBounds_toArray, List.set_cons_zero, List.set_cons_succ, Nat.reduceAdd]
        refine Steps.held ?_ ?_
        · intro L v w' hJ
          go_wp2_with fail
          exact ⟨rfl, rfl, hJ.out.same (by rfl) (rfl)⟩
        simp only [Act.put, List.setIfInBounds_toArray, List.set_cons_zero, List.set_cons_succ, Nat.reduceAdd]
        refine Steps.held ?_ ?_
        · intro L v w' hJ
          have kb := hJ.out.blk HE0.out (by simp [oldsOf, BS, Bx.nat, Bx.rat, Bx.ref, Bx.part] <;> omega)
          have k0 := kb.cell 0
          have k1 := kb.cell 1
          have k2 := kb.cell 2
          have k3 := kb.cell 3
          have k4 := kb.cell 4
          have k5 := kb.cell 5
          clear kb
          go_wp2_with fail
          exact ⟨rfl, rfl, hJ.out.same (by rfl) (rfl)⟩
        simp only [Act.put, List.setIfInBounds_toArray, List.set_cons_zero, List.set_cons_succ, Nat.reduceAdd]
        refine Steps.held ?_ ?_
        · intro L v w' hJ
          have hv3 : v 3 = .int .i64 1 := hJ.out.fact 3 (by kernel_rfl)
          simp only [hv3]
          clear hv3
          have hv4 : v 4 = .agg #[.int .i64 T, .int .i64 S0, .int .i64 (m1 : Int), .int .i64 (m2 : Int), .int .i64 (m3 : Int), .int .i64 (m4 : Int)] := hJ.out.fact 4 (by kernel_rfl)
          simp only [hv4]
          clear hv4
          go_wp2_with fail
          with_reducible refine (HPP.out _).mono ?_
          rintro e w1 ⟨u, rfl, hu, hb⟩
          go_wp2_with fail
          exact ⟨rfl, rfl, hJ.out.call (by rfl) hb (hu)⟩
        simp only [Act.put, List.setIfInBounds_toArray, List.set_cons_zero, List.set_cons_succ, Nat.reduceAdd]
        refine Steps.held ?_ ?_
        · intro L v w' hJ
          have X0 := Lib.hid (show RF w' (v 2) (1) (1) from hJ.out.fact 2 (by kernel_rfl))
          have X1 := Lib.hid (show RF w' (v 5) (z1.1) (z1.2) from hJ.out.fact 5 (by kernel_rfl))
          go_wp2_with fail
          with_reducible refine (HLS.out _ _ _ X0.out X1.out).mono ?_
          rintro e w1 ⟨u, rfl, hu, hb⟩
          go_wp2_with fail
          exact ⟨rfl, rfl, hJ.out.call (by rfl) hb (hu)⟩
        simp only [Act.put, List.setIfInBounds_toArray, List.set_cons_zero, List.set_cons_succ, Nat.reduceAdd]
        refine Steps.held ?_ ?_
        · intro L v w' hJ
          have hv0 : v 0 = .int .i64 1 := hJ.out.fact 0 (by kernel_rfl)
          simp only [hv0]
          clear hv0
          go_wp2_with fail
          exact ⟨rfl, rfl, hJ.out.same (by rfl) (rfl)⟩
        simp only [Act.put, List.setIfInBounds_toArray, List.set_cons_zero, List.set_cons_succ, Nat.reduceAdd]
        refine Steps.held ?_ ?_
        · intro L v w' hJ
          obtain ⟨hown, hst⟩ := hJ.out.oldbox 0 _ rfl (g3) rfl
          have hN : RF w' (v 6) (d1.1) (d1.2) := hJ.out.fact 6 (by kernel_rfl)
          obtain ⟨AW, pW, cW, BW, qW, eW, hv, h1, h2⟩ := hN
          have HN := Lib.hid (show RF w' (.agg #[.slice AW pW cW, .slice BW qW eW]) (d1.1) (d1.2) from ⟨AW, pW, cW, BW, qW, eW, rfl, h1, h2⟩)
          have kb := hJ.out.box 0 _ rfl rfl (g3) hown
          have k0 : w'.cell? ⟨g3, 2, none⟩ = some (.slice A1 p1 c1) := kb.cell 2
          have k1 : w'.cell? ⟨g3, 3, none⟩ = some (.slice B1 q1 u1) := kb.cell 3
          have f0 := kb.frozen 2
          have f1 := kb.frozen 3
          have HO := Lib.hid hown
          have HS := Lib.hid hst
          clear kb h1 h2 hown hst
          have hv7 : v 7 = .pointer (some ⟨g3, 2, none⟩) := hJ.out.fact 7 (by kernel_rfl)
          simp only [hv7]
          clear hv7
          simp only [hv]
          clear hv
          go_wp2_with fail
          exact ⟨rfl, rfl, hJ.out.fillAt 0 _ rfl rfl (by rfl) (g3) HO.out HS.out 2 _ _ rfl rfl (fun W k => ⟨AW, pW, cW, BW, qW, eW, rfl, HN.out.keep k⟩) (fun _ => trivial)⟩
        simp only [Act.put, List.setIfInBounds_toArray, List.set_cons_zero, List.set_cons_succ, Nat.reduceAdd]
        refine Steps.nil ?_
        intro v w' hJ
        obtain ⟨cs, hblk, A1x, p1x, c1x, B1x, q1x, e1x, hcs, hf⟩ := hJ.end_old 0 _ rfl g3 rfl (Nat.le_of_ble_eq_true rfl)
        subst hcs
        have hblk' := Lib.hid (show Blk w' g3 101 #[.slice A0 p0 c0, .slice B0 q0 u0, .slice A1x p1x c1x, .slice B1x q1x e1x, .slice A2 p2 c2, .slice B2 q2 u2, .slice A3 p3 c3, .slice B3 q3 u3] from hblk)
        have hF := Lib.hid hf
        have hk2 := hJ.keep
        replace F0 := Lib.hid (F0.out.keep hk2)
        replace F1 := Lib.hid (F1.out.keep hk2)
        replace F2 := Lib.hid (F2.out.keep hk2)
        replace F3 := Lib.hid (F3.out.keep hk2)
        replace HE0 := Lib.hid (hJ.but.blk HE0.out (by simp [oldsOf, BS, Bx.nat, Bx.rat, Bx.ref, Bx.part] <;> omega))
        replace HE1 := Lib.hid (hJ.but.blk HE1.out (by simp [oldsOf, BS, Bx.nat, Bx.rat, Bx.ref, Bx.part] <;> omega))
        replace HBW := Lib.hid (hJ.but.to_below HBW.out HBW.out.size (by intro g hg; simp [oldsOf, BS, Bx.nat, Bx.rat, Bx.ref, Bx.part] at hg; subst hg; omega))
        clear hJ hf hblk hk2
        go_wp2_with fail
        go_roundw
        case rel => exact ⟨2, 2, .inr (.inl ⟨rfl, rfl⟩), rfl, Lib.hid ⟨_, _, _, _, _, _, _, _, _, _, _, _, _, _, _, _, _, _, _, _, _, _, _, _, hblk'.out, F0.out, hF.out, F2.out, F3.out⟩, HE0, HE1, HBW⟩
        case measure => simp [intOf]
    · rcases HD2.out with ⟨hzz, hdk⟩ | ⟨⟨hp1, hpk⟩, hdk⟩
      · by_cases hz1 : m1 = 0
        · obtain ⟨A0, p0, c0, B0, q0, u0, A1, p1, c1, B1, q1, u1, A2, p2, c2, B2, q2, u2, A3, p3, c3, B3, q3, u3, hbk, h0, h1, h2, h3⟩ := HBO.out
          have E3 := Lib.hid hbk
          have F0 := Lib.hid (show RF wr (.agg #[.slice A0 p0 c0, .slice B0 q0 u0]) (0, 1).1 (0, 1).2 from h0)
          have F1 := Lib.hid (show RF wr (.agg #[.slice A1 p1 c1, .slice B1 q1 u1]) d1.1 d1.2 from h1)
          have F2 := Lib.hid (show RF wr (.agg #[.slice A2 p2 c2, .slice B2 q2 u2]) (0, 1).1 (0, 1).2 from h2)
          have F3 := Lib.hid (show RF wr (.agg #[.slice A3 p3 c3, .slice B3 q3 u3]) (0, 1).1 (0, 1).2 from h3)
          clear hbk h0 h1 h2 h3 HBO
          have dd1 : decide (0 < m1) = false := decide_eq_false (by omega)
          clear hz1 hzz
          have k_HE0_0 := HE0.out.cell 0
          have k_HE0_1 := HE0.out.cell 1
          have k_HE0_2 := HE0.out.cell 2
          have k_HE0_3 := HE0.out.cell 3
          have k_HE0_4 := HE0.out.cell 4
          have k_HE0_5 := HE0.out.cell 5
          have HD := Lib.hid hdk
          clear hdk
          go_wp2_with fail
          go_roundw
          case rel => exact ⟨3, 3, .inr (.inr (.inl ⟨rfl, rfl⟩)), rfl, Lib.hid ⟨_, _, _, _, _, _, _, _, _, _, _, _, _, _, _, _, _, _, _, _, _, _, _, _, E3.out, F0.out, F1.out, (by rw [show (cond (Nat.blt 2 3) d2 (0, 1)) = d2 from rfl, HD.out]; exact F2.out), F3.out⟩, HE0, HE1, HBW⟩
          case measure => simp [intOf]
        · obtain ⟨A0, p0, c0, B0, q0, u0, A1, p1, c1, B1, q1, u1, A2, p2, c2, B2, q2, u2, A3, p3, c3, B3, q3, u3, hbk, h0, h1, h2, h3⟩ := HBO.out
          have E3 := Lib.hid hbk
          have F0 := Lib.hid (show RF wr (.agg #[.slice A0 p0 c0, .slice B0 q0 u0]) (0, 1).1 (0, 1).2 from h0)
          have F1 := Lib.hid (show RF wr (.agg #[.slice A1 p1 c1, .slice B1 q1 u1]) d1.1 d1.2 from h1)
          have F2 := Lib.hid (show RF wr (.agg #[.slice A2 p2 c2, .slice B2 q2 u2]) (0, 1).1 (0, 1).2 from h2)
          have F3 := Lib.hid (show RF wr (.agg #[.slice A3 p3 c3, .slice B3 q3 u3]) (0, 1).1 (0, 1).2 from h3)
          clear hbk h0 h1 h2 h3 HBO
          have dd1 : decide (0 < m1) = true := decide_eq_true (by omega)
          have ddk : decide (0 < m2) = false := decide_eq_false (by omega)
          clear hz1 hzz
          have k_HE0_0 := HE0.out.cell 0
          have k_HE0_1 := HE0.out.cell 1
          have k_HE0_2 := HE0.out.cell 2
          have k_HE0_3 := HE0.out.cell 3
          have k_HE0_4 := HE0.out.cell 4
          have k_HE0_5 := HE0.out.cell 5
          have HD := Lib.hid hdk
          clear hdk
          go_wp2_with fail
          go_roundw
          case rel => exact ⟨3, 3, .inr (.inr (.inl ⟨rfl, rfl⟩)), rfl, Lib.hid ⟨_, _, _, _, _, _, _, _, _, _, _, _, _, _, _, _, _, _, _, _, _, _, _, _, E3.out, F0.out, F1.out, (by rw [show (cond (Nat.blt 2 3) d2 (0, 1)) = d2 from rfl, HD.out]; exact F2.out), F3.out⟩, HE0, HE1, HBW⟩
          case measure => simp [intOf]
      · obtain ⟨A0, p0, c0, B0, q0, u0, A1, p1, c1, B1, q1, u1, A2, p2, c2, B2, q2, u2, A3, p3, c3, B3, q3, u3, hbk, h0, h1, h2, h3⟩ := HBO.out
        have E3 := Lib.hid hbk
        have F0 := Lib.hid (show RF wr (.agg #[.slice A0 p0 c0, .slice B0 q0 u0]) (0, 1).1 (0, 1).2 from h0)
        have F1 := Lib.hid (show RF wr (.agg #[.slice A1 p1 c1, .slice B1 q1 u1]) d1.1 d1.2 from h1)
        have F2 := Lib.hid (show RF wr (.agg #[.slice A2 p2 c2, .slice B2 q2 u2]) (0, 1).1 (0, 1).2 from h2)
        have F3 := Lib.hid (show RF wr (.agg #[.slice A3 p3 c3, .slice B3 q3 u3]) (0, 1).1 (0, 1).2 from h3)
        clear hbk h0 h1 h2 h3 HBO
        have dd1 : decide (0 < m1) = true := decide_eq_true (by omega)
        have ddk : decide (0 < m2) = true := decide_eq_true (by omega)
        have HXB : Hid (∀ W, Calls Try.prog 70 #[.int .i64 2] W (MkR W 2 1)) := Lib.hid (fun W => xwhole 2 (by decide) W)
        have HPP := Lib.hid (fun W => HP2.out W hp1 hpk)
        have HLS : Hid (∀ va vb W, RF W va 2 1 → RF W vb z2.1 z2.2 → Calls Try.prog 69 #[va, vb] W (MkR W (lessR (2, 1) z2).1 (lessR (2, 1) z2).2)) := Lib.hid (fun va vb W h1 h2 => c_xless (a := (2, 1)) (b := z2) (B := 80) (by decide) (red_int 2) (HR2.out hp1 hpk) ((sz_int (by decide)).mono (by decide)) HS2.out h1 h2)
        rw [← hdk] at HLS
        clear hdk hp1 hpk
        have k_HE0_0 := HE0.out.cell 0
        have k_HE0_1 := HE0.out.cell 1
        have k_HE0_2 := HE0.out.cell 2
        have k_HE0_3 := HE0.out.cell 3
        have k_HE0_4 := HE0.out.cell 4
        have k_HE0_5 := HE0.out.cell 5
        have k_HE1_0 := HE1.out.cell 0
        have k_HE1_1 := HE1.out.cell 1
        have k_HE1_2 := HE1.out.cell 2
        have k_HE1_3 := HE1.out.cell 3
        have k_HE1_4 := HE1.out.cell 4
        have k_HE1_5 := HE1.out.cell 5
        have k_HE1_6 := HE1.out.cell 6
        have k_HE1_7 := HE1.out.cell 7
        have k_E3_0 := E3.out.cell 0
        have k_E3_1 := E3.out.cell 1
        have k_E3_2 := E3.out.cell 2
        have k_E3_3 := E3.out.cell 3
        have k_E3_4 := E3.out.cell 4
        have k_E3_5 := E3.out.cell 5
        have k_E3_6 := E3.out.cell 6
        have k_E3_7 := E3.out.cell 7
        have hlt3 := E3.out.lt
        go_wp2_with fail
        clear k_HE0_0 k_HE0_1 k_HE0_2 k_HE0_3 k_HE0_4 k_HE0_5 k_HE1_0 k_HE1_1 k_HE1_2 k_HE1_3 k_HE1_4 k_HE1_5 k_HE1_6 k_HE1_7 k_E3_0 k_E3_1 k_E3_2 k_E3_3 k_E3_4 k_E3_5 k_E3_6 k_E3_7
        let FS : List Kept1 := [.eq (.int .i64 2), .eq (.int .i64 2), .rf (2) (1), .eq (.int .i64 2), .eq (.agg #[.int .i64 T, .int .i64 S0, .int .i64 (m1 : Int), .int .i64 (m2 : Int), .int .i64 (m3 : Int), .int .i64 (m4 : Int)]), .rf (z2.1) (z2.2), .rf (d2.1) (d2.2), .eq (.pointer (some ⟨g3, 4, none⟩)), .any]
        let BS : List Bx := [Bx.part RF keepR (.inr (g3)) 8 101 #[.slice A0 p0 c0, .slice B0 q0 u0, .slice A1 p1 c1, .slice B1 q1 u1, .slice A2 p2 c2, .slice B2 q2 u2, .slice A3 p3 c3, .slice B3 q3 u3] 4 (d2.1) (d2.2)]
        refine region_mono (Held wr (fun j => FS.getD j .any) BS) (by kernel_rfl) (by kernel_rfl) (by kernel_rfl) (Held.start _ _ _ (by simp [BS, Bx.nat, Bx.rat, Bx.ref, Bx.part] <;> exact E3.out) (by simp [BS, Bx.nat, Bx.rat, Bx.ref, Bx.part])) ?_
        refine Steps.held ?_ ?_
        · intro L v w' hJ
          go_wp2_with fail
          exact ⟨rfl, rfl, hJ.out.same (by rfl) (rfl)⟩
        simp only [Act.put, List.setIfInBounds_toArray, List.set_cons_zero, List.set_cons_succ, Nat.reduceAdd]
        refine Steps.held ?_ ?_
        · intro L v w' hJ
          go_wp2_with fail
          exact ⟨rfl, rfl, hJ.out.same (by rfl) (rfl)⟩
        simp only [Act.put, List.setIfInBounds_toArray, List.set_cons_zero, List.set_cons_succ, Nat.reduceAdd]
        refine Steps.held ?_ ?_
        · intro L v w' hJ
          have hv1 : v 1 = .int .i64 2 := hJ.out.fact 1 (by kernel_rfl)
          simp only [hv1]
          clear hv1
          go_wp2_with fail
          with_reducible refine (HXB.out _).mono ?_
          rintro e w1 ⟨u, rfl, hu, hb⟩
          go_wp2_with fail
          exact ⟨rfl, rfl, hJ.out.call (by rfl) hb (hu)⟩
        simp only [Act.put, List.setIfInBounds_toArray, List.set_cons_zero, List.set_cons_succ, Nat.reduceAdd]
        refine Steps.held ?_ ?_
        · intro L v w' hJ
          go_wp2_with fail
          exact ⟨rfl, rfl, hJ.out.same (by rfl) (rfl)⟩
        simp only [Act.put, List.setIfInBounds_toArray, List.set_cons_zero, List.set_cons_succ, Nat.reduceAdd]
        refine Steps.held ?_ ?_
        · intro L v w' hJ
          have kb := hJ.out.blk HE0.out (by simp [oldsOf, BS, Bx.nat, Bx.rat, Bx.ref, Bx.part] <;> omega)
          have k0 := kb.cell 0
          have k1 := kb.cell 1
          have k2 := kb.cell 2
          have k3 := kb.cell 3
          have k4 := kb.cell 4
          have k5 := kb.cell 5
          clear kb
          go_wp2_with fail
          exact ⟨rfl, rfl, hJ.out.same (by rfl) (rfl)⟩
        simp only [Act.put, List.setIfInBounds_toArray, List.set_cons_zero, List.set_cons_succ, Nat.reduceAdd]
        refine Steps.held ?_ ?_
        · intro L v w' hJ
          have hv3 : v 3 = .int .i64 2 := hJ.out.fact 3 (by kernel_rfl)
          simp only [hv3]
          clear hv3
          have hv4 : v 4 = .agg #[.int .i64 T, .int .i64 S0, .int .i64 (m1 : Int), .int .i64 (m2 : Int), .int .i64 (m3 : Int), .int .i64 (m4 : Int)] := hJ.out.fact 4 (by kernel_rfl)
          simp only [hv4]
          clear hv4
          go_wp2_with fail
          with_reducible refine (HPP.out _).mono ?_
          rintro e w1 ⟨u, rfl, hu, hb⟩
          go_wp2_with fail
          exact ⟨rfl, rfl, hJ.out.call (by rfl) hb (hu)⟩
        simp only [Act.put, List.setIfInBounds_toArray, List.set_cons_zero, List.set_cons_succ, Nat.reduceAdd]
        refine Steps.held ?_ ?_
        · intro L v w' hJ
          have X0 := Lib.hid (show RF w' (v 2) (2) (1) from hJ.out.fact 2 (by kernel_rfl))
          have X1 := Lib.hid (show RF w' (v 5) (z2.1) (z2.2) from hJ.out.fact 5 (by kernel_rfl))
          go_wp2_with fail
          with_reducible refine (HLS.out _ _ _ X0.out X1.out).mono ?_
          rintro e w1 ⟨u, rfl, hu, hb⟩
          go_wp2_with fail
          exact ⟨rfl, rfl, hJ.out.call (by rfl) hb (hu)⟩
        simp only [Act.put, List.setIfInBounds_toArray, List.set_cons_zero, List.set_cons_succ, Nat.reduceAdd]
        refine Steps.held ?_ ?_
        · intro L v w' hJ
          have hv0 : v 0 = .int .i64 2 := hJ.out.fact 0 (by kernel_rfl)
          simp only [hv0]
          clear hv0
          go_wp2_with fail
          exact ⟨rfl, rfl, hJ.out.same (by rfl) (rfl)⟩
        simp only [Act.put, List.setIfInBounds_toArray, List.set_cons_zero, List.set_cons_succ, Nat.reduceAdd]
        refine Steps.held ?_ ?_
        · intro L v w' hJ
          obtain ⟨hown, hst⟩ := hJ.out.oldbox 0 _ rfl (g3) rfl
          have hN : RF w' (v 6) (d2.1) (d2.2) := hJ.out.fact 6 (by kernel_rfl)
          obtain ⟨AW, pW, cW, BW, qW, eW, hv, h1, h2⟩ := hN
          have HN := Lib.hid (show RF w' (.agg #[.slice AW pW cW, .slice BW qW eW]) (d2.1) (d2.2) from ⟨AW, pW, cW, BW, qW, eW, rfl, h1, h2⟩)
          have kb := hJ.out.box 0 _ rfl rfl (g3) hown
          have k0 : w'.cell? ⟨g3, 4, none⟩ = some (.slice A2 p2 c2) := kb.cell 4
          have k1 : w'.cell? ⟨g3, 5, none⟩ = some (.slice B2 q2 u2) := kb.cell 5
          have f0 := kb.frozen 4
          have f1 := kb.frozen 5
          have HO := Lib.hid hown
          have HS := Lib.hid hst
          clear kb h1 h2 hown hst
          have hv7 : v 7 = .pointer (some ⟨g3, 4, none⟩) := hJ.out.fact 7 (by kernel_rfl)
          simp only [hv7]
          clear hv7
          simp only [hv]
          clear hv
          go_wp2_with fail
          exact ⟨rfl, rfl, hJ.out.fillAt 0 _ rfl rfl (by rfl) (g3) HO.out HS.out 4 _ _ rfl rfl (fun W k => ⟨AW, pW, cW, BW, qW, eW, rfl, HN.out.keep k⟩) (fun _ => trivial)⟩
        simp only [Act.put, List.setIfInBounds_toArray, List.set_cons_zero, List.set_cons_succ, Nat.reduceAdd]
        refine Steps.nil ?_
        intro v w' hJ
        obtain ⟨cs, hblk, A1x, p1x, c1x, B1x, q1x, e1x, hcs, hf⟩ := hJ.end_old 0 _ rfl g3 rfl (Nat.le_of_ble_eq_true rfl)
        subst hcs
        have hblk' := Lib.hid (show Blk w' g3 101 #[.slice A0 p0 c0, .slice B0 q0 u0, .slice A1 p1 c1, .slice B1 q1 u1, .slice A1x p1x c1x, .slice B1x q1x e1x, .slice A3 p3 c3, .slice B3 q3 u3] from hblk)
        have hF := Lib.hid hf
        have hk2 := hJ.keep
        replace F0 := Lib.hid (F0.out.keep hk2)
        replace F1 := Lib.hid (F1.out.keep hk2)
        replace F2 := Lib.hid (F2.out.keep hk2)
        replace F3 := Lib.hid (F3.out.keep hk2)
        replace HE0 := Lib.hid (hJ.but.blk HE0.out (by simp [oldsOf, BS, Bx.nat, Bx.rat, Bx.ref, Bx.part] <;> omega))
        replace HE1 := Lib.hid (hJ.but.blk HE1.out (by simp [oldsOf, BS, Bx.nat, Bx.rat, Bx.ref, Bx.part] <;> omega))
        replace HBW := Lib.hid (hJ.but.to_below HBW.out HBW.out.size (by intro g hg; simp [oldsOf, BS, Bx.nat, Bx.rat, Bx.ref, Bx.part] at hg; subst hg; omega))
        clear hJ hf hblk hk2
        go_wp2_with fail
        go_roundw
        case rel => exact ⟨3, 3, .inr (.inr (.inl ⟨rfl, rfl⟩)), rfl, Lib.hid ⟨_, _, _, _, _, _, _, _, _, _, _, _, _, _, _, _, _, _, _, _, _, _, _, _, hblk'.out, F0.out, F1.out, hF.out, F3.out⟩, HE0, HE1, HBW⟩
        case measure => simp [intOf]
    · rcases HD3.out with ⟨hzz, hdk⟩ | ⟨⟨hp1, hpk⟩, hdk⟩
      · by_cases hz1 : m1 = 0
        · obtain ⟨A0, p0, c0, B0, q0, u0, A1, p1, c1, B1, q1, u1, A2, p2, c2, B2, q2, u2, A3, p3, c3, B3, q3, u3, hbk, h0, h1, h2, h3⟩ := HBO.out
          have E3 := Lib.hid hbk
          have F0 := Lib.hid (show RF wr (.agg #[.slice A0 p0 c0, .slice B0 q0 u0]) (0, 1).1 (0, 1).2 from h0)
          have F1 := Lib.hid (show RF wr (.agg #[.slice A1 p1 c1, .slice B1 q1 u1]) d1.1 d1.2 from h1)
          have F2 := Lib.hid (show RF wr (.agg #[.slice A2 p2 c2, .slice B2 q2 u2]) d2.1 d2.2 from h2)
          have F3 := Lib.hid (show RF wr (.agg #[.slice A3 p3 c3, .slice B3 q3 u3]) (0, 1).1 (0, 1).2 from h3)
          clear hbk h0 h1 h2 h3 HBO
          have dd1 : decide (0 < m1) = false := decide_eq_false (by omega)
          clear hz1 hzz
          have k_HE0_0 := HE0.out.cell 0
          have k_HE0_1 := HE0.out.cell 1
          have k_HE0_2 := HE0.out.cell 2
          have k_HE0_3 := HE0.out.cell 3
          have k_HE0_4 := HE0.out.cell 4
          have k_HE0_5 := HE0.out.cell 5
          have HD := Lib.hid hdk
          clear hdk
          go_wp2_with fail
          go_roundw
          case rel => exact ⟨4, 4, .inr (.inr (.inr ⟨rfl, rfl⟩)), rfl, Lib.hid ⟨_, _, _, _, _, _, _, _, _, _, _, _, _, _, _, _, _, _, _, _, _, _, _, _, E3.out, F0.out, F1.out, F2.out, (by rw [show (cond (Nat.blt 3 4) d3 (0, 1)) = d3 from rfl, HD.out]; exact F3.out)⟩, HE0, HE1, HBW⟩
          case measure => simp [intOf]
        · obtain ⟨A0, p0, c0, B0, q0, u0, A1, p1, c1, B1, q1, u1, A2, p2, c2, B2, q2, u2, A3, p3, c3, B3, q3, u3, hbk, h0, h1, h2, h3⟩ := HBO.out
          have E3 := Lib.hid hbk
          have F0 := Lib.hid (show RF wr (.agg #[.slice A0 p0 c0, .slice B0 q0 u0]) (0, 1).1 (0, 1).2 from h0)
          have F1 := Lib.hid (show RF wr (.agg #[.slice A1 p1 c1, .slice B1 q1 u1]) d1.1 d1.2 from h1)
          have F2 := Lib.hid (show RF wr (.agg #[.slice A2 p2 c2, .slice B2 q2 u2]) d2.1 d2.2 from h2)
          have F3 := Lib.hid (show RF wr (.agg #[.slice A3 p3 c3, .slice B3 q3 u3]) (0, 1).1 (0, 1).2 from h3)
          clear hbk h0 h1 h2 h3 HBO
          have dd1 : decide (0 < m1) = true := decide_eq_true (by omega)
          have ddk : decide (0 < m3) = false := decide_eq_false (by omega)
          clear hz1 hzz
          have k_HE0_0 := HE0.out.cell 0
          have k_HE0_1 := HE0.out.cell 1
          have k_HE0_2 := HE0.out.cell 2
          have k_HE0_3 := HE0.out.cell 3
          have k_HE0_4 := HE0.out.cell 4
          have k_HE0_5 := HE0.out.cell 5
          have HD := Lib.hid hdk
          clear hdk
          go_wp2_with fail
          go_roundw
          case rel => exact ⟨4, 4, .inr (.inr (.inr ⟨rfl, rfl⟩)), rfl, Lib.hid ⟨_, _, _, _, _, _, _, _, _, _, _, _, _, _, _, _, _, _, _, _, _, _, _, _, E3.out, F0.out, F1.out, F2.out, (by rw [show (cond (Nat.blt 3 4) d3 (0, 1)) = d3 from rfl, HD.out]; exact F3.out)⟩, HE0, HE1, HBW⟩
          case measure => simp [intOf]
      · obtain ⟨A0, p0, c0, B0, q0, u0, A1, p1, c1, B1, q1, u1, A2, p2, c2, B2, q2, u2, A3, p3, c3, B3, q3, u3, hbk, h0, h1, h2, h3⟩ := HBO.out
        have E3 := Lib.hid hbk
        have F0 := Lib.hid (show RF wr (.agg #[.slice A0 p0 c0, .slice B0 q0 u0]) (0, 1).1 (0, 1).2 from h0)
        have F1 := Lib.hid (show RF wr (.agg #[.slice A1 p1 c1, .slice B1 q1 u1]) d1.1 d1.2 from h1)
        have F2 := Lib.hid (show RF wr (.agg #[.slice A2 p2 c2, .slice B2 q2 u2]) d2.1 d2.2 from h2)
        have F3 := Lib.hid (show RF wr (.agg #[.slice A3 p3 c3, .slice B3 q3 u3]) (0, 1).1 (0, 1).2 from h3)
        clear hbk h0 h1 h2 h3 HBO
        have dd1 : decide (0 < m1) = true := decide_eq_true (by omega)
        have ddk : decide (0 < m3) = true := decide_eq_true (by omega)
        have HXB : Hid (∀ W, Calls Try.prog 70 #[.int .i64 3] W (MkR W 3 1)) := Lib.hid (fun W => xwhole 3 (by decide) W)
        have HPP := Lib.hid (fun W => HP3.out W hp1 hpk)
        have HLS : Hid (∀ va vb W, RF W va 3 1 → RF W vb z3.1 z3.2 → Calls Try.prog 69 #[va, vb] W (MkR W (lessR (3, 1) z3).1 (lessR (3, 1) z3).2)) := Lib.hid (fun va vb W h1 h2 => c_xless (a := (3, 1)) (b := z3) (B := 80) (by decide) (red_int 3) (HR3.out hp1 hpk) ((sz_int (by decide)).mono (by decide)) HS3.out h1 h2)
        rw [← hdk] at HLS
        clear hdk hp1 hpk
        have k_HE0_0 := HE0.out.cell 0
        have k_HE0_1 := HE0.out.cell 1
        have k_HE0_2 := HE0.out.cell 2
        have k_HE0_3 := HE0.out.cell 3
        have k_HE0_4 := HE0.out.cell 4
        have k_HE0_5 := HE0.out.cell 5
        have k_HE1_0 := HE1.out.cell 0
        have k_HE1_1 := HE1.out.cell 1
        have k_HE1_2 := HE1.out.cell 2
        have k_HE1_3 := HE1.out.cell 3
        have k_HE1_4 := HE1.out.cell 4
        have k_HE1_5 := HE1.out.cell 5
        have k_HE1_6 := HE1.out.cell 6
        have k_HE1_7 := HE1.out.cell 7
        have k_E3_0 := E3.out.cell 0
        have k_E3_1 := E3.out.cell 1
        have k_E3_2 := E3.out.cell 2
        have k_E3_3 := E3.out.cell 3
        have k_E3_4 := E3.out.cell 4
        have k_E3_5 := E3.out.cell 5
        have k_E3_6 := E3.out.cell 6
        have k_E3_7 := E3.out.cell 7
        have hlt3 := E3.out.lt
        go_wp2_with fail
        clear k_HE0_0 k_HE0_1 k_HE0_2 k_HE0_3 k_HE0_4 k_HE0_5 k_HE1_0 k_HE1_1 k_HE1_2 k_HE1_3 k_HE1_4 k_HE1_5 k_HE1_6 k_HE1_7 k_E3_0 k_E3_1 k_E3_2 k_E3_3 k_E3_4 k_E3_5 k_E3_6 k_E3_7
        let FS : List Kept1 := [.eq (.int .i64 3), .eq (.int .i64 3), .rf (3) (1), .eq (.int .i64 3), .eq (.agg #[.int .i64 T, .int .i64 S0, .int .i64 (m1 : Int), .int .i64 (m2 : Int), .int .i64 (m3 : Int), .int .i64 (m4 : Int)]), .rf (z3.1) (z3.2), .rf (d3.1) (d3.2), .eq (.pointer (some ⟨g3, 6, none⟩)), .any]
        let BS : List Bx := [Bx.part RF keepR (.inr (g3)) 8 101 #[.slice A0 p0 c0, .slice B0 q0 u0, .slice A1 p1 c1, .slice B1 q1 u1, .slice A2 p2 c2, .slice B2 q2 u2, .slice A3 p3 c3, .slice B3 q3 u3] 6 (d3.1) (d3.2)]
        refine region_mono (Held wr (fun j => FS.getD j .any) BS) (by kernel_rfl) (by kernel_rfl) (by kernel_rfl) (Held.start _ _ _ (by simp [BS, Bx.nat, Bx.rat, Bx.ref, Bx.part] <;> exact E3.out) (by simp [BS, Bx.nat, Bx.rat, Bx.ref, Bx.part])) ?_
        refine Steps.held ?_ ?_
        · intro L v w' hJ
          go_wp2_with fail
          exact ⟨rfl, rfl, hJ.out.same (by rfl) (rfl)⟩
        simp only [Act.put, List.setIfInBounds_toArray, List.set_cons_zero, List.set_cons_succ, Nat.reduceAdd]
        refine Steps.held ?_ ?_
        · intro L v w' hJ
          go_wp2_with fail
          exact ⟨rfl, rfl, hJ.out.same (by rfl) (rfl)⟩
        simp only [Act.put, List.setIfInBounds_toArray, List.set_cons_zero, List.set_cons_succ, Nat.reduceAdd]
        refine Steps.held ?_ ?_
        · intro L v w' hJ
          have hv1 : v 1 = .int .i64 3 := hJ.out.fact 1 (by kernel_rfl)
          simp only [hv1]
          clear hv1
          go_wp2_with fail
          with_reducible refine (HXB.out _).mono ?_
          rintro e w1 ⟨u, rfl, hu, hb⟩
          go_wp2_with fail
          exact ⟨rfl, rfl, hJ.out.call (by rfl) hb (hu)⟩
        simp only [Act.put, List.setIfInBounds_toArray, List.set_cons_zero, List.set_cons_succ, Nat.reduceAdd]
        refine Steps.held ?_ ?_
        · intro L v w' hJ
          go_wp2_with fail
          exact ⟨rfl, rfl, hJ.out.same (by rfl) (rfl)⟩
        simp only [Act.put, List.setIfInBounds_toArray, List.set_cons_zero, List.set_cons_succ, Nat.reduceAdd]
        refine Steps.held ?_ ?_
        · intro L v w' hJ
          have kb := hJ.out.blk HE0.out (by simp [oldsOf, BS, Bx.nat, Bx.rat, Bx.ref, Bx.part] <;> omega)
          have k0 := kb.cell 0
          have k1 := kb.cell 1
          have k2 := kb.cell 2
          have k3 := kb.cell 3
          have k4 := kb.cell 4
          have k5 := kb.cell 5
          clear kb
          go_wp2_with fail
          exact ⟨rfl, rfl, hJ.out.same (by rfl) (rfl)⟩
        simp only [Act.put, List.setIfInBounds_toArray, List.set_cons_zero, List.set_cons_succ, Nat.reduceAdd]
        refine Steps.held ?_ ?_
        · intro L v w' hJ
          have hv3 : v 3 = .int .i64 3 := hJ.out.fact 3 (by kernel_rfl)
          simp only [hv3]
          clear hv3
          have hv4 : v 4 = .agg #[.int .i64 T, .int .i64 S0, .int .i64 (m1 : Int), .int .i64 (m2 : Int), .int .i64 (m3 : Int), .int .i64 (m4 : Int)] := hJ.out.fact 4 (by kernel_rfl)
          simp only [hv4]
          clear hv4
          go_wp2_with fail
          with_reducible refine (HPP.out _).mono ?_
          rintro e w1 ⟨u, rfl, hu, hb⟩
          go_wp2_with fail
          exact ⟨rfl, rfl, hJ.out.call (by rfl) hb (hu)⟩
        simp only [Act.put, List.setIfInBounds_toArray, List.set_cons_zero, List.set_cons_succ, Nat.reduceAdd]
        refine Steps.held ?_ ?_
        · intro L v w' hJ
          have X0 := Lib.hid (show RF w' (v 2) (3) (1) from hJ.out.fact 2 (by kernel_rfl))
          have X1 := Lib.hid (show RF w' (v 5) (z3.1) (z3.2) from hJ.out.fact 5 (by kernel_rfl))
          go_wp2_with fail
          with_reducible refine (HLS.out _ _ _ X0.out X1.out).mono ?_
          rintro e w1 ⟨u, rfl, hu, hb⟩
          go_wp2_with fail
          exact ⟨rfl, rfl, hJ.out.call (by rfl) hb (hu)⟩
        simp only [Act.put, List.setIfInBounds_toArray, List.set_cons_zero, List.set_cons_succ, Nat.reduceAdd]
        refine Steps.held ?_ ?_
        · intro L v w' hJ
          have hv0 : v 0 = .int .i64 3 := hJ.out.fact 0 (by kernel_rfl)
          simp only [hv0]
          clear hv0
          go_wp2_with fail
          exact ⟨rfl, rfl, hJ.out.same (by rfl) (rfl)⟩
        simp only [Act.put, List.setIfInBounds_toArray, List.set_cons_zero, List.set_cons_succ, Nat.reduceAdd]
        refine Steps.held ?_ ?_
        · intro L v w' hJ
          obtain ⟨hown, hst⟩ := hJ.out.oldbox 0 _ rfl (g3) rfl
          have hN : RF w' (v 6) (d3.1) (d3.2) := hJ.out.fact 6 (by kernel_rfl)
          obtain ⟨AW, pW, cW, BW, qW, eW, hv, h1, h2⟩ := hN
          have HN := Lib.hid (show RF w' (.agg #[.slice AW pW cW, .slice BW qW eW]) (d3.1) (d3.2) from ⟨AW, pW, cW, BW, qW, eW, rfl, h1, h2⟩)
          have kb := hJ.out.box 0 _ rfl rfl (g3) hown
          have k0 : w'.cell? ⟨g3, 6, none⟩ = some (.slice A3 p3 c3) := kb.cell 6
          have k1 : w'.cell? ⟨g3, 7, none⟩ = some (.slice B3 q3 u3) := kb.cell 7
          have f0 := kb.frozen 6
          have f1 := kb.frozen 7
          have HO := Lib.hid hown
          have HS := Lib.hid hst
          clear kb h1 h2 hown hst
          have hv7 : v 7 = .pointer (some ⟨g3, 6, none⟩) := hJ.out.fact 7 (by kernel_rfl)
          simp only [hv7]
          clear hv7
          simp only [hv]
          clear hv
          go_wp2_with fail
          exact ⟨rfl, rfl, hJ.out.fillAt 0 _ rfl rfl (by rfl) (g3) HO.out HS.out 6 _ _ rfl rfl (fun W k => ⟨AW, pW, cW, BW, qW, eW, rfl, HN.out.keep k⟩) (fun _ => trivial)⟩
        simp only [Act.put, List.setIfInBounds_toArray, List.set_cons_zero, List.set_cons_succ, Nat.reduceAdd]
        refine Steps.nil ?_
        intro v w' hJ
        obtain ⟨cs, hblk, A1x, p1x, c1x, B1x, q1x, e1x, hcs, hf⟩ := hJ.end_old 0 _ rfl g3 rfl (Nat.le_of_ble_eq_true rfl)
        subst hcs
        have hblk' := Lib.hid (show Blk w' g3 101 #[.slice A0 p0 c0, .slice B0 q0 u0, .slice A1 p1 c1, .slice B1 q1 u1, .slice A2 p2 c2, .slice B2 q2 u2, .slice A1x p1x c1x, .slice B1x q1x e1x] from hblk)
        have hF := Lib.hid hf
        have hk2 := hJ.keep
        replace F0 := Lib.hid (F0.out.keep hk2)
        replace F1 := Lib.hid (F1.out.keep hk2)
        replace F2 := Lib.hid (F2.out.keep hk2)
        replace F3 := Lib.hid (F3.out.keep hk2)
        replace HE0 := Lib.hid (hJ.but.blk HE0.out (by simp [oldsOf, BS, Bx.nat, Bx.rat, Bx.ref, Bx.part] <;> omega))
        replace HE1 := Lib.hid (hJ.but.blk HE1.out (by simp [oldsOf, BS, Bx.nat, Bx.rat, Bx.ref, Bx.part] <;> omega))
        replace HBW := Lib.hid (hJ.but.to_below HBW.out HBW.out.size (by intro g hg; simp [oldsOf, BS, Bx.nat, Bx.rat, Bx.ref, Bx.part] at hg; subst hg; omega))
        clear hJ hf hblk hk2
        go_wp2_with fail
        go_roundw
        case rel => exact ⟨4, 4, .inr (.inr (.inr ⟨rfl, rfl⟩)), rfl, Lib.hid ⟨_, _, _, _, _, _, _, _, _, _, _, _, _, _, _, _, _, _, _, _, _, _, _, _, hblk'.out, F0.out, F1.out, F2.out, hF.out⟩, HE0, HE1, HBW⟩
        case measure => simp [intOf]
    · obtain ⟨A0, p0, c0, B0, q0, u0, A1, p1, c1, B1, q1, u1, A2, p2, c2, B2, q2, u2, A3, p3, c3, B3, q3, u3, hbk, h0, h1, h2, h3⟩ := HBO.out
      have E3 := Lib.hid hbk
      have F0 := Lib.hid (show RF wr (.agg #[.slice A0 p0 c0, .slice B0 q0 u0]) (0, 1).1 (0, 1).2 from h0)
      have F1 := Lib.hid (show RF wr (.agg #[.slice A1 p1 c1, .slice B1 q1 u1]) d1.1 d1.2 from h1)
      have F2 := Lib.hid (show RF wr (.agg #[.slice A2 p2 c2, .slice B2 q2 u2]) d2.1 d2.2 from h2)
      have F3 := Lib.hid (show RF wr (.agg #[.slice A3 p3 c3, .slice B3 q3 u3]) d3.1 d3.2 from h3)
      clear hbk h0 h1 h2 h3 HBO
      have k_HE1_0 := HE1.out.cell 0
      have k_HE1_1 := HE1.out.cell 1
      have k_HE1_2 := HE1.out.cell 2
      have k_HE1_3 := HE1.out.cell 3
      have k_HE1_4 := HE1.out.cell 4
      have k_HE1_5 := HE1.out.cell 5
      have k_HE1_6 := HE1.out.cell 6
      have k_HE1_7 := HE1.out.cell 7
      have k_E3_0 := E3.out.cell 0
      have k_E3_1 := E3.out.cell 1
      have k_E3_2 := E3.out.cell 2
      have k_E3_3 := E3.out.cell 3
      have k_E3_4 := E3.out.cell 4
      have k_E3_5 := E3.out.cell 5
      have k_E3_6 := E3.out.cell 6
      have k_E3_7 := E3.out.cell 7
      have f0 := HE1.out.frozen 0
      have f1 := HE1.out.frozen 1
      have f2 := HE1.out.frozen 2
      have f3 := HE1.out.frozen 3
      have f4 := HE1.out.frozen 4
      have f5 := HE1.out.frozen 5
      have f6 := HE1.out.frozen 6
      have f7 := HE1.out.frozen 7
      have HX := Lib.hid (retS (P := RF) (a0 := (0, 1)) (a1 := d1) (a2 := d2) (a3 := d3) keepR HE1.out rfl (by omega) HBW.out F0.out F1.out F2.out F3.out)
      go_wp2_with fail
      exact bodyPost_ret (v := .agg #[.slice A0 p0 c0, .slice B0 q0 u0, .slice A1 p1 c1, .slice B1 q1 u1, .slice A2 p2 c2, .slice B2 q2 u2, .slice A3 p3 c3, .slice B3 q3 u3]) (by simp [results, Try.results81, go_sem, k_HE1_0, k_HE1_1, k_HE1_2, k_HE1_3, k_HE1_4, k_HE1_5, k_HE1_6, k_HE1_7]) rfl HX.out
set_option maxRecDepth 100000 in
set_option maxHeartbeats 4000000 in
theorem rgamma_any (T : Int) (mS : Nat) (m1 m2 m3 m4 : Nat) (mt : Nat) (d0 d1 d2 d3 : Nat × Nat) (v : Value) (w : World) (bS : mS ≤ 1099511627776) (b1 : m1 ≤ 1099511627776) (b2 : m2 ≤ 1099511627776) (bT : T ≤ 1099511627776) (ht : T - (m1 : Int) - (m2 : Int) = (mt : Int)) (r1 : Red d1) (r2 : Red d2) (r3 : Red d3) (s1 : Sz 80 d1) (s2 : Sz 80 d2) (s3 : Sz 80 d3) (hs : SetR w v d0 d1 d2 d3) : Calls Try.prog 90 #[v, .agg #[.int .i64 T, .int .i64 (mS : Int), .int .i64 (m1 : Int), .int .i64 (m2 : Int), .int .i64 (m3 : Int), .int .i64 (m4 : Int)]] w (MkR w (gamR (addR (addR (mulR (m1, 1) d1) (mulR (m2, 1) d2)) (mulR (mt, 1) d3)) mS).1 (gamR (addR (addR (mulR (m1, 1) d1) (mulR (m2, 1) d2)) (mulR (mt, 1) d3)) mS).2) := by
  have i1 := (sz_int (x := m1) (by omega)).mono (C := 80) (by decide)
  have i2 := (sz_int (x := m2) (by omega)).mono (C := 80) (by decide)
  have it := (sz_int (x := mt) (by omega)).mono (C := 80) (by decide)
  have iS := (sz_int (x := mS) (by omega)).mono (C := 1000) (by decide)
  by_cases hz : mS < 1
  · have hg : gamR (addR (addR (mulR (m1, 1) d1) (mulR (m2, 1) d2)) (mulR (mt, 1) d3)) mS = (1, 1) := if_pos hz
    rw [hg]
    have dt : decide ((mS : Int) < 1) = true := decide_eq_true (by omega)
    have HI1 : Hid (∀ W, Calls Try.prog 70 #[.int .i64 1] W (MkR W 1 1)) := Lib.hid (fun W => xint_any 1 1 (by decide) (by decide) W)
    clear hg i1 i2 it iS r1 r2 r3 s1 s2 s3 ht hz
    obtain ⟨A0, p0, c0, B0, q0, u0, A1, p1, c1, B1, q1, u1, A2, p2, c2, B2, q2, u2, A3, p3, c3, B3, q3, u3, rfl, _, _, _, _⟩ := hs
    have e0 := ((Blk.new (w) 101 #[.slice A0 p0 c0, .slice B0 q0 u0, .slice A1 p1 c1, .slice B1 q1 u1, .slice A2 p2 c2, .slice B2 q2 u2, .slice A3 p3 c3, .slice B3 q3 u3]).alloc (.cells #[.int .i64 T, .int .i64 (mS : Int), .int .i64 (m1 : Int), .int .i64 (m2 : Int), .int .i64 (m3 : Int), .int .i64 (m4 : Int)] 103)).alloc (.cells #[(.slice none 0 0), (.slice none 0 0)] 52)
    have e1 := (Blk.new ((w).alloc (.cells #[.slice A0 p0 c0, .slice B0 q0 u0, .slice A1 p1 c1, .slice B1 q1 u1, .slice A2 p2 c2, .slice B2 q2 u2, .slice A3 p3 c3, .slice B3 q3 u3] 101)) 103 #[.int .i64 T, .int .i64 (mS : Int), .int .i64 (m1 : Int), .int .i64 (m2 : Int), .int .i64 (m3 : Int), .int .i64 (m4 : Int)]).alloc (.cells #[(.slice none 0 0), (.slice none 0 0)] 52)
    have e2 := Blk.new (((w).alloc (.cells #[.slice A0 p0 c0, .slice B0 q0 u0, .slice A1 p1 c1, .slice B1 q1 u1, .slice A2 p2 c2, .slice B2 q2 u2, .slice A3 p3 c3, .slice B3 q3 u3] 101)).alloc (.cells #[.int .i64 T, .int .i64 (mS : Int), .int .i64 (m1 : Int), .int .i64 (m2 : Int), .int .i64 (m3 : Int), .int .i64 (m4 : Int)] 103)) 52 #[(.slice none 0 0), (.slice none 0 0)]
    have hb := cba (cba (cba (Below.refl _ w) (.cells #[.slice A0 p0 c0, .slice B0 q0 u0, .slice A1 p1 c1, .slice B1 q1 u1, .slice A2 p2 c2, .slice B2 q2 u2, .slice A3 p3 c3, .slice B3 q3 u3] 101)) (.cells #[.int .i64 T, .int .i64 (mS : Int), .int .i64 (m1 : Int), .int .i64 (m2 : Int), .int .i64 (m3 : Int), .int .i64 (m4 : Int)] 103)) (.cells #[(.slice none 0 0), (.slice none 0 0)] 52)
    simp only [World.size_alloc] at e1 e2
    have hsz : w.heap.size ≤ w.heap.size := Nat.le_refl _
    go_enter Try.func90, Try.ntmps90
    go_upto_region 1 with (fail)
    obtain ⟨S, hS⟩ : ∃ S, (((w).alloc (.cells #[.slice A0 p0 c0, .slice B0 q0 u0, .slice A1 p1 c1, .slice B1 q1 u1, .slice A2 p2 c2, .slice B2 q2 u2, .slice A3 p3 c3, .slice B3 q3 u3] 101)).alloc (.cells #[.int .i64 T, .int .i64 (mS : Int), .int .i64 (m1 : Int), .int .i64 (m2 : Int), .int .i64 (m3 : Int), .int .i64 (m4 : Int)] 103)).alloc (.cells #[(.slice none 0 0), (.slice none 0 0)] 52) = S := ⟨_, rfl⟩
    rw [hS] at e0 e1 e2 hb ⊢
    have HB0 := Lib.hid hb
    have E0 := Lib.hid e0
    have E1 := Lib.hid e1
    have E2 := Lib.hid e2
    clear hS hb hsz e0 e1 e2
    have k_E1_0 := E1.out.cell 0
    have k_E1_1 := E1.out.cell 1
    have k_E1_2 := E1.out.cell 2
    have k_E1_3 := E1.out.cell 3
    have k_E1_4 := E1.out.cell 4
    have k_E1_5 := E1.out.cell 5
    have k_E2_0 := E2.out.cell 0
    have k_E2_1 := E2.out.cell 1
    go_wp2_with fail
    with_reducible refine (HI1.out _).mono ?_
    rintro e w1 ⟨u, rfl, hu, hb⟩
    clear k_E1_0 k_E1_1 k_E1_2 k_E1_3 k_E1_4 k_E1_5 k_E2_0 k_E2_1
    replace E1 := Lib.hid (blk_below E1.out hb)
    replace E2 := Lib.hid (blk_below E2.out hb)
    replace HB0 := Lib.hid (cbt HB0.out hb)
    have NV := Lib.hid hu
    clear hb hu
    have k_E1_0 := E1.out.cell 0
    have k_E1_1 := E1.out.cell 1
    have k_E1_2 := E1.out.cell 2
    have k_E1_3 := E1.out.cell 3
    have k_E1_4 := E1.out.cell 4
    have k_E1_5 := E1.out.cell 5
    have k_E2_0 := E2.out.cell 0
    have k_E2_1 := E2.out.cell 1
    clear k_E1_0 k_E1_1 k_E1_2 k_E1_3 k_E1_4 k_E1_5 k_E2_0 k_E2_1
    have ZV := NV.out
    obtain ⟨AV, pV, cV, BV, qV, eV, rfl, _, _⟩ := ZV
    have f0 := E2.out.frozen 0
    have f1 := E2.out.frozen 1
    have HX := Lib.hid (retR E2.out (by omega) HB0.out NV.out)
    have j0 := E2.out.cell 0
    have j1 := E2.out.cell 1
    go_wp2_with fail
    exact bodyPost_ret (v := .agg #[.slice AV pV cV, .slice BV qV eV]) (by simp [results, Try.results90, go_sem, j0, j1]) rfl HX.out
  · have hg : gamR (addR (addR (mulR (m1, 1) d1) (mulR (m2, 1) d2)) (mulR (mt, 1) d3)) mS = byR (addR (addR (mulR (m1, 1) d1) (mulR (m2, 1) d2)) (mulR (mt, 1) d3)) (mS, 1) := if_neg hz
    have hby : byR (addR (addR (mulR (m1, 1) d1) (mulR (m2, 1) d2)) (mulR (mt, 1) d3)) (mS, 1) = divR (addR (addR (mulR (m1, 1) d1) (mulR (m2, 1) d2)) (mulR (mt, 1) d3)) (mS, 1) := byR_pos (by show mS ≠ 0; omega)
    rw [hg, hby]
    have dt : decide ((mS : Int) < 1) = false := decide_eq_false (by omega)
    clear hg hby
    have HSV := Lib.hid hs
    obtain ⟨A0, p0, c0, B0, q0, u0, A1, p1, c1, B1, q1, u1, A2, p2, c2, B2, q2, u2, A3, p3, c3, B3, q3, u3, rfl, hs0, hs1, hs2, hs3⟩ := hs
    have F0 := Lib.hid hs0
    have F1 := Lib.hid hs1
    have F2 := Lib.hid hs2
    have F3 := Lib.hid hs3
    clear hs0 hs1 hs2 hs3
    have HX1 := Lib.hid (fun W => xwhole m1 (by omega) W)
    have HX2 := Lib.hid (fun W => xwhole m2 (by omega) W)
    have HXT := Lib.hid (fun W => xwhole mt (by omega) W)
    rw [← ht] at HXT
    have HXS := Lib.hid (fun W => xwhole mS (by omega) W)
    have w1' : wrap64 (T - (m1 : Int)) = T - (m1 : Int) := w64 (by omega) (by omega)
    have w2' : wrap64 (T - (m1 : Int) - (m2 : Int)) = T - (m1 : Int) - (m2 : Int) := w64 (by omega) (by omega)
    have HM1 : Hid (∀ va vb W, RF W va m1 1 → RF W vb d1.1 d1.2 → Calls Try.prog 77 #[va, vb] W (MkR W (mulR (m1, 1) d1).1 (mulR (m1, 1) d1).2)) := Lib.hid (fun va vb W h1 h2 => c_xmul (a := (m1, 1)) (B := 80) (by decide) (red_int m1) r1 i1 s1 h1 h2)
    have y1 := mulR_red (red_int m1) r1
    have t1 := (i1.mul s1).mono (C := 160) (by decide)
    have HM2 : Hid (∀ va vb W, RF W va m2 1 → RF W vb d2.1 d2.2 → Calls Try.prog 77 #[va, vb] W (MkR W (mulR (m2, 1) d2).1 (mulR (m2, 1) d2).2)) := Lib.hid (fun va vb W h1 h2 => c_xmul (a := (m2, 1)) (B := 80) (by decide) (red_int m2) r2 i2 s2 h1 h2)
    have y2 := mulR_red (red_int m2) r2
    have t2 := (i2.mul s2).mono (C := 160) (by decide)
    have HMT : Hid (∀ va vb W, RF W va mt 1 → RF W vb d3.1 d3.2 → Calls Try.prog 77 #[va, vb] W (MkR W (mulR (mt, 1) d3).1 (mulR (mt, 1) d3).2)) := Lib.hid (fun va vb W h1 h2 => c_xmul (a := (mt, 1)) (B := 80) (by decide) (red_int mt) r3 it s3 h1 h2)
    have yT := mulR_red (red_int mt) r3
    have tT := (it.mul s3).mono (C := 160) (by decide)
    generalize mulR (m1, 1) d1 = z1 at *
    generalize mulR (m2, 1) d2 = z2 at *
    generalize mulR (mt, 1) d3 = z3 at *
    have HA1 := Lib.hid (fun va vb W h1 h2 => c_xadd (va := va) (vb := vb) (W := W) (B := 1000) (by decide) y1 y2 (t1.mono (by decide)) (t2.mono (by decide)) h1 h2)
    have y4 := addR_red y1 y2
    have t4 := (t1.add t2).mono (C := 400) (by decide)
    generalize addR z1 z2 = z4 at *
    have HA2 := Lib.hid (fun va vb W h1 h2 => c_xadd (va := va) (vb := vb) (W := W) (B := 1000) (by decide) y4 yT (t4.mono (by decide)) (tT.mono (by decide)) h1 h2)
    have y5 := addR_red y4 yT
    have t5 := (t4.add tT).mono (C := 1000) (by decide)
    generalize addR z4 z3 = z5 at *
    have HDV : Hid (∀ va vb W, RF W va z5.1 z5.2 → RF W vb mS 1 → Calls Try.prog 78 #[va, vb] W (MkR W (divR z5 (mS, 1)).1 (divR z5 (mS, 1)).2)) := Lib.hid (fun va vb W h1 h2 => c_xdiv (b := (mS, 1)) (B := 1000) (by decide) y5 (by show 0 < mS; omega) t5 iS h1 h2)
    generalize divR z5 (mS, 1) = z6 at *
    clear r1 r2 r3 s1 s2 s3 i1 i2 it iS y1 y2 yT t1 t2 tT y4 t4 y5 t5 ht HSV hz bT b1 b2 bS
    have e0 := ((Blk.new (w) 101 #[.slice A0 p0 c0, .slice B0 q0 u0, .slice A1 p1 c1, .slice B1 q1 u1, .slice A2 p2 c2, .slice B2 q2 u2, .slice A3 p3 c3, .slice B3 q3 u3]).alloc (.cells #[.int .i64 T, .int .i64 (mS : Int), .int .i64 (m1 : Int), .int .i64 (m2 : Int), .int .i64 (m3 : Int), .int .i64 (m4 : Int)] 103)).alloc (.cells #[(.slice none 0 0), (.slice none 0 0)] 52)
    have e1 := (Blk.new ((w).alloc (.cells #[.slice A0 p0 c0, .slice B0 q0 u0, .slice A1 p1 c1, .slice B1 q1 u1, .slice A2 p2 c2, .slice B2 q2 u2, .slice A3 p3 c3, .slice B3 q3 u3] 101)) 103 #[.int .i64 T, .int .i64 (mS : Int), .int .i64 (m1 : Int), .int .i64 (m2 : Int), .int .i64 (m3 : Int), .int .i64 (m4 : Int)]).alloc (.cells #[(.slice none 0 0), (.slice none 0 0)] 52)
    have e2 := Blk.new (((w).alloc (.cells #[.slice A0 p0 c0, .slice B0 q0 u0, .slice A1 p1 c1, .slice B1 q1 u1, .slice A2 p2 c2, .slice B2 q2 u2, .slice A3 p3 c3, .slice B3 q3 u3] 101)).alloc (.cells #[.int .i64 T, .int .i64 (mS : Int), .int .i64 (m1 : Int), .int .i64 (m2 : Int), .int .i64 (m3 : Int), .int .i64 (m4 : Int)] 103)) 52 #[(.slice none 0 0), (.slice none 0 0)]
    have hb := cba (cba (cba (Below.refl _ w) (.cells #[.slice A0 p0 c0, .slice B0 q0 u0, .slice A1 p1 c1, .slice B1 q1 u1, .slice A2 p2 c2, .slice B2 q2 u2, .slice A3 p3 c3, .slice B3 q3 u3] 101)) (.cells #[.int .i64 T, .int .i64 (mS : Int), .int .i64 (m1 : Int), .int .i64 (m2 : Int), .int .i64 (m3 : Int), .int .i64 (m4 : Int)] 103)) (.cells #[(.slice none 0 0), (.slice none 0 0)] 52)
    simp only [World.size_alloc] at e1 e2
    have hsz : w.heap.size ≤ w.heap.size := Nat.le_refl _
    go_enter Try.func90, Try.ntmps90
    go_upto_region 1 with (fail)
    obtain ⟨S, hS⟩ : ∃ S, (((w).alloc (.cells #[.slice A0 p0 c0, .slice B0 q0 u0, .slice A1 p1 c1, .slice B1 q1 u1, .slice A2 p2 c2, .slice B2 q2 u2, .slice A3 p3 c3, .slice B3 q3 u3] 101)).alloc (.cells #[.int .i64 T, .int .i64 (mS : Int), .int .i64 (m1 : Int), .int .i64 (m2 : Int), .int .i64 (m3 : Int), .int .i64 (m4 : Int)] 103)).alloc (.cells #[(.slice none 0 0), (.slice none 0 0)] 52) = S := ⟨_, rfl⟩
    rw [hS] at e0 e1 e2 hb ⊢
    replace F1 := Lib.hid (F1.out.below hb)
    replace F2 := Lib.hid (F2.out.below hb)
    replace F3 := Lib.hid (F3.out.below hb)
    have HB0 := Lib.hid hb
    have E0 := Lib.hid e0
    have E1 := Lib.hid e1
    have E2 := Lib.hid e2
    clear hS hb hsz e0 e1 e2
    have k_E0_0 := E0.out.cell 0
    have k_E0_1 := E0.out.cell 1
    have k_E0_2 := E0.out.cell 2
    have k_E0_3 := E0.out.cell 3
    have k_E0_4 := E0.out.cell 4
    have k_E0_5 := E0.out.cell 5
    have k_E0_6 := E0.out.cell 6
    have k_E0_7 := E0.out.cell 7
    have k_E1_0 := E1.out.cell 0
    have k_E1_1 := E1.out.cell 1
    have k_E1_2 := E1.out.cell 2
    have k_E1_3 := E1.out.cell 3
    have k_E1_4 := E1.out.cell 4
    have k_E1_5 := E1.out.cell 5
    have k_E2_0 := E2.out.cell 0
    have k_E2_1 := E2.out.cell 1
    go_wp2_with fail
    clear k_E0_0 k_E0_1 k_E0_2 k_E0_3 k_E0_4 k_E0_5 k_E0_6 k_E0_7 k_E1_0 k_E1_1 k_E1_2 k_E1_3 k_E1_4 k_E1_5 k_E2_0 k_E2_1
    let FS : List Kept1 := [.eq (.pointer (some ⟨w.heap.size + 1, 2, none⟩)), .eq (.int .i64 (m1 : Int)), .rf (m1) (1), .eq (.pointer (some ⟨w.heap.size, 2, none⟩)), .rf (d1.1) (d1.2), .rf (z1.1) (z1.2), .eq (.pointer (some ⟨w.heap.size + 1, 3, none⟩)), .eq (.int .i64 (m2 : Int)), .rf (m2) (1), .eq (.pointer (some ⟨w.heap.size, 4, none⟩)), .rf (d2.1) (d2.2), .rf (z2.1) (z2.2), .rf (z4.1) (z4.2), .any, .any]
    let BS : List Bx := [Bx.ref (.inl 13) 14 #[.slice none 0 0, .slice none 0 0] (z4.1) (z4.2)]
    refine region_mono (Held S (fun j => FS.getD j .any) BS) (by kernel_rfl) (by kernel_rfl) (by kernel_rfl) (Held.start _ _ _ (by simp [BS, Bx.nat, Bx.rat, Bx.ref, Bx.part]) (by simp [BS, Bx.nat, Bx.rat, Bx.ref, Bx.part])) ?_
    refine Steps.held ?_ ?_
    · intro L v w' hJ
      go_wp2_with fail
      exact ⟨rfl, rfl, hJ.out.same (by rfl) (rfl)⟩
    simp only [Act.put, List.setIfInBounds_toArray, List.set_cons_zero, List.set_cons_succ, Nat.reduceAdd]
    refine Steps.held ?_ ?_
    · intro L v w' hJ
      have hv0 : v 0 = .pointer (some ⟨w.heap.size + 1, 2, none⟩) := hJ.out.fact 0 (by kernel_rfl)
      simp only [hv0]
      clear hv0
      have kb := hJ.out.blk E1.out (by simp [oldsOf, BS, Bx.nat, Bx.rat, Bx.ref, Bx.part])
      have k0 := kb.cell 0
      have k1 := kb.cell 1
      have k2 := kb.cell 2
      have k3 := kb.cell 3
      have k4 := kb.cell 4
      have k5 := kb.cell 5
      clear kb
      go_wp2_with fail
      exact ⟨rfl, rfl, hJ.out.same (by rfl) (rfl)⟩
    simp only [Act.put, List.setIfInBounds_toArray, List.set_cons_zero, List.set_cons_succ, Nat.reduceAdd]
    refine Steps.held ?_ ?_
    · intro L v w' hJ
      have hv1 : v 1 = .int .i64 (m1 : Int) := hJ.out.fact 1 (by kernel_rfl)
      simp only [hv1]
      clear hv1
      go_wp2_with fail
      with_reducible refine (HX1.out _).mono ?_
      rintro e w1 ⟨u, rfl, hu, hb⟩
      go_wp2_with fail
      exact ⟨rfl, rfl, hJ.out.call (by rfl) hb (hu)⟩
    simp only [Act.put, List.setIfInBounds_toArray, List.set_cons_zero, List.set_cons_succ, Nat.reduceAdd]
    refine Steps.held ?_ ?_
    · intro L v w' hJ
      go_wp2_with fail
      exact ⟨rfl, rfl, hJ.out.same (by rfl) (rfl)⟩
    simp only [Act.put, List.setIfInBounds_toArray, List.set_cons_zero, List.set_cons_succ, Nat.reduceAdd]
    refine Steps.held ?_ ?_
    · intro L v w' hJ
      have hv3 : v 3 = .pointer (some ⟨w.heap.size, 2, none⟩) := hJ.out.fact 3 (by kernel_rfl)
      simp only [hv3]
      clear hv3
      have kb := hJ.out.blk E0.out (by simp [oldsOf, BS, Bx.nat, Bx.rat, Bx.ref, Bx.part])
      have k0 := kb.cell 0
      have k1 := kb.cell 1
      have k2 := kb.cell 2
      have k3 := kb.cell 3
      have k4 := kb.cell 4
      have k5 := kb.cell 5
      have k6 := kb.cell 6
      have k7 := kb.cell 7
      clear kb
      go_wp2_with fail
      exact ⟨rfl, rfl, hJ.out.same (by rfl) (F1.out.keep hJ.out.held.keep)⟩
    simp only [Act.put, List.setIfInBounds_toArray, List.set_cons_zero, List.set_cons_succ, Nat.reduceAdd]
    refine Steps.held ?_ ?_
    · intro L v w' hJ
      have X0 := Lib.hid (show RF w' (v 2) (m1) (1) from hJ.out.fact 2 (by kernel_rfl))
      have X1 := Lib.hid (show RF w' (v 4) (d1.1) (d1.2) from hJ.out.fact 4 (by kernel_rfl))
      go_wp2_with fail
      with_reducible refine (HM1.out _ _ _ X0.out X1.out).mono ?_
      rintro e w1 ⟨u, rfl, hu, hb⟩
      go_wp2_with fail
      exact ⟨rfl, rfl, hJ.out.call (by rfl) hb (hu)⟩
    simp only [Act.put, List.setIfInBounds_toArray, List.set_cons_zero, List.set_cons_succ, Nat.reduceAdd]
    refine Steps.held ?_ ?_
    · intro L v w' hJ
      go_wp2_with fail
      exact ⟨rfl, rfl, hJ.out.same (by rfl) (rfl)⟩
    simp only [Act.put, List.setIfInBounds_toArray, List.set_cons_zero, List.set_cons_succ, Nat.reduceAdd]
    refine Steps.held ?_ ?_
    · intro L v w' hJ
      have hv6 : v 6 = .pointer (some ⟨w.heap.size + 1, 3, none⟩) := hJ.out.fact 6 (by kernel_rfl)
      simp only [hv6]
      clear hv6
      have kb := hJ.out.blk E1.out (by simp [oldsOf, BS, Bx.nat, Bx.rat, Bx.ref, Bx.part])
      have k0 := kb.cell 0
      have k1 := kb.cell 1
      have k2 := kb.cell 2
      have k3 := kb.cell 3
      have k4 := kb.cell 4
      have k5 := kb.cell 5
      clear kb
      go_wp2_with fail
      exact ⟨rfl, rfl, hJ.out.same (by rfl) (rfl)⟩
    simp only [Act.put, List.setIfInBounds_toArray, List.set_cons_zero, List.set_cons_succ, Nat.reduceAdd]
    refine Steps.held ?_ ?_
    · intro L v w' hJ
      have hv7 : v 7 = .int .i64 (m2 : Int) := hJ.out.fact 7 (by kernel_rfl)
      simp only [hv7]
      clear hv7
      go_wp2_with fail
      with_reducible refine (HX2.out _).mono ?_
      rintro e w1 ⟨u, rfl, hu, hb⟩
      go_wp2_with fail
      exact ⟨rfl, rfl, hJ.out.call (by rfl) hb (hu)⟩
    simp only [Act.put, List.setIfInBounds_toArray, List.set_cons_zero, List.set_cons_succ, Nat.reduceAdd]
    refine Steps.held ?_ ?_
    · intro L v w' hJ
      go_wp2_with fail
      exact ⟨rfl, rfl, hJ.out.same (by rfl) (rfl)⟩
    simp only [Act.put, List.setIfInBounds_toArray, List.set_cons_zero, List.set_cons_succ, Nat.reduceAdd]
    refine Steps.held ?_ ?_
    · intro L v w' hJ
      have hv9 : v 9 = .pointer (some ⟨w.heap.size, 4, none⟩) := hJ.out.fact 9 (by kernel_rfl)
      simp only [hv9]
      clear hv9
      have kb := hJ.out.blk E0.out (by simp [oldsOf, BS, Bx.nat, Bx.rat, Bx.ref, Bx.part])
      have k0 := kb.cell 0
      have k1 := kb.cell 1
      have k2 := kb.cell 2
      have k3 := kb.cell 3
      have k4 := kb.cell 4
      have k5 := kb.cell 5
      have k6 := kb.cell 6
      have k7 := kb.cell 7
      clear kb
      go_wp2_with fail
      exact ⟨rfl, rfl, hJ.out.same (by rfl) (F2.out.keep hJ.out.held.keep)⟩
    simp only [Act.put, List.setIfInBounds_toArray, List.set_cons_zero, List.set_cons_succ, Nat.reduceAdd]
    refine Steps.held ?_ ?_
    · intro L v w' hJ
      have X0 := Lib.hid (show RF w' (v 8) (m2) (1) from hJ.out.fact 8 (by kernel_rfl))
      have X1 := Lib.hid (show RF w' (v 10) (d2.1) (d2.2) from hJ.out.fact 10 (by kernel_rfl))
      go_wp2_with fail
      with_reducible refine (HM2.out _ _ _ X0.out X1.out).mono ?_
      rintro e w1 ⟨u, rfl, hu, hb⟩
      go_wp2_with fail
      exact ⟨rfl, rfl, hJ.out.call (by rfl) hb (hu)⟩
    simp only [Act.put, List.setIfInBounds_toArray, List.set_cons_zero, List.set_cons_succ, Nat.reduceAdd]
    refine Steps.held ?_ ?_
    · intro L v w' hJ
      have X0 := Lib.hid (show RF w' (v 5) (z1.1) (z1.2) from hJ.out.fact 5 (by kernel_rfl))
      have X1 := Lib.hid (show RF w' (v 11) (z2.1) (z2.2) from hJ.out.fact 11 (by kernel_rfl))
      go_wp2_with fail
      with_reducible refine (HA1.out _ _ _ X0.out X1.out).mono ?_
      rintro e w1 ⟨u, rfl, hu, hb⟩
      go_wp2_with fail
      exact ⟨rfl, rfl, hJ.out.call (by rfl) hb (hu)⟩
    simp only [Act.put, List.setIfInBounds_toArray, List.set_cons_zero, List.set_cons_succ, Nat.reduceAdd]
    refine Steps.held ?_ ?_
    · intro L v w' hJ
      go_wp2_with fail
      exact ⟨rfl, rfl, hJ.out.made 0 _ rfl rfl (by rfl) trivial⟩
    simp only [Act.put, List.setIfInBounds_toArray, List.set_cons_zero, List.set_cons_succ, Nat.reduceAdd]
    refine Steps.held ?_ ?_
    · intro L v w' hJ
      obtain ⟨g, hg, hge, hown, hst⟩ := hJ.out.newbox 0 _ rfl 13 rfl (by kernel_rfl)
      have hN : RF w' (v 12) (z4.1) (z4.2) := hJ.out.fact 12 (by kernel_rfl)
      obtain ⟨A1, p1, c1, B1, q1, e1, hv, h1, h2⟩ := hN
      have HN := Lib.hid (show RF w' (.agg #[.slice A1 p1 c1, .slice B1 q1 e1]) (z4.1) (z4.2) from ⟨A1, p1, c1, B1, q1, e1, rfl, h1, h2⟩)
      have kb := hJ.out.box 0 _ rfl rfl g hown
      have k0 : w'.cell? ⟨g, 0, none⟩ = some (.slice none 0 0) := kb.cell 0
      have k1 : w'.cell? ⟨g, 1, none⟩ = some (.slice none 0 0) := kb.cell 1
      have f0 := kb.frozen 0
      have f1 := kb.frozen 1
      have HO := Lib.hid hown
      have HS := Lib.hid hst
      clear kb h1 h2 hown hst
      simp only [hg, hv]
      clear hg hv
      go_wp2_with fail
      exact ⟨rfl, rfl, hJ.out.fill2 0 _ rfl rfl (by rfl) g HO.out HS.out _ _ rfl rfl rfl (fun W k => HN.out.keep k) (fun _ => trivial)⟩
    simp only [Act.put, List.setIfInBounds_toArray, List.set_cons_zero, List.set_cons_succ, Nat.reduceAdd]
    refine Steps.nil ?_
    intro v w' hJ
    obtain ⟨g5, cs13, hv13, hge13, hb13, hf13⟩ := hJ.end_new 0 _ rfl 13 rfl (by decide) (Nat.le_of_ble_eq_true rfl)
    have hfx : RF w' (.agg cs13) z4.1 z4.2 := hf13
    obtain ⟨A13, p13, c13, B13, q13, e13, hcs13, h1, h2⟩ := hfx
    have hcs13' := Value.agg.inj hcs13
    subst hcs13'
    simp only [hv13]
    have E5 := Lib.hid (show Blk w' g5 52 #[.slice A13 p13 c13, .slice B13 q13 e13] from hb13)
    have NE5 := Lib.hid (show RF w' (.agg #[.slice A13 p13 c13, .slice B13 q13 e13]) z4.1 z4.2 from hf13)
    clear hv13 hb13 hf13 hcs13 h1 h2
    have hge5 := E2.out.lt
    have hbr := hJ.but.below
    replace F1 := Lib.hid (F1.out.below hbr)
    replace F2 := Lib.hid (F2.out.below hbr)
    replace F3 := Lib.hid (F3.out.below hbr)
    replace E0 := Lib.hid (blk_below E0.out hbr)
    replace E1 := Lib.hid (blk_below E1.out hbr)
    replace E2 := Lib.hid (blk_below E2.out hbr)
    replace HB0 := Lib.hid (cbt HB0.out hbr)
    clear hJ hbr
    go_wp2_with fail
    let FS : List Kept1 := [.rf (z4.1) (z4.2), .eq (.pointer (some ⟨w.heap.size + 1, 0, none⟩)), .eq (.int .i64 T), .eq (.pointer (some ⟨w.heap.size + 1, 2, none⟩)), .eq (.int .i64 (m1 : Int)), .eq (.int .i64 (T - (m1 : Int))), .eq (.pointer (some ⟨w.heap.size + 1, 3, none⟩)), .eq (.int .i64 (m2 : Int)), .eq (.int .i64 (T - (m1 : Int) - (m2 : Int))), .rf (mt) (1), .eq (.pointer (some ⟨w.heap.size, 6, none⟩)), .rf (d3.1) (d3.2), .rf (z3.1) (z3.2), .rf (z5.1) (z5.2), .eq (.pointer (some ⟨w.heap.size + 1, 1, none⟩)), .eq (.int .i64 (mS : Int)), .rf (mS) (1), .rf (z6.1) (z6.2), .any]
    let BS : List Bx := [Bx.ref (.inr (w.heap.size + 1 + 1)) 18 #[(.slice none 0 0), (.slice none 0 0)] (z6.1) (z6.2)]
    refine region_mono (Held w' (fun j => FS.getD j .any) BS) (by kernel_rfl) (by kernel_rfl) (by kernel_rfl) (Held.start _ _ _ (by simp [BS, Bx.nat, Bx.rat, Bx.ref, Bx.part] <;> exact E2.out) (by simp [BS, Bx.nat, Bx.rat, Bx.ref, Bx.part])) ?_
    refine Steps.held ?_ ?_
    · intro L v w' hJ
      have kb := hJ.out.blk E5.out (by simp [oldsOf, BS, Bx.nat, Bx.rat, Bx.ref, Bx.part] <;> omega)
      have k0 := kb.cell 0
      have k1 := kb.cell 1
      clear kb
      go_wp2_with fail
      exact ⟨rfl, rfl, hJ.out.same (by rfl) (NE5.out.keep hJ.out.held.keep)⟩
    simp only [Act.put, List.setIfInBounds_toArray, List.set_cons_zero, List.set_cons_succ, Nat.reduceAdd]
    refine Steps.held ?_ ?_
    · intro L v w' hJ
      go_wp2_with fail
      exact ⟨rfl, rfl, hJ.out.same (by rfl) (rfl)⟩
    simp only [Act.put, List.setIfInBounds_toArray, List.set_cons_zero, List.set_cons_succ, Nat.reduceAdd]
    refine Steps.held ?_ ?_
    · intro L v w' hJ
      have hv1 : v 1 = .pointer (some ⟨w.heap.size + 1, 0, none⟩) := hJ.out.fact 1 (by kernel_rfl)
      simp only [hv1]
      clear hv1
      have kb := hJ.out.blk E1.out (by simp [oldsOf, BS, Bx.nat, Bx.rat, Bx.ref, Bx.part] <;> omega)
      have k0 := kb.cell 0
      have k1 := kb.cell 1
      have k2 := kb.cell 2
      have k3 := kb.cell 3
      have k4 := kb.cell 4
      have k5 := kb.cell 5
      clear kb
      go_wp2_with fail
      exact ⟨rfl, rfl, hJ.out.same (by rfl) (rfl)⟩
    simp only [Act.put, List.setIfInBounds_toArray, List.set_cons_zero, List.set_cons_succ, Nat.reduceAdd]
    refine Steps.held ?_ ?_
    · intro L v w' hJ
      go_wp2_with fail
      exact ⟨rfl, rfl, hJ.out.same (by rfl) (rfl)⟩
    simp only [Act.put, List.setIfInBounds_toArray, List.set_cons_zero, List.set_cons_succ, Nat.reduceAdd]
    refine Steps.held ?_ ?_
    · intro L v w' hJ
      have hv3 : v 3 = .pointer (some ⟨w.heap.size + 1, 2, none⟩) := hJ.out.fact 3 (by kernel_rfl)
      simp only [hv3]
      clear hv3
      have kb := hJ.out.blk E1.out (by simp [oldsOf, BS, Bx.nat, Bx.rat, Bx.ref, Bx.part] <;> omega)
      have k0 := kb.cell 0
      have k1 := kb.cell 1
      have k2 := kb.cell 2
      have k3 := kb.cell 3
      have k4 := kb.cell 4
      have k5 := kb.cell 5
      clear kb
      go_wp2_with fail
      exact ⟨rfl, rfl, hJ.out.same (by rfl) (rfl)⟩
    simp only [Act.put, List.setIfInBounds_toArray, List.set_cons_zero, List.set_cons_succ, Nat.reduceAdd]
    refine Steps.held ?_ ?_
    · intro L v w' hJ
      have hv2 : v 2 = .int .i64 T := hJ.out.fact 2 (by kernel_rfl)
      simp only [hv2]
      clear hv2
      have hv4 : v 4 = .int .i64 (m1 : Int) := hJ.out.fact 4 (by kernel_rfl)
      simp only [hv4]
      clear hv4
      go_wp2_with fail
      exact ⟨rfl, rfl, hJ.out.same (by rfl) (congrArg (Value.int .i64) w1')⟩
    simp only [Act.put, List.setIfInBounds_toArray, List.set_cons_zero, List.set_cons_succ, Nat.reduceAdd]
    refine Steps.held ?_ ?_
    · intro L v w' hJ
      go_wp2_with fail
      exact ⟨rfl, rfl, hJ.out.same (by rfl) (rfl)⟩
    simp only [Act.put, List.setIfInBounds_toArray, List.set_cons_zero, List.set_cons_succ, Nat.reduceAdd]
    refine Steps.held ?_ ?_
    · intro L v w' hJ
      have hv6 : v 6 = .pointer (some ⟨w.heap.size + 1, 3, none⟩) := hJ.out.fact 6 (by kernel_rfl)
      simp only [hv6]
      clear hv6
      have kb := hJ.out.blk E1.out (by simp [oldsOf, BS, Bx.nat, Bx.rat, Bx.ref, Bx.part] <;> omega)
      have k0 := kb.cell 0
      have k1 := kb.cell 1
      have k2 := kb.cell 2
      have k3 := kb.cell 3
      have k4 := kb.cell 4
      have k5 := kb.cell 5
      clear kb
      go_wp2_with fail
      exact ⟨rfl, rfl, hJ.out.same (by rfl) (rfl)⟩
    simp only [Act.put, List.setIfInBounds_toArray, List.set_cons_zero, List.set_cons_succ, Nat.reduceAdd]
    refine Steps.held ?_ ?_
    · intro L v w' hJ
      have hv5 : v 5 = .int .i64 (T - (m1 : Int)) := hJ.out.fact 5 (by kernel_rfl)
      simp only [hv5]
      clear hv5
      have hv7 : v 7 = .int .i64 (m2 : Int) := hJ.out.fact 7 (by kernel_rfl)
      simp only [hv7]
      clear hv7
      go_wp2_with fail
      exact ⟨rfl, rfl, hJ.out.same (by rfl) (congrArg (Value.int .i64) w2')⟩
    simp only [Act.put, List.setIfInBounds_toArray, List.set_cons_zero, List.set_cons_succ, Nat.reduceAdd]
    refine Steps.held ?_ ?_
    · intro L v w' hJ
      have hv8 : v 8 = .int .i64 (T - (m1 : Int) - (m2 : Int)) := hJ.out.fact 8 (by kernel_rfl)
      simp only [hv8]
      clear hv8
      go_wp2_with fail
      with_reducible refine (HXT.out _).mono ?_
      rintro e w1 ⟨u, rfl, hu, hb⟩
      go_wp2_with fail
      exact ⟨rfl, rfl, hJ.out.call (by rfl) hb (hu)⟩
    simp only [Act.put, List.setIfInBounds_toArray, List.set_cons_zero, List.set_cons_succ, Nat.reduceAdd]
    refine Steps.held ?_ ?_
    · intro L v w' hJ
      go_wp2_with fail
      exact ⟨rfl, rfl, hJ.out.same (by rfl) (rfl)⟩
    simp only [Act.put, List.setIfInBounds_toArray, List.set_cons_zero, List.set_cons_succ, Nat.reduceAdd]
    refine Steps.held ?_ ?_
    · intro L v w' hJ
      have hv10 : v 10 = .pointer (some ⟨w.heap.size, 6, none⟩) := hJ.out.fact 10 (by kernel_rfl)
      simp only [hv10]
      clear hv10
      have kb := hJ.out.blk E0.out (by simp [oldsOf, BS, Bx.nat, Bx.rat, Bx.ref, Bx.part] <;> omega)
      have k0 := kb.cell 0
      have k1 := kb.cell 1
      have k2 := kb.cell 2
      have k3 := kb.cell 3
      have k4 := kb.cell 4
      have k5 := kb.cell 5
      have k6 := kb.cell 6
      have k7 := kb.cell 7
      clear kb
      go_wp2_with fail
      exact ⟨rfl, rfl, hJ.out.same (by rfl) (F3.out.keep hJ.out.held.keep)⟩
    simp only [Act.put, List.setIfInBounds_toArray, List.set_cons_zero, List.set_cons_succ, Nat.reduceAdd]
    refine Steps.held ?_ ?_
    · intro L v w' hJ
      have X0 := Lib.hid (show RF w' (v 9) (mt) (1) from hJ.out.fact 9 (by kernel_rfl))
      have X1 := Lib.hid (show RF w' (v 11) (d3.1) (d3.2) from hJ.out.fact 11 (by kernel_rfl))
      go_wp2_with fail
      with_reducible refine (HMT.out _ _ _ X0.out X1.out).mono ?_
      rintro e w1 ⟨u, rfl, hu, hb⟩
      go_wp2_with fail
      exact ⟨rfl, rfl, hJ.out.call (by rfl) hb (hu)⟩
    simp only [Act.put, List.setIfInBounds_toArray, List.set_cons_zero, List.set_cons_succ, Nat.reduceAdd]
    refine Steps.held ?_ ?_
    · intro L v w' hJ
      have X0 := Lib.hid (show RF w' (v 0) (z4.1) (z4.2) from hJ.out.fact 0 (by kernel_rfl))
      have X1 := Lib.hid (show RF w' (v 12) (z3.1) (z3.2) from hJ.out.fact 12 (by kernel_rfl))
      go_wp2_with fail
      with_reducible refine (HA2.out _ _ _ X0.out X1.out).mono ?_
      rintro e w1 ⟨u, rfl, hu, hb⟩
      go_wp2_with fail
      exact ⟨rfl, rfl, hJ.out.call (by rfl) hb (hu)⟩
    simp only [Act.put, List.setIfInBounds_toArray, List.set_cons_zero, List.set_cons_succ, Nat.reduceAdd]
    refine Steps.held ?_ ?_
    · intro L v w' hJ
      go_wp2_with fail
      exact ⟨rfl, rfl, hJ.out.same (by rfl) (rfl)⟩
    simp only [Act.put, List.setIfInBounds_toArray, List.set_cons_zero, List.set_cons_succ, Nat.reduceAdd]
    refine Steps.held ?_ ?_
    · intro L v w' hJ
      have hv14 : v 14 = .pointer (some ⟨w.heap.size + 1, 1, none⟩) := hJ.out.fact 14 (by kernel_rfl)
      simp only [hv14]
      clear hv14
      have kb := hJ.out.blk E1.out (by simp [oldsOf, BS, Bx.nat, Bx.rat, Bx.ref, Bx.part] <;> omega)
      have k0 := kb.cell 0
      have k1 := kb.cell 1
      have k2 := kb.cell 2
      have k3 := kb.cell 3
      have k4 := kb.cell 4
      have k5 := kb.cell 5
      clear kb
      go_wp2_with fail
      exact ⟨rfl, rfl, hJ.out.same (by rfl) (rfl)⟩
    simp only [Act.put, List.setIfInBounds_toArray, List.set_cons_zero, List.set_cons_succ, Nat.reduceAdd]
    refine Steps.held ?_ ?_
    · intro L v w' hJ
      have hv15 : v 15 = .int .i64 (mS : Int) := hJ.out.fact 15 (by kernel_rfl)
      simp only [hv15]
      clear hv15
      go_wp2_with fail
      with_reducible refine (HXS.out _).mono ?_
      rintro e w1 ⟨u, rfl, hu, hb⟩
      go_wp2_with fail
      exact ⟨rfl, rfl, hJ.out.call (by rfl) hb (hu)⟩
    simp only [Act.put, List.setIfInBounds_toArray, List.set_cons_zero, List.set_cons_succ, Nat.reduceAdd]
    refine Steps.held ?_ ?_
    · intro L v w' hJ
      have X0 := Lib.hid (show RF w' (v 13) (z5.1) (z5.2) from hJ.out.fact 13 (by kernel_rfl))
      have X1 := Lib.hid (show RF w' (v 16) (mS) (1) from hJ.out.fact 16 (by kernel_rfl))
      go_wp2_with fail
      with_reducible refine (HDV.out _ _ _ X0.out X1.out).mono ?_
      rintro e w1 ⟨u, rfl, hu, hb⟩
      go_wp2_with fail
      exact ⟨rfl, rfl, hJ.out.call (by rfl) hb (hu)⟩
    simp only [Act.put, List.setIfInBounds_toArray, List.set_cons_zero, List.set_cons_succ, Nat.reduceAdd]
    refine Steps.held ?_ ?_
    · intro L v w' hJ
      obtain ⟨hown, hst⟩ := hJ.out.oldbox 0 _ rfl (w.heap.size + 1 + 1) rfl
      have hN : RF w' (v 17) (z6.1) (z6.2) := hJ.out.fact 17 (by kernel_rfl)
      obtain ⟨A1, p1, c1, B1, q1, e1, hv, h1, h2⟩ := hN
      have HN := Lib.hid (show RF w' (.agg #[.slice A1 p1 c1, .slice B1 q1 e1]) (z6.1) (z6.2) from ⟨A1, p1, c1, B1, q1, e1, rfl, h1, h2⟩)
      have kb := hJ.out.box 0 _ rfl rfl (w.heap.size + 1 + 1) hown
      have k0 : w'.cell? ⟨(w.heap.size + 1 + 1), 0, none⟩ = some ((.slice none 0 0)) := kb.cell 0
      have k1 : w'.cell? ⟨(w.heap.size + 1 + 1), 1, none⟩ = some ((.slice none 0 0)) := kb.cell 1
      have f0 := kb.frozen 0
      have f1 := kb.frozen 1
      have HO := Lib.hid hown
      have HS := Lib.hid hst
      clear kb h1 h2 hown hst
      simp only [hv]
      clear hv
      go_wp2_with fail
      exact ⟨rfl, rfl, hJ.out.fill2 0 _ rfl rfl (by rfl) (w.heap.size + 1 + 1) HO.out HS.out _ _ rfl rfl rfl (fun W k => HN.out.keep k) (fun _ => trivial)⟩
    simp only [Act.put, List.setIfInBounds_toArray, List.set_cons_zero, List.set_cons_succ, Nat.reduceAdd]
    refine Steps.nil ?_
    intro v w' hJ
    obtain ⟨cs, hblk, hf⟩ := hJ.end_old 0 _ rfl (w.heap.size + 1 + 1) rfl (Nat.le_of_ble_eq_true rfl)
    have hf' : RF w' (.agg cs) z6.1 z6.2 := hf
    obtain ⟨A1, p1, c1, B1, q1, e1, hcs, h1, h2⟩ := hf'
    have hcs' := Value.agg.inj hcs
    subst hcs'
    have k0 := hblk.cell 0
    have k1 := hblk.cell 1
    have hbw : Below w.heap.size w w' := hJ.but.to_below HB0.out HB0.out.size (by intro g hg; simp [oldsOf, BS, Bx.nat, Bx.rat, Bx.ref, Bx.part] at hg; subst hg; omega)
    have HX := Lib.hid (show MkR w z6.1 z6.2 (.returned (.agg #[.slice A1 p1 c1, .slice B1 q1 e1])) w' from ⟨_, rfl, ⟨A1, p1, c1, B1, q1, e1, rfl, h1, h2⟩, hbw⟩)
    clear hJ h1 h2 hbw hblk hcs hf
    go_wp2_with fail
    exact bodyPost_ret (v := .agg #[.slice A1 p1 c1, .slice B1 q1 e1]) (by simp [results, Try.results90, go_sem, k0, k1]) rfl HX.out
end Go.Proofs.Yteikhnmmkanndaa
namespace Go.Proofs.Yteikhnmmkanndaa
open Go.RowKit Go.Proofs.YteikhnmmkanndaaW.PrintWords
set_option linter.unusedSimpArgs false
set_option linter.unusedVariables false
theorem dNum_prt (m1 m2 k mk ml : Nat) : dNum m1 m2 k mk ml = if m1 = 0 ∨ mk = 0 then (0, 1) else lessR (k, 1) (prt m1 m2 k mk ml) := rfl
theorem dNum_red (m1 m2 k mk ml : Nat) : Red (dNum m1 m2 k mk ml) := by
  rw [dNum_prt]
  split
  · exact red_zero
  · exact lessR_red (red_int k) (prt_red (by omega) (by omega))
theorem lessR_int_le (k : Nat) {b : Nat × Nat} (hb : Red b) : (lessR (k, 1) b).1 ≤ k * (lessR (k, 1) b).2 := by
  unfold lessR
  split
  · exact Nat.zero_le _
  · have h := rn_mul (k * b.2 - b.1 * 1) (1 * b.2)
    simp only []
    generalize Yteikhnmmkanndaa.rn (k * b.2 - b.1 * 1) (1 * b.2) = x at *
    generalize Yteikhnmmkanndaa.rd (k * b.2 - b.1 * 1) (1 * b.2) = y at *
    rw [Nat.one_mul] at h
    refine Nat.le_of_mul_le_mul_right (c := b.2) ?_ hb.2
    rw [h, Nat.mul_assoc, Nat.mul_comm y b.2, ← Nat.mul_assoc]
    exact Nat.mul_le_mul_right y (Nat.sub_le _ _)
theorem dNum_le (m1 m2 k mk ml : Nat) : (dNum m1 m2 k mk ml).1 ≤ k * (dNum m1 m2 k mk ml).2 := by
  rw [dNum_prt]
  split
  · exact Nat.zero_le _
  · exact lessR_int_le k (prt_red (by omega) (by omega))
theorem dNum_sz {m1 m2 k mk ml : Nat} (h1 : m1 ≤ 1099511627776) (h2 : m2 ≤ 1099511627776) (hk : mk ≤ 1099511627776) (hl : ml ≤ 1099511627776) (hc : k ≤ 3) : Sz 80 (dNum m1 m2 k mk ml) := by
  rw [dNum_prt]
  split
  · exact Sz.zero.mono (by decide)
  · exact ((sz_int (x := k) (by omega)).less ((((sz_int (by omega)).mul ((sz_int (by omega)).div (sz_int (x := m1 + 2 * m2) (by omega)))).mul ((sz_int (by omega)).div (sz_int (by omega)))))).mono (by decide)
theorem dig_11 : nat_digits_f 100 11 [49, 49] := ⟨by kernel_rfl, by decide, by decide⟩
theorem dig_10 : nat_digits_f 100 10 [49, 48] := ⟨by kernel_rfl, by decide, by decide⟩
theorem live_d1 : dNum 10 5 1 10 5 = (1, 2) := by decide +kernel
theorem live_d2 : dNum 10 5 2 5 3 = (11, 10) := by decide +kernel
theorem live_d3 : dNum 10 5 3 3 2 = (5, 3) := by decide +kernel
set_option maxRecDepth 100000 in
set_option maxHeartbeats 4000000 in
theorem live28_any (w : World) : Calls Try.prog 79 #[] w fun e w' => e = .returned (.bool true) ∧ Below w.heap.size w w' := by
  have HOF : Hid (∀ W, Calls Try.prog 80 #[.agg #[.int .i64 0, .int .i64 0, .int .i64 0, .int .i64 10, .int .i64 5, .int .i64 3, .int .i64 2]] W (MkS F64 W (0, 1) (1, 2) (11, 10) (5, 3))) := Lib.hid (fun W => by
    have := dof_any 0 0 0 10 5 3 2 10 5 3 2 (by decide) (by decide) (by decide) (by decide) (by decide) (by decide) (by decide) (by decide) W
    rwa [live_d1, live_d2, live_d3] at this)
  have HT1 : Hid (∀ v W, F64 W v 1 2 → Calls Try.prog 72 #[v] W (fun x w' => x = .returned (.string ⟨#[49, 47, 50]⟩) ∧ Below W.heap.size W w')) := Lib.hid (fun v W h => rtext_lit v 1 2 [49] [50] _ W h (by decide) (by decide) dig_1 dig_2 (by decide) (by decide) (by kernel_rfl))
  have HT2 : Hid (∀ v W, F64 W v 11 10 → Calls Try.prog 72 #[v] W (fun x w' => x = .returned (.string ⟨#[49, 49, 47, 49, 48]⟩) ∧ Below W.heap.size W w')) := Lib.hid (fun v W h => rtext_lit v 11 10 [49, 49] [49, 48] _ W h (by decide) (by decide) dig_11 dig_10 (by decide) (by decide) (by kernel_rfl))
  have HT3 : Hid (∀ v W, F64 W v 5 3 → Calls Try.prog 72 #[v] W (fun x w' => x = .returned (.string ⟨#[53, 47, 51]⟩) ∧ Below W.heap.size W w')) := Lib.hid (fun v W h => rtext_lit v 5 3 [53] [51] _ W h (by decide) (by decide) dig_5 dig_3 (by decide) (by decide) (by kernel_rfl))
  have HB0 := Lib.hid (Below.refl w.heap.size w)
  go_enter Try.func79, Try.ntmps79
  go_wp2_with fail
  with_reducible refine (HOF.out _).mono ?_
  rintro e w1 ⟨u1, rfl, hu, hb⟩
  replace HB0 := Lib.hid (cbt HB0.out hb)
  clear hb
  obtain ⟨A0, p0, c0, B0, q0, u0, A1, p1, c1, B1, q1, u1, A2, p2, c2, B2, q2, u2, A3, p3, c3, B3, q3, u3, rfl, hs0, hs1, hs2, hs3⟩ := hu
  have F1 := Lib.hid hs1
  have F2 := Lib.hid hs2
  have F3 := Lib.hid hs3
  clear hs0 hs1 hs2 hs3
  have e1 := Blk.new w1 99 #[.slice A0 p0 c0, .slice B0 q0 u0, .slice A1 p1 c1, .slice B1 q1 u1, .slice A2 p2 c2, .slice B2 q2 u2, .slice A3 p3 c3, .slice B3 q3 u3]
  have hb := cba (Below.refl _ w1) (.cells #[.slice A0 p0 c0, .slice B0 q0 u0, .slice A1 p1 c1, .slice B1 q1 u1, .slice A2 p2 c2, .slice B2 q2 u2, .slice A3 p3 c3, .slice B3 q3 u3] 99)
  go_upto_region 2 with (fail)
  obtain ⟨X, hX⟩ : ∃ X, w1.alloc (.cells #[.slice A0 p0 c0, .slice B0 q0 u0, .slice A1 p1 c1, .slice B1 q1 u1, .slice A2 p2 c2, .slice B2 q2 u2, .slice A3 p3 c3, .slice B3 q3 u3] 99) = X := ⟨_, rfl⟩
  rw [hX] at e1 hb ⊢
  obtain ⟨g1, hg⟩ : ∃ g, w1.heap.size = g := ⟨_, rfl⟩
  rw [hg] at e1
  simp only [hg]
  replace HB0 := Lib.hid (cbt HB0.out hb)
  replace F1 := Lib.hid (F1.out.below hb)
  replace F2 := Lib.hid (F2.out.below hb)
  replace F3 := Lib.hid (F3.out.below hb)
  have E1 := Lib.hid e1
  clear hX hg hb e1
  have k_E1_0 := E1.out.cell 0
  have k_E1_1 := E1.out.cell 1
  have k_E1_2 := E1.out.cell 2
  have k_E1_3 := E1.out.cell 3
  have k_E1_4 := E1.out.cell 4
  have k_E1_5 := E1.out.cell 5
  have k_E1_6 := E1.out.cell 6
  have k_E1_7 := E1.out.cell 7
  go_wp2_with fail
  with_reducible refine (HT1.out _ _ F1.out).mono ?_
  rintro e w2 ⟨rfl, hb⟩
  clear k_E1_0 k_E1_1 k_E1_2 k_E1_3 k_E1_4 k_E1_5 k_E1_6 k_E1_7
  replace F1 := Lib.hid (F1.out.below hb)
  replace F2 := Lib.hid (F2.out.below hb)
  replace F3 := Lib.hid (F3.out.below hb)
  replace E1 := Lib.hid (blk_below E1.out hb)
  replace HB0 := Lib.hid (cbt HB0.out hb)
  clear hb
  have k_E1_0 := E1.out.cell 0
  have k_E1_1 := E1.out.cell 1
  have k_E1_2 := E1.out.cell 2
  have k_E1_3 := E1.out.cell 3
  have k_E1_4 := E1.out.cell 4
  have k_E1_5 := E1.out.cell 5
  have k_E1_6 := E1.out.cell 6
  have k_E1_7 := E1.out.cell 7
  go_wp2_with fail
  with_reducible refine (HT2.out _ _ F2.out).mono ?_
  rintro e w2 ⟨rfl, hb⟩
  clear k_E1_0 k_E1_1 k_E1_2 k_E1_3 k_E1_4 k_E1_5 k_E1_6 k_E1_7
  replace F1 := Lib.hid (F1.out.below hb)
  replace F2 := Lib.hid (F2.out.below hb)
  replace F3 := Lib.hid (F3.out.below hb)
  replace E1 := Lib.hid (blk_below E1.out hb)
  replace HB0 := Lib.hid (cbt HB0.out hb)
  clear hb
  have k_E1_0 := E1.out.cell 0
  have k_E1_1 := E1.out.cell 1
  have k_E1_2 := E1.out.cell 2
  have k_E1_3 := E1.out.cell 3
  have k_E1_4 := E1.out.cell 4
  have k_E1_5 := E1.out.cell 5
  have k_E1_6 := E1.out.cell 6
  have k_E1_7 := E1.out.cell 7
  go_wp2_with fail
  with_reducible refine (HT3.out _ _ F3.out).mono ?_
  rintro e w2 ⟨rfl, hb⟩
  clear k_E1_0 k_E1_1 k_E1_2 k_E1_3 k_E1_4 k_E1_5 k_E1_6 k_E1_7
  replace F1 := Lib.hid (F1.out.below hb)
  replace F2 := Lib.hid (F2.out.below hb)
  replace F3 := Lib.hid (F3.out.below hb)
  replace E1 := Lib.hid (blk_below E1.out hb)
  replace HB0 := Lib.hid (cbt HB0.out hb)
  clear hb
  have k_E1_0 := E1.out.cell 0
  have k_E1_1 := E1.out.cell 1
  have k_E1_2 := E1.out.cell 2
  have k_E1_3 := E1.out.cell 3
  have k_E1_4 := E1.out.cell 4
  have k_E1_5 := E1.out.cell 5
  have k_E1_6 := E1.out.cell 6
  have k_E1_7 := E1.out.cell 7
  go_wp2_with fail
  go_ret
  exact ⟨rfl, HB0.out⟩
end Go.Proofs.Yteikhnmmkanndaa
namespace Go.Proofs.Yteikhnmmkanndaa
open Go.RowKit
def IntsAt (w : World) (A : Option Addr) (g : List Int) : Prop :=
  ∀ i (h : i < g.length), ∃ b o, A = some ⟨b, o, none⟩ ∧ b < w.heap.size ∧ w.cell? ⟨b, o + i, none⟩ = some (.int .i64 g[i])
theorem IntsAt.below {w w' : World} {A : Option Addr} {g : List Int} (h : IntsAt w A g) (hb : Below w.heap.size w w') : IntsAt w' A g := by
  intro i hi
  obtain ⟨b, o, hA, hlt, hc⟩ := h i hi
  exact ⟨b, o, hA, Nat.lt_of_lt_of_le hlt hb.size, (hb.cell (p := ⟨b, o + i, none⟩) hlt).trans hc⟩
theorem IntsAt.nil (w : World) (A : Option Addr) : IntsAt w A [] := fun i h => absurd h (by simp)
structure Cnt where
  g : List Int
  n : Int
def IsInts (w : World) (v : Value) (g : List Int) : Prop := ∃ A cap, v = .slice A g.length cap ∧ g.length ≤ cap ∧ cap ≤ maxLen ∧ IntsAt w A g
theorem IsInts.below {w w' : World} {v : Value} {g : List Int} (h : IsInts w v g) (hb : Below w.heap.size w w') : IsInts w' v g := by
  obtain ⟨A, cap, hv, hl, hm, hi⟩ := h
  exact ⟨A, cap, hv, hl, hm, hi.below hb⟩
def CntsAt (w : World) (A : Option Addr) (L : List Cnt) : Prop :=
  ∀ i (h : i < L.length), ∃ b o v, A = some ⟨b, o, none⟩ ∧ b < w.heap.size ∧ w.cell? ⟨b, o + i * 2, none⟩ = some v ∧ w.cell? ⟨b, o + i * 2 + 1, none⟩ = some (.int .i64 L[i].n) ∧ IsInts w v L[i].g ∧ -9223372036854775808 ≤ L[i].n ∧ L[i].n ≤ 9223372036854775807
theorem CntsAt.below {w w' : World} {A : Option Addr} {L : List Cnt} (h : CntsAt w A L) (hb : Below w.heap.size w w') : CntsAt w' A L := by
  intro i hi
  obtain ⟨b, o, v, hA, hlt, hc, hd, hv, hr⟩ := h i hi
  exact ⟨b, o, v, hA, Nat.lt_of_lt_of_le hlt hb.size, (hb.cell (p := ⟨b, o + i * 2, none⟩) hlt).trans hc, (hb.cell (p := ⟨b, o + i * 2 + 1, none⟩) hlt).trans hd, hv.below hb, hr⟩
structure Cen where
  ty : Int
  tot : Int
  n1 : Int
  n2 : Int
  n3 : Int
  n4 : Int
def Cen.zero : Cen := ⟨0, 0, 0, 0, 0, 0⟩
def outB (x : Cnt) : Bool := decide (x.n < 1) || decide (x.g = [1])
def Cen.add (s : Cen) (x : Cnt) : Cen :=
  if outB x = true then s else
    ⟨s.ty + 1, s.tot + x.n, if x.n = 1 then s.n1 + 1 else s.n1, if x.n = 2 then s.n2 + 1 else s.n2, if x.n = 3 then s.n3 + 1 else s.n3, if x.n = 4 then s.n4 + 1 else s.n4⟩
def cenOf (L : List Cnt) : Cen := L.foldl Cen.add Cen.zero
theorem cenOf_snoc (L : List Cnt) (x : Cnt) : cenOf (L ++ [x]) = (cenOf L).add x := by simp [cenOf]
theorem cenOf_take (L : List Cnt) (k : Nat) (h : k < L.length) : cenOf (L.take (k + 1)) = (cenOf (L.take k)).add L[k] := by
  rw [List.take_succ_eq_append_getElem h, cenOf_snoc]
def Cen.cells (s : Cen) : Array Value := #[.int .i64 s.ty, .int .i64 s.tot, .int .i64 0, .int .i64 s.n1, .int .i64 s.n2, .int .i64 s.n3, .int .i64 s.n4]
def Cen.row (s : Cen) : Array Value := #[.int .i64 s.ty, .int .i64 s.tot, .int .i64 s.n1, .int .i64 s.n2, .int .i64 s.n3, .int .i64 s.n4]
def Cen.ok (s : Cen) (k : Nat) : Prop := 0 ≤ s.ty ∧ s.ty ≤ k ∧ 0 ≤ s.n1 ∧ s.n1 ≤ k ∧ 0 ≤ s.n2 ∧ s.n2 ≤ k ∧ 0 ≤ s.n3 ∧ s.n3 ≤ k ∧ 0 ≤ s.n4 ∧ s.n4 ≤ k
theorem Cen.ok_add {s : Cen} {k : Nat} (h : s.ok k) (x : Cnt) : (s.add x).ok (k + 1) := by
  unfold Cen.add
  unfold Cen.ok at h ⊢
  split
  · omega
  · dsimp only
    split <;> split <;> split <;> split <;> omega
theorem Cen.ok_of (L : List Cnt) (k : Nat) (h : k ≤ L.length) : (cenOf (L.take k)).ok k := by
  induction k with
  | zero => simp [cenOf, Cen.ok, Cen.zero]
  | succ k ih => rw [cenOf_take L k h]; exact Cen.ok_add (ih (by omega)) _
def mayL : List Cnt → Int → Bool
  | [], _ => true
  | x :: L, left => if left < x.n then false else mayL L (left - max x.n 0)
def mayB (L : List Cnt) : Bool := mayL L 4611686018427387904
def posSum : List Cnt → Int
  | [] => 0
  | x :: L => max x.n 0 + posSum L
theorem posSum_nonneg (L : List Cnt) : 0 ≤ posSum L := by
  induction L with
  | nil => simp [posSum]
  | cons x L ih => unfold posSum; omega
theorem mayL_sum (L : List Cnt) (left : Int) (h0 : 0 ≤ left) (h : mayL L left = true) : posSum L ≤ left := by
  induction L generalizing left with
  | nil => simpa [posSum] using h0
  | cons x L ih =>
    unfold mayL at h
    unfold posSum
    by_cases hx : left < x.n
    · rw [if_pos hx] at h; simp at h
    · rw [if_neg hx] at h
      have := ih (left - max x.n 0) (by omega) h
      omega
theorem posSum_append (L M : List Cnt) : posSum (L ++ M) = posSum L + posSum M := by
  induction L with
  | nil => simp [posSum]
  | cons x L ih => rw [List.cons_append, posSum, posSum, ih]; omega
theorem posSum_take_le (L : List Cnt) (k : Nat) : posSum (L.take k) ≤ posSum L := by
  conv => rhs; rw [← List.take_append_drop k L]
  rw [posSum_append]
  have := posSum_nonneg (L.drop k)
  omega
theorem cen_tot (L : List Cnt) : 0 ≤ (cenOf L).tot ∧ (cenOf L).tot ≤ posSum L := by
  rcases List.eq_nil_or_concat L with rfl | ⟨M, x, rfl⟩
  · simp [cenOf, Cen.zero, posSum]
  · rw [List.concat_eq_append, cenOf_snoc, posSum_append]
    have ih := cen_tot M
    unfold Cen.add
    have hp : posSum [x] = max x.n 0 := by simp [posSum]
    rw [hp]
    by_cases ho : outB x = true
    · rw [if_pos ho]; omega
    · rw [if_neg ho]
      have : 1 ≤ x.n := by
        unfold outB at ho
        simp at ho
        omega
      dsimp only
      omega
termination_by L.length
theorem out_small {x : Cnt} (h : x.n < 1) : outB x = true := by unfold outB; rw [decide_eq_true h]; rfl
theorem out_one {x : Cnt} (h : x.g = [1]) : outB x = true := by unfold outB; rw [decide_eq_true h]; simp
theorem out_not {x : Cnt} (h1 : ¬ x.n < 1) (h2 : ¬ x.g = [1]) : ¬ outB x = true := by unfold outB; rw [decide_eq_false h1, decide_eq_false h2]; simp
theorem Cen.add_out {s : Cen} {x : Cnt} (h : outB x = true) : s.add x = s := by unfold Cen.add; rw [if_pos h]
theorem Cen.add_in {s : Cen} {x : Cnt} (h : ¬ outB x = true) : s.add x = ⟨s.ty + 1, s.tot + x.n, if x.n = 1 then s.n1 + 1 else s.n1, if x.n = 2 then s.n2 + 1 else s.n2, if x.n = 3 then s.n3 + 1 else s.n3, if x.n = 4 then s.n4 + 1 else s.n4⟩ := by unfold Cen.add; rw [if_neg h]
theorem cells_01 (s : Cen) (a b : Int) : (s.cells.setIfInBounds 0 (.int .i64 a)).setIfInBounds 1 (.int .i64 b) = (Cen.mk a b s.n1 s.n2 s.n3 s.n4).cells := by simp [Cen.cells]
theorem cells_3 (s : Cen) (a : Int) : s.cells.setIfInBounds 3 (.int .i64 a) = (Cen.mk s.ty s.tot a s.n2 s.n3 s.n4).cells := by simp [Cen.cells]
theorem cells_4 (s : Cen) (a : Int) : s.cells.setIfInBounds 4 (.int .i64 a) = (Cen.mk s.ty s.tot s.n1 a s.n3 s.n4).cells := by simp [Cen.cells]
theorem cells_5 (s : Cen) (a : Int) : s.cells.setIfInBounds 5 (.int .i64 a) = (Cen.mk s.ty s.tot s.n1 s.n2 a s.n4).cells := by simp [Cen.cells]
theorem cells_6 (s : Cen) (a : Int) : s.cells.setIfInBounds 6 (.int .i64 a) = (Cen.mk s.ty s.tot s.n1 s.n2 s.n3 a).cells := by simp [Cen.cells]
theorem Blk.counted {w : World} {g : Nat} {s : Cen} (h : Blk w g 96 s.cells) (a b : Int) : Blk ((w.setCell ⟨g, 0, none⟩ (.int .i64 a)).setCell ⟨g, 1, none⟩ (.int .i64 b)) g 96 (Cen.mk a b s.n1 s.n2 s.n3 s.n4).cells := by
  rw [← cells_01]
  exact (h.set_ 0 _).set_ 1 _
set_option maxHeartbeats 1000000 in
theorem add_small (g : Nat) (s : Cen) (x : Cnt) (v : Value) (w : World) (hblk : Blk w g 96 s.cells) (hx : x.n < 1) :
    Calls Try.prog 126 #[.pointer (some ⟨g, 0, none⟩), .agg #[v, .int .i64 x.n]] w fun e w' => e = .returned (.tuple #[]) ∧ Blk w' g 96 (s.add x).cells ∧ w.grownBy w' (some g) := by
  have HA := Lib.hid (Cen.add_out (s := s) (out_small hx))
  go_enter Try.func126, Try.ntmps126
  go_wp2
  refine bodyPost_ret (results_none rfl _ _ _) rfl ?_
  exact ⟨rfl, by rw [HA.out]; exact hblk.alloc _, only_alloc (World.grownBy.refl _ _) _⟩
set_option maxHeartbeats 1000000 in
theorem add_one (g : Nat) (s : Cen) (x : Cnt) (A : Option Addr) (cap : Nat) (w : World) (hblk : Blk w g 96 s.cells) (hx : ¬ x.n < 1) (hg : x.g = [1]) (hA : IntsAt w A [1]) :
    Calls Try.prog 126 #[.pointer (some ⟨g, 0, none⟩), .agg #[.slice A 1 cap, .int .i64 x.n]] w fun e w' => e = .returned (.tuple #[]) ∧ Blk w' g 96 (s.add x).cells ∧ w.grownBy w' (some g) := by
  have HA := Lib.hid (Cen.add_out (s := s) (out_one hg))
  obtain ⟨b, o, rfl, hlt, hc⟩ := hA 0 (by simp)
  have hc' : w.cell? ⟨b, o, none⟩ = some (.int .i64 1) := hc
  clear hA hc hg
  have hx' : 1 ≤ x.n := by omega
  clear hx
  go_enter Try.func126, Try.ntmps126
  go_wp2
  refine bodyPost_ret (results_none rfl _ _ _) rfl ?_
  exact ⟨rfl, by rw [HA.out]; exact hblk.alloc _, only_alloc (World.grownBy.refl _ _) _⟩
set_option maxHeartbeats 2000000 in
theorem add_in (g : Nat) (s : Cen) (x : Cnt) (A : Option Addr) (n cap : Nat) (w : World) (k : Nat) (hk : k ≤ 1099511627776) (hs : s.ok k) (ht0 : 0 ≤ s.tot) (ht : s.tot + x.n ≤ 4611686018427387904) (hblk : Blk w g 96 s.cells) (hx : ¬ x.n < 1) (hg : ¬ x.g = [1])
    (hn : n = x.g.length) (hA : IntsAt w A x.g) (hz : n ≤ maxLen) :
    Calls Try.prog 126 #[.pointer (some ⟨g, 0, none⟩), .agg #[.slice A n cap, .int .i64 x.n]] w fun e w' => e = .returned (.tuple #[]) ∧ Blk w' g 96 (s.add x).cells ∧ w.grownBy w' (some g) := by
  have HA := Lib.hid (Cen.add_in (s := s) (out_not hx hg))
  unfold maxLen at hz
  obtain ⟨N, hN⟩ : ∃ N, x.n = N := ⟨_, rfl⟩
  rw [hN] at hx ht HA ⊢
  clear hN
  have hx' : 1 ≤ N := by omega
  clear hx
  unfold Cen.ok at hs
  obtain ⟨s1, s2, s3, s4, s5, s6, s7, s8, s9, s10⟩ := hs
  have c0 := hblk.cell 0
  have c1 := hblk.cell 1
  have c3 := hblk.cell 3
  have c4 := hblk.cell 4
  have c5 := hblk.cell 5
  have c6 := hblk.cell 6
  have f0 := hblk.frozen 0
  have f1 := hblk.frozen 1
  have f3 := hblk.frozen 3
  have f4 := hblk.frozen 4
  have f5 := hblk.frozen 5
  have f6 := hblk.frozen 6
  have e0 : s.cells[0]? = some (.int .i64 s.ty) := rfl
  have e1 : s.cells[1]? = some (.int .i64 s.tot) := rfl
  have e3 : s.cells[3]? = some (.int .i64 s.n1) := rfl
  have e4 : s.cells[4]? = some (.int .i64 s.n2) := rfl
  have e5 : s.cells[5]? = some (.int .i64 s.n3) := rfl
  have e6 : s.cells[6]? = some (.int .i64 s.n4) := rfl
  rw [e0] at c0
  rw [e1] at c1
  rw [e3] at c3
  rw [e4] at c4
  rw [e5] at c5
  rw [e6] at c6
  clear e0 e1 e3 e4 e5 e6
  have hglt := hblk.lt
  by_cases h1 : n = 1
  · subst h1
    obtain ⟨b, o, rfl, hlt, hc⟩ := hA 0 (by omega)
    have hc' : w.cell? ⟨b, o, none⟩ = some (.int .i64 (x.g[0]'(by omega))) := hc
    have hne : ((x.g[0]'(by omega)) == 1) = false := by
      rw [beq_eq_false_iff_ne]
      intro e
      apply hg
      apply List.ext_getElem
      · exact hn.symm
      · intro i h1 h2
        have : i = 0 := by simp at h2; omega
        subst this
        exact e
    obtain ⟨y, hy⟩ : ∃ y, x.g[0]'(by omega) = y := ⟨_, rfl⟩
    rw [hy] at hc' hne
    clear hA hc hg hy hn
    by_cases h5 : 5 ≤ N
    · go_enter Try.func126, Try.ntmps126
      go_wp2
      go_region
      go_wp2
      go_end0
      refine ⟨rfl, ?_, ?_⟩
      · have hq := ((hblk.counted (s.ty + 1) (s.tot + N)).alloc (Obj.cells #[Value.slice (some ⟨b, o, none⟩) 1 cap, Value.int IntKind.i64 N] 111)).drew
        rw [HA.out, if_neg (by omega), if_neg (by omega), if_neg (by omega), if_neg (by omega)]
        exact hq
      · refine only_drew ?_
        refine only_alloc ?_ _
        refine only_setCell ?_ (.inl rfl) _
        refine only_setCell ?_ (.inl rfl) _
        exact World.grownBy.refl _ _
    · obtain rfl | rfl | rfl | rfl : N = 1 ∨ N = 2 ∨ N = 3 ∨ N = 4 := by omega
      · go_enter Try.func126, Try.ntmps126
        go_wp2
        go_region
        go_wp2
        go_region
        go_wp2
        go_end0
        refine ⟨rfl, ?_, ?_⟩
        · have hq := (((hblk.counted (s.ty + 1) (s.tot + 1)).set_ 3 (.int .i64 (s.n1 + 1))).alloc (Obj.cells #[Value.slice (some ⟨b, o, none⟩) 1 cap, Value.int IntKind.i64 1] 111)).drew.drew
          rw [cells_3] at hq
          rw [HA.out]
          exact hq
        · refine only_drew ?_
          refine only_drew ?_
          refine only_alloc ?_ _
          refine only_setCell ?_ (.inl rfl) _
          refine only_setCell ?_ (.inl rfl) _
          refine only_setCell ?_ (.inl rfl) _
          exact World.grownBy.refl _ _
      · go_enter Try.func126, Try.ntmps126
        go_wp2
        go_region
        go_wp2
        go_region
        go_wp2
        go_end0
        refine ⟨rfl, ?_, ?_⟩
        · have hq := (((hblk.counted (s.ty + 1) (s.tot + 2)).set_ 4 (.int .i64 (s.n2 + 1))).alloc (Obj.cells #[Value.slice (some ⟨b, o, none⟩) 1 cap, Value.int IntKind.i64 2] 111)).drew.drew
          rw [cells_4] at hq
          rw [HA.out]
          exact hq
        · refine only_drew ?_
          refine only_drew ?_
          refine only_alloc ?_ _
          refine only_setCell ?_ (.inl rfl) _
          refine only_setCell ?_ (.inl rfl) _
          refine only_setCell ?_ (.inl rfl) _
          exact World.grownBy.refl _ _
      · go_enter Try.func126, Try.ntmps126
        go_wp2
        go_region
        go_wp2
        go_region
        go_wp2
        go_end0
        refine ⟨rfl, ?_, ?_⟩
        · have hq := (((hblk.counted (s.ty + 1) (s.tot + 3)).set_ 5 (.int .i64 (s.n3 + 1))).alloc (Obj.cells #[Value.slice (some ⟨b, o, none⟩) 1 cap, Value.int IntKind.i64 3] 111)).drew.drew
          rw [cells_5] at hq
          rw [HA.out]
          exact hq
        · refine only_drew ?_
          refine only_drew ?_
          refine only_alloc ?_ _
          refine only_setCell ?_ (.inl rfl) _
          refine only_setCell ?_ (.inl rfl) _
          refine only_setCell ?_ (.inl rfl) _
          exact World.grownBy.refl _ _
      · go_enter Try.func126, Try.ntmps126
        go_wp2
        go_region
        go_wp2
        go_region
        go_wp2
        go_end0
        refine ⟨rfl, ?_, ?_⟩
        · have hq := (((hblk.counted (s.ty + 1) (s.tot + 4)).set_ 6 (.int .i64 (s.n4 + 1))).alloc (Obj.cells #[Value.slice (some ⟨b, o, none⟩) 1 cap, Value.int IntKind.i64 4] 111)).drew.drew
          rw [cells_6] at hq
          rw [HA.out]
          exact hq
        · refine only_drew ?_
          refine only_drew ?_
          refine only_alloc ?_ _
          refine only_setCell ?_ (.inl rfl) _
          refine only_setCell ?_ (.inl rfl) _
          refine only_setCell ?_ (.inl rfl) _
          exact World.grownBy.refl _ _
  · have hne : ((n : Int) == 1) = false := by rw [beq_eq_false_iff_ne]; omega
    clear hn hA hg
    by_cases h5 : 5 ≤ N
    · go_enter Try.func126, Try.ntmps126
      go_wp2
      go_region
      go_wp2
      go_end0
      refine ⟨rfl, ?_, ?_⟩
      · have hq := ((hblk.counted (s.ty + 1) (s.tot + N)).alloc (Obj.cells #[Value.slice A n cap, Value.int IntKind.i64 N] 111)).drew
        rw [HA.out, if_neg (by omega), if_neg (by omega), if_neg (by omega), if_neg (by omega)]
        exact hq
      · refine only_drew ?_
        refine only_alloc ?_ _
        refine only_setCell ?_ (.inl rfl) _
        refine only_setCell ?_ (.inl rfl) _
        exact World.grownBy.refl _ _
    · obtain rfl | rfl | rfl | rfl : N = 1 ∨ N = 2 ∨ N = 3 ∨ N = 4 := by omega
      · go_enter Try.func126, Try.ntmps126
        go_wp2
        go_region
        go_wp2
        go_region
        go_wp2
        go_end0
        refine ⟨rfl, ?_, ?_⟩
        · have hq := (((hblk.counted (s.ty + 1) (s.tot + 1)).set_ 3 (.int .i64 (s.n1 + 1))).alloc (Obj.cells #[Value.slice A n cap, Value.int IntKind.i64 1] 111)).drew.drew
          rw [cells_3] at hq
          rw [HA.out]
          exact hq
        · refine only_drew ?_
          refine only_drew ?_
          refine only_alloc ?_ _
          refine only_setCell ?_ (.inl rfl) _
          refine only_setCell ?_ (.inl rfl) _
          refine only_setCell ?_ (.inl rfl) _
          exact World.grownBy.refl _ _
      · go_enter Try.func126, Try.ntmps126
        go_wp2
        go_region
        go_wp2
        go_region
        go_wp2
        go_end0
        refine ⟨rfl, ?_, ?_⟩
        · have hq := (((hblk.counted (s.ty + 1) (s.tot + 2)).set_ 4 (.int .i64 (s.n2 + 1))).alloc (Obj.cells #[Value.slice A n cap, Value.int IntKind.i64 2] 111)).drew.drew
          rw [cells_4] at hq
          rw [HA.out]
          exact hq
        · refine only_drew ?_
          refine only_drew ?_
          refine only_alloc ?_ _
          refine only_setCell ?_ (.inl rfl) _
          refine only_setCell ?_ (.inl rfl) _
          refine only_setCell ?_ (.inl rfl) _
          exact World.grownBy.refl _ _
      · go_enter Try.func126, Try.ntmps126
        go_wp2
        go_region
        go_wp2
        go_region
        go_wp2
        go_end0
        refine ⟨rfl, ?_, ?_⟩
        · have hq := (((hblk.counted (s.ty + 1) (s.tot + 3)).set_ 5 (.int .i64 (s.n3 + 1))).alloc (Obj.cells #[Value.slice A n cap, Value.int IntKind.i64 3] 111)).drew.drew
          rw [cells_5] at hq
          rw [HA.out]
          exact hq
        · refine only_drew ?_
          refine only_drew ?_
          refine only_alloc ?_ _
          refine only_setCell ?_ (.inl rfl) _
          refine only_setCell ?_ (.inl rfl) _
          refine only_setCell ?_ (.inl rfl) _
          exact World.grownBy.refl _ _
      · go_enter Try.func126, Try.ntmps126
        go_wp2
        go_region
        go_wp2
        go_region
        go_wp2
        go_end0
        refine ⟨rfl, ?_, ?_⟩
        · have hq := (((hblk.counted (s.ty + 1) (s.tot + 4)).set_ 6 (.int .i64 (s.n4 + 1))).alloc (Obj.cells #[Value.slice A n cap, Value.int IntKind.i64 4] 111)).drew.drew
          rw [cells_6] at hq
          rw [HA.out]
          exact hq
        · refine only_drew ?_
          refine only_drew ?_
          refine only_alloc ?_ _
          refine only_setCell ?_ (.inl rfl) _
          refine only_setCell ?_ (.inl rfl) _
          refine only_setCell ?_ (.inl rfl) _
          exact World.grownBy.refl _ _
theorem add_any (g : Nat) (s : Cen) (x : Cnt) (v : Value) (w : World) (k : Nat) (hk : k ≤ 1099511627776) (hs : s.ok k) (ht0 : 0 ≤ s.tot) (ht : s.tot + max x.n 0 ≤ 4611686018427387904) (hblk : Blk w g 96 s.cells) (hv : IsInts w v x.g) :
    Calls Try.prog 126 #[.pointer (some ⟨g, 0, none⟩), .agg #[v, .int .i64 x.n]] w fun e w' => e = .returned (.tuple #[]) ∧ Blk w' g 96 (s.add x).cells ∧ w.grownBy w' (some g) := by
  obtain ⟨A, cap, rfl, hl, hm, hA⟩ := hv
  by_cases hx : x.n < 1
  · exact add_small g s x _ w hblk hx
  · by_cases hg : x.g = [1]
    · rw [hg] at hA
      have h1 : x.g.length = 1 := by rw [hg]; rfl
      rw [h1]
      exact add_one g s x A cap w hblk hx hg hA
    · exact add_in g s x A _ cap w k hk hs ht0 (by omega) hblk hx hg rfl hA (by omega)
set_option maxHeartbeats 1000000 in
theorem cof_any (A : Option Addr) (L : List Cnt) (cap : Nat) (w : World) (hn : L.length ≤ 1099511627776) (hc : CntsAt w A L) (hp : posSum L ≤ 4611686018427387904) :
    Calls Try.prog 88 #[.slice A L.length cap] w fun e w' => e = .returned (.agg (cenOf L).cells) ∧ Below w.heap.size w w' := by
  go_enter Try.func88, Try.ntmps88
  go_wp2
  go_loopw [8] (fun v8 wr => ∃ k : Nat, k ≤ L.length ∧ v8 = .int .i64 k ∧ Blk wr (w.heap.size + 1) 96 (cenOf (L.take k)).cells ∧ Blk wr w.heap.size 96 Cen.zero.cells ∧ Below w.heap.size w wr) (fun v8 _ => L.length - (intOf v8).toNat)
  case atStart =>
    refine ⟨0, Nat.zero_le _, rfl, ?_, (Blk.new w 96 _).alloc _, cba (cba (Below.refl _ _) _) _⟩
    have h := Blk.new (w.alloc (Obj.cells Cen.zero.cells 96)) 96 Cen.zero.cells
    rw [World.size_alloc] at h
    exact h
  case round =>
    obtain ⟨k, hk, rfl, hblk, hres, hb⟩ := hrel
    by_cases hlt : k < L.length
    · obtain ⟨b, o, v, rfl, hbl, hc0, hc1, hv, hr0, hr1⟩ := hc k hlt
      have g0 : wr.cell? ⟨b, o + k * 2, none⟩ = some v := (hb.cell (p := ⟨b, o + k * 2, none⟩) hbl).trans hc0
      have g1 : wr.cell? ⟨b, o + k * 2 + 1, none⟩ = some (.int .i64 L[k].n) := (hb.cell (p := ⟨b, o + k * 2 + 1, none⟩) hbl).trans hc1
      have hvr : IsInts wr v L[k].g := hv.below hb
      have hok := Cen.ok_of L k (by omega)
      have HS := Lib.hid (cenOf_take L k hlt)
      have htot := cen_tot (L.take k)
      have hsum : posSum (L.take k) + max L[k].n 0 ≤ 4611686018427387904 := by
        have h1 := posSum_take_le L (k + 1)
        rw [List.take_succ_eq_append_getElem hlt, posSum_append] at h1
        have h2 : posSum [L[k]] = max L[k].n 0 := by simp [posSum]
        omega
      clear hc hc0 hc1
      obtain ⟨x, hx⟩ : ∃ x, L[k] = x := ⟨_, rfl⟩
      rw [hx] at g1 hvr HS hsum
      clear hx
      have hvr' := hvr
      obtain ⟨A', cap', rfl, _, _, _⟩ := hvr'
      go_wp2_with fail
      refine (add_any (w.heap.size + 1) (cenOf (L.take k)) x _ _ k (by omega) hok htot.1 (by omega) (hblk.alloc _) (hvr.below (cba (Below.refl _ _) _))).mono ?_
      rintro e w1 ⟨rfl, hblk1, hgr⟩
      go_wp2
      go_roundw
      case rel =>
        refine ⟨k + 1, by omega, by go_num, by rw [HS.out]; exact hblk1, (hres.alloc _).grown hgr (by simp), ?_⟩
        exact (hb.alloc hb.size _).grown hgr (by have := hb.size; simp; omega) (fun k e => by cases e; omega)
      case measure => simp [intOf]; omega
    · have HT := Lib.hid (List.take_of_length_le (show L.length ≤ k by omega))
      have hblk2 : Blk wr (w.heap.size + 1) 96 (cenOf L).cells := by rw [← HT.out]; exact hblk
      have q0 : wr.cell? ⟨w.heap.size + 1, 0, none⟩ = some (.int .i64 (cenOf L).ty) := hblk2.cell 0
      have q1 : wr.cell? ⟨w.heap.size + 1, 1, none⟩ = some (.int .i64 (cenOf L).tot) := hblk2.cell 1
      have q2 : wr.cell? ⟨w.heap.size + 1, 2, none⟩ = some (.int .i64 0) := hblk2.cell 2
      have q3 : wr.cell? ⟨w.heap.size + 1, 3, none⟩ = some (.int .i64 (cenOf L).n1) := hblk2.cell 3
      have q4 : wr.cell? ⟨w.heap.size + 1, 4, none⟩ = some (.int .i64 (cenOf L).n2) := hblk2.cell 4
      have q5 : wr.cell? ⟨w.heap.size + 1, 5, none⟩ = some (.int .i64 (cenOf L).n3) := hblk2.cell 5
      have q6 : wr.cell? ⟨w.heap.size + 1, 6, none⟩ = some (.int .i64 (cenOf L).n4) := hblk2.cell 6
      have r0 : wr.cell? ⟨w.heap.size, 0, none⟩ = some (.int .i64 0) := hres.cell 0
      have r1 : wr.cell? ⟨w.heap.size, 1, none⟩ = some (.int .i64 0) := hres.cell 1
      have r2 : wr.cell? ⟨w.heap.size, 2, none⟩ = some (.int .i64 0) := hres.cell 2
      have r3 : wr.cell? ⟨w.heap.size, 3, none⟩ = some (.int .i64 0) := hres.cell 3
      have r4 : wr.cell? ⟨w.heap.size, 4, none⟩ = some (.int .i64 0) := hres.cell 4
      have r5 : wr.cell? ⟨w.heap.size, 5, none⟩ = some (.int .i64 0) := hres.cell 5
      have r6 : wr.cell? ⟨w.heap.size, 6, none⟩ = some (.int .i64 0) := hres.cell 6
      have f0 := hres.frozen 0
      have f1 := hres.frozen 1
      have f2 := hres.frozen 2
      have f3 := hres.frozen 3
      have f4 := hres.frozen 4
      have f5 := hres.frozen 5
      have f6 := hres.frozen 6
      clear hc
      go_wp2
      exact bodyPost_ret (v := .agg (cenOf L).cells) (by simp [results, Try.results88, go_sem, r0, r1, r2, r3, r4, r5, r6, Cen.cells]) rfl ⟨rfl, ((((((hb.setCell (Nat.le_refl _) _).setCell (Nat.le_refl _) _).setCell (Nat.le_refl _) _).setCell (Nat.le_refl _) _).setCell (Nat.le_refl _) _).setCell (Nat.le_refl _) _).setCell (Nat.le_refl _) _⟩
theorem intsB_snoc (a b : List Int) (k : Nat) (ha : k < a.length) (hb : k < b.length) : (a.take (k + 1) = b.take (k + 1)) ↔ (a.take k = b.take k ∧ a[k] = b[k]) := by
  rw [List.take_succ_eq_append_getElem ha, List.take_succ_eq_append_getElem hb]
  constructor
  · intro h
    have := List.append_inj h (by simp; omega)
    exact ⟨this.1, by simpa using this.2⟩
  · rintro ⟨h1, h2⟩
    rw [h1, h2]
set_option maxHeartbeats 1000000 in
theorem ints_any (A B : Option Addr) (a b : List Int) (ca cb : Nat) (w : World) (hla : a.length ≤ 9223372036854775807) (hlb : b.length ≤ 9223372036854775807) (ha : IntsAt w A a) (hb : IntsAt w B b) :
    Calls Try.prog 125 #[.slice A a.length ca, .slice B b.length cb] w fun e w' => e = .returned (.bool (decide (a = b))) ∧ Below w.heap.size w w' := by
  by_cases hl : a.length = b.length
  · have hll : ((a.length : Int) != (b.length : Int)) = false := by simp [hl]
    have hlb' : b.length ≤ a.length := by omega
    have HL := Lib.hid hl
    clear hl
    go_enter Try.func125, Try.ntmps125
    go_wp2
    clear hll
    go_loopw [5] (fun v5 wr => ∃ k : Nat, k ≤ a.length ∧ v5 = .int .i64 k ∧ Hid (a.take k = b.take k) ∧ Below w.heap.size w wr) (fun v5 _ => a.length - (intOf v5).toNat)
    case atStart => exact ⟨0, Nat.zero_le _, rfl, Lib.hid rfl, Below.refl _ _⟩
    case round =>
      obtain ⟨k, hk, rfl, htk, hbr⟩ := hrel
      by_cases hlt : k < a.length
      · have hlt' : k < b.length := by have := HL.out; omega
        obtain ⟨ba, oa, rfl, hba, hca⟩ := ha k hlt
        obtain ⟨bb, ob, rfl, hbb, hcb⟩ := hb k hlt'
        have hca' : wr.cell? ⟨ba, oa + k, none⟩ = some (.int .i64 a[k]) := (hbr.cell (p := ⟨ba, oa + k, none⟩) hba).trans hca
        have hcb' : wr.cell? ⟨bb, ob + k, none⟩ = some (.int .i64 b[k]) := (hbr.cell (p := ⟨bb, ob + k, none⟩) hbb).trans hcb
        clear hca hcb ha hb
        have HS := Lib.hid (intsB_snoc a b k hlt hlt')
        generalize a[k] = x at *
        generalize b[k] = y at *
        have i0 : (0 : Int) ≤ (k : Int) := by omega
        have i1 : (k : Int) < (a.length : Int) := by omega
        have i2 : (k : Int) < (b.length : Int) := by omega
        by_cases hxy : x = y
        · have hne : (x != y) = false := by simp [hxy]
          have HXY := Lib.hid hxy
          clear hxy
          go_wp2
          go_quiet (fail)
          go_wp2
          go_roundw
          case rel => exact ⟨k + 1, by omega, by go_num, Lib.hid (HS.out.2 ⟨htk.out, HXY.out⟩), below_drewN hbr _⟩
          case measure => simp [intOf]; omega
        · have hne : (x != y) = true := by simp [hxy]
          have HXY := Lib.hid hxy
          have hno : ¬ a = b := fun e => by
            subst e
            exact hxy ((HS.out.1 rfl).2)
          have HN := Lib.hid (decide_eq_false hno)
          clear hxy hno
          go_wp2
          go_quiet (fail)
          go_wp2
          go_ret
          exact ⟨by rw [HN.out]; rfl, below_drewN hbr _⟩
      · have hab : a = b := by
          have h1 := htk.out
          rwa [List.take_of_length_le (by omega), List.take_of_length_le (by omega)] at h1
        have HN := Lib.hid (decide_eq_true hab)
        clear hab
        go_wp2
        go_ret
        exact ⟨by rw [HN.out]; rfl, hbr⟩
  · have hll : ((a.length : Int) != (b.length : Int)) = true := by simp; omega
    have HN := Lib.hid (decide_eq_false (fun e : a = b => hl (by rw [e])))
    clear hl
    go_enter Try.func125, Try.ntmps125
    go_wp2
    go_ret
    exact ⟨by rw [HN.out]; rfl, Below.refl _ _⟩
theorem rows_01 (s : Cen) (a b : Int) : (s.row.setIfInBounds 0 (.int .i64 a)).setIfInBounds 1 (.int .i64 b) = (Cen.mk a b s.n1 s.n2 s.n3 s.n4).row := by simp [Cen.row]
theorem rows_2 (s : Cen) (a : Int) : s.row.setIfInBounds 2 (.int .i64 a) = (Cen.mk s.ty s.tot a s.n2 s.n3 s.n4).row := by simp [Cen.row]
theorem rows_3 (s : Cen) (a : Int) : s.row.setIfInBounds 3 (.int .i64 a) = (Cen.mk s.ty s.tot s.n1 a s.n3 s.n4).row := by simp [Cen.row]
theorem rows_4 (s : Cen) (a : Int) : s.row.setIfInBounds 4 (.int .i64 a) = (Cen.mk s.ty s.tot s.n1 s.n2 a s.n4).row := by simp [Cen.row]
theorem rows_5 (s : Cen) (a : Int) : s.row.setIfInBounds 5 (.int .i64 a) = (Cen.mk s.ty s.tot s.n1 s.n2 s.n3 a).row := by simp [Cen.row]
theorem Blk.rowed {w : World} {g : Nat} {s : Cen} (h : Blk w g 103 s.row) (a b : Int) : Blk ((w.setCell ⟨g, 0, none⟩ (.int .i64 a)).setCell ⟨g, 1, none⟩ (.int .i64 b)) g 103 (Cen.mk a b s.n1 s.n2 s.n3 s.n4).row := by
  rw [← rows_01]
  exact (h.set_ 0 _).set_ 1 _
theorem ints_one (A : Option Addr) (a : List Int) (ca : Nat) (w : World) (b : Nat) (hla : a.length ≤ 9223372036854775807) (ha : IntsAt w A a) (hlt : b < w.heap.size) (hb : w.cell? ⟨b, 0, none⟩ = some (.int .i64 1)) :
    Calls Try.prog 125 #[.slice A a.length ca, .slice (some ⟨b, 0, none⟩) 1 1] w fun e w' => e = .returned (.bool (decide (a = [1]))) ∧ Below w.heap.size w w' :=
  ints_any A (some ⟨b, 0, none⟩) a [1] ca 1 w hla (by simp) ha (fun i hi => ⟨b, 0, rfl, hlt, by
    have : i = 0 := by simpa using hi
    subst this
    exact hb⟩)
theorem slot1 {s : Cen} {x : Cnt} (h : ¬ outB x = true) (hn : x.n = 1) : s.add x = ⟨s.ty + 1, s.tot + 1, s.n1 + 1, s.n2, s.n3, s.n4⟩ := by rw [Cen.add_in h, hn]; rfl
theorem slot2 {s : Cen} {x : Cnt} (h : ¬ outB x = true) (hn : x.n = 2) : s.add x = ⟨s.ty + 1, s.tot + 2, s.n1, s.n2 + 1, s.n3, s.n4⟩ := by rw [Cen.add_in h, hn]; rfl
theorem slot3 {s : Cen} {x : Cnt} (h : ¬ outB x = true) (hn : x.n = 3) : s.add x = ⟨s.ty + 1, s.tot + 3, s.n1, s.n2, s.n3 + 1, s.n4⟩ := by rw [Cen.add_in h, hn]; rfl
theorem slot4 {s : Cen} {x : Cnt} (h : ¬ outB x = true) (hn : x.n = 4) : s.add x = ⟨s.ty + 1, s.tot + 4, s.n1, s.n2, s.n3, s.n4 + 1⟩ := by rw [Cen.add_in h, hn]; rfl
theorem slot5 {s : Cen} {x : Cnt} (h : ¬ outB x = true) (hn : 5 ≤ x.n) : s.add x = ⟨s.ty + 1, s.tot + x.n, s.n1, s.n2, s.n3, s.n4⟩ := by
  rw [Cen.add_in h, if_neg (by omega), if_neg (by omega), if_neg (by omega), if_neg (by omega)]
set_option maxHeartbeats 4000000 in
theorem crof_any (A : Option Addr) (L : List Cnt) (cap : Nat) (w : World) (hn : L.length ≤ 1099511627776) (hc : CntsAt w A L) (hp : posSum L ≤ 4611686018427387904) :
    Calls Try.prog 87 #[.slice A L.length cap] w fun e w' => e = .returned (.agg (cenOf L).row) ∧ Below w.heap.size w w' := by
  go_enter Try.func87, Try.ntmps87
  go_wp2
  go_loopw [4] (fun v4 wr => ∃ k : Nat, k ≤ L.length ∧ v4 = .int .i64 k ∧ Blk wr (w.heap.size + 1) 103 (cenOf (L.take k)).row ∧ Blk wr w.heap.size 103 Cen.zero.row ∧ Below w.heap.size w wr) (fun v4 _ => L.length - (intOf v4).toNat)
  case atStart =>
    refine ⟨0, Nat.zero_le _, rfl, ?_, (Blk.new w 103 _).alloc _, cba (cba (Below.refl _ _) _) _⟩
    have h := Blk.new (w.alloc (Obj.cells Cen.zero.row 103)) 103 Cen.zero.row
    rw [World.size_alloc] at h
    exact h
  case round =>
    obtain ⟨k, hk, rfl, hblk, hres, hb⟩ := hrel
    by_cases hlt : k < L.length
    · obtain ⟨b, o, v, rfl, hbl, hc0, hc1, hv, hr0, hr1⟩ := hc k hlt
      have g0 : wr.cell? ⟨b, o + k * 2, none⟩ = some v := (hb.cell (p := ⟨b, o + k * 2, none⟩) hbl).trans hc0
      have g1 : wr.cell? ⟨b, o + k * 2 + 1, none⟩ = some (.int .i64 L[k].n) := (hb.cell (p := ⟨b, o + k * 2 + 1, none⟩) hbl).trans hc1
      have hvr : IsInts wr v L[k].g := hv.below hb
      have hok := Cen.ok_of L k (by omega)
      have HS := Lib.hid (cenOf_take L k hlt)
      have htot := cen_tot (L.take k)
      have hsum : posSum (L.take k) + max L[k].n 0 ≤ 4611686018427387904 := by
        have h1 := posSum_take_le L (k + 1)
        rw [List.take_succ_eq_append_getElem hlt, posSum_append] at h1
        have h2 : posSum [L[k]] = max L[k].n 0 := by simp [posSum]
        omega
      clear hc hc0 hc1 hv
      obtain ⟨x, hx⟩ : ∃ x, L[k] = x := ⟨_, rfl⟩
      rw [hx] at g1 hvr HS hsum hr0 hr1
      clear hx
      obtain ⟨A', cap', rfl, hla, hma, hA'⟩ := hvr
      unfold maxLen at hma
      by_cases hx1 : x.n < 1
      · have HA := Lib.hid (Cen.add_out (s := cenOf (L.take k)) (out_small hx1))
        go_wp2
        go_roundw
        case rel => exact ⟨k + 1, by omega, by go_num, by rw [HS.out, HA.out]; exact hblk, hres, hb⟩
        case measure => simp [intOf]; omega
      · by_cases hg : x.g = [1]
        · have HA := Lib.hid (Cen.add_out (s := cenOf (L.take k)) (out_one hg))
          have hx1' : 1 ≤ x.n := by omega
          have HD := Lib.hid (decide_eq_true hg)
          clear hg hx1
          go_wp2_with fail
          refine (ints_one A' x.g cap' _ wr.heap.size (by omega) (hA'.below (cba (Below.refl _ _) _)) (by simp) (by simp)).mono ?_
          rintro e w1 ⟨rfl, hb1⟩
          rw [HD.out]
          go_wp2
          go_roundw
          case rel =>
            exact ⟨k + 1, by omega, by go_num, by rw [HS.out, HA.out]; exact (hblk.alloc _).below hb1 (by have := hblk.lt; simp; omega), (hres.alloc _).below hb1 (by have := hres.lt; simp; omega), (hb.alloc hb.size _).trans (hb1.mono (by have := hb.size; simp; omega))⟩
          case measure => simp [intOf]; omega
        · have hx1' : 1 ≤ x.n := by omega
          have hno := out_not hx1 hg
          have HD := Lib.hid (decide_eq_false hg)
          clear hg hx1
          have Ha := fun s : Cen => slot5 (s := s) hno
          have Hb := fun s : Cen => slot1 (s := s) hno
          have Hc := fun s : Cen => slot2 (s := s) hno
          have Hd := fun s : Cen => slot3 (s := s) hno
          have He := fun s : Cen => slot4 (s := s) hno
          have H5 := Lib.hid Ha
          have H1 := Lib.hid Hb
          have H2 := Lib.hid Hc
          have H3 := Lib.hid Hd
          have H4 := Lib.hid He
          clear Ha Hb Hc Hd He hno
          go_wp2_with fail
          refine (ints_one A' x.g cap' _ wr.heap.size (by omega) (hA'.below (cba (Below.refl _ _) _)) (by simp) (by simp)).mono ?_
          rintro e w1 ⟨rfl, hb1⟩
          rw [HD.out]
          have hblk1 : Blk w1 (w.heap.size + 1) 103 (cenOf (L.take k)).row := (hblk.alloc _).below hb1 (by have := hblk.lt; simp; omega)
          have hres1 : Blk w1 w.heap.size 103 Cen.zero.row := (hres.alloc _).below hb1 (by have := hres.lt; simp; omega)
          have hbw : Below w.heap.size w w1 := (hb.alloc hb.size _).trans (hb1.mono (by have := hb.size; simp; omega))
          unfold Cen.ok at hok
          obtain ⟨s1, s2, s3, s4, s5, s6, s7, s8, s9, s10⟩ := hok
          obtain ⟨s, hs⟩ : ∃ s, cenOf (L.take k) = s := ⟨_, rfl⟩
          rw [hs] at hblk1 htot HS s1 s2 s3 s4 s5 s6 s7 s8 s9 s10
          clear hs hblk hres g0 g1 hb1
          have q0 : w1.cell? ⟨w.heap.size + 1, 0, none⟩ = some (.int .i64 s.ty) := hblk1.cell 0
          have q1 : w1.cell? ⟨w.heap.size + 1, 1, none⟩ = some (.int .i64 s.tot) := hblk1.cell 1
          have q2 : w1.cell? ⟨w.heap.size + 1, 2, none⟩ = some (.int .i64 s.n1) := hblk1.cell 2
          have q3 : w1.cell? ⟨w.heap.size + 1, 3, none⟩ = some (.int .i64 s.n2) := hblk1.cell 3
          have q4 : w1.cell? ⟨w.heap.size + 1, 4, none⟩ = some (.int .i64 s.n3) := hblk1.cell 4
          have q5 : w1.cell? ⟨w.heap.size + 1, 5, none⟩ = some (.int .i64 s.n4) := hblk1.cell 5
          have f0 := hblk1.frozen 0
          have f1 := hblk1.frozen 1
          have f2 := hblk1.frozen 2
          have f3 := hblk1.frozen 3
          have f4 := hblk1.frozen 4
          have f5 := hblk1.frozen 5
          by_cases h5 : 5 ≤ x.n
          · have HA := Lib.hid (H5.out s h5)
            obtain ⟨N, hN⟩ : ∃ N, x.n = N := ⟨_, rfl⟩
            rw [hN] at h5 hx1' hsum HA ⊢
            clear hN
            go_wp2
            go_roundw
            case rel =>
              have hq := hblk1.rowed (s.ty + 1) (s.tot + N)
              exact ⟨k + 1, by omega, by go_num, by rw [HS.out, HA.out]; exact hq, (hres1.far (p := ⟨w.heap.size + 1, 0, none⟩) (by simp) _).far (p := ⟨w.heap.size + 1, 1, none⟩) (by simp) _, (hbw.setCell (p := ⟨w.heap.size + 1, 0, none⟩) (by simp) _).setCell (p := ⟨w.heap.size + 1, 1, none⟩) (by simp) _⟩
            case measure => simp [intOf]; omega
          · obtain h | h | h | h : x.n = 1 ∨ x.n = 2 ∨ x.n = 3 ∨ x.n = 4 := by omega
            · have HA := Lib.hid (H1.out s h)
              rw [h] at hsum ⊢
              clear h h5 hx1' hr0 hr1
              go_wp2
              go_roundw
              case rel =>
                have hq := (hblk1.rowed (s.ty + 1) (s.tot + 1)).set_ 2 (.int .i64 (s.n1 + 1))
                rw [rows_2] at hq
                exact ⟨k + 1, by omega, by go_num, by rw [HS.out, HA.out]; exact hq, ((hres1.far (p := ⟨w.heap.size + 1, 0, none⟩) (by simp) _).far (p := ⟨w.heap.size + 1, 1, none⟩) (by simp) _).far (p := ⟨w.heap.size + 1, 2, none⟩) (by simp) _, ((hbw.setCell (p := ⟨w.heap.size + 1, 0, none⟩) (by simp) _).setCell (p := ⟨w.heap.size + 1, 1, none⟩) (by simp) _).setCell (p := ⟨w.heap.size + 1, 2, none⟩) (by simp) _⟩
              case measure => simp [intOf]; omega
            · have HA := Lib.hid (H2.out s h)
              rw [h] at hsum ⊢
              clear h h5 hx1' hr0 hr1
              go_wp2
              go_roundw
              case rel =>
                have hq := (hblk1.rowed (s.ty + 1) (s.tot + 2)).set_ 3 (.int .i64 (s.n2 + 1))
                rw [rows_3] at hq
                exact ⟨k + 1, by omega, by go_num, by rw [HS.out, HA.out]; exact hq, ((hres1.far (p := ⟨w.heap.size + 1, 0, none⟩) (by simp) _).far (p := ⟨w.heap.size + 1, 1, none⟩) (by simp) _).far (p := ⟨w.heap.size + 1, 3, none⟩) (by simp) _, ((hbw.setCell (p := ⟨w.heap.size + 1, 0, none⟩) (by simp) _).setCell (p := ⟨w.heap.size + 1, 1, none⟩) (by simp) _).setCell (p := ⟨w.heap.size + 1, 3, none⟩) (by simp) _⟩
              case measure => simp [intOf]; omega
            · have HA := Lib.hid (H3.out s h)
              rw [h] at hsum ⊢
              clear h h5 hx1' hr0 hr1
              go_wp2
              go_roundw
              case rel =>
                have hq := (hblk1.rowed (s.ty + 1) (s.tot + 3)).set_ 4 (.int .i64 (s.n3 + 1))
                rw [rows_4] at hq
                exact ⟨k + 1, by omega, by go_num, by rw [HS.out, HA.out]; exact hq, ((hres1.far (p := ⟨w.heap.size + 1, 0, none⟩) (by simp) _).far (p := ⟨w.heap.size + 1, 1, none⟩) (by simp) _).far (p := ⟨w.heap.size + 1, 4, none⟩) (by simp) _, ((hbw.setCell (p := ⟨w.heap.size + 1, 0, none⟩) (by simp) _).setCell (p := ⟨w.heap.size + 1, 1, none⟩) (by simp) _).setCell (p := ⟨w.heap.size + 1, 4, none⟩) (by simp) _⟩
              case measure => simp [intOf]; omega
            · have HA := Lib.hid (H4.out s h)
              rw [h] at hsum ⊢
              clear h h5 hx1' hr0 hr1
              go_wp2
              go_roundw
              case rel =>
                have hq := (hblk1.rowed (s.ty + 1) (s.tot + 4)).set_ 5 (.int .i64 (s.n4 + 1))
                rw [rows_5] at hq
                exact ⟨k + 1, by omega, by go_num, by rw [HS.out, HA.out]; exact hq, ((hres1.far (p := ⟨w.heap.size + 1, 0, none⟩) (by simp) _).far (p := ⟨w.heap.size + 1, 1, none⟩) (by simp) _).far (p := ⟨w.heap.size + 1, 5, none⟩) (by simp) _, ((hbw.setCell (p := ⟨w.heap.size + 1, 0, none⟩) (by simp) _).setCell (p := ⟨w.heap.size + 1, 1, none⟩) (by simp) _).setCell (p := ⟨w.heap.size + 1, 5, none⟩) (by simp) _⟩
              case measure => simp [intOf]; omega
    · have HT := Lib.hid (List.take_of_length_le (show L.length ≤ k by omega))
      have hblk2 : Blk wr (w.heap.size + 1) 103 (cenOf L).row := by rw [← HT.out]; exact hblk
      have q0 : wr.cell? ⟨w.heap.size + 1, 0, none⟩ = some (.int .i64 (cenOf L).ty) := hblk2.cell 0
      have q1 : wr.cell? ⟨w.heap.size + 1, 1, none⟩ = some (.int .i64 (cenOf L).tot) := hblk2.cell 1
      have q2 : wr.cell? ⟨w.heap.size + 1, 2, none⟩ = some (.int .i64 (cenOf L).n1) := hblk2.cell 2
      have q3 : wr.cell? ⟨w.heap.size + 1, 3, none⟩ = some (.int .i64 (cenOf L).n2) := hblk2.cell 3
      have q4 : wr.cell? ⟨w.heap.size + 1, 4, none⟩ = some (.int .i64 (cenOf L).n3) := hblk2.cell 4
      have q5 : wr.cell? ⟨w.heap.size + 1, 5, none⟩ = some (.int .i64 (cenOf L).n4) := hblk2.cell 5
      have r0 : wr.cell? ⟨w.heap.size, 0, none⟩ = some (.int .i64 0) := hres.cell 0
      have r1 : wr.cell? ⟨w.heap.size, 1, none⟩ = some (.int .i64 0) := hres.cell 1
      have r2 : wr.cell? ⟨w.heap.size, 2, none⟩ = some (.int .i64 0) := hres.cell 2
      have r3 : wr.cell? ⟨w.heap.size, 3, none⟩ = some (.int .i64 0) := hres.cell 3
      have r4 : wr.cell? ⟨w.heap.size, 4, none⟩ = some (.int .i64 0) := hres.cell 4
      have r5 : wr.cell? ⟨w.heap.size, 5, none⟩ = some (.int .i64 0) := hres.cell 5
      have f0 := hres.frozen 0
      have f1 := hres.frozen 1
      have f2 := hres.frozen 2
      have f3 := hres.frozen 3
      have f4 := hres.frozen 4
      have f5 := hres.frozen 5
      clear hc
      go_wp2
      exact bodyPost_ret (v := .agg (cenOf L).row) (by simp [results, Try.results87, go_sem, r0, r1, r2, r3, r4, r5, Cen.row]) rfl ⟨rfl, (((((hb.setCell (Nat.le_refl _) _).setCell (Nat.le_refl _) _).setCell (Nat.le_refl _) _).setCell (Nat.le_refl _) _).setCell (Nat.le_refl _) _).setCell (Nat.le_refl _) _⟩
def smallB (L : List Cnt) (most long : Int) : Bool := decide ((L.length : Int) ≤ most) && L.all (fun x => decide ((x.g.length : Int) ≤ long))
theorem all_take (L : List Cnt) (p : Cnt → Bool) (k : Nat) (h : k < L.length) : (L.take (k + 1)).all p = ((L.take k).all p && p L[k]) := by
  rw [List.take_succ_eq_append_getElem h, List.all_append]; simp
theorem all_not (L : List Cnt) (p : Cnt → Bool) (k : Nat) (h : k < L.length) (hp : p L[k] = false) : L.all p = false := by
  rw [List.all_eq_false]
  exact ⟨L[k], List.getElem_mem h, by simp [hp]⟩
set_option maxHeartbeats 1000000 in
theorem csmall_any (A : Option Addr) (L : List Cnt) (cap : Nat) (most long : Int) (w : World) (hn : L.length ≤ 9223372036854775807) (hc : CntsAt w A L) :
    Calls Try.prog 85 #[.slice A L.length cap, .int .i64 most, .int .i64 long] w fun e w' => e = .returned (.bool (smallB L most long)) ∧ w = w' := by
  by_cases hm : most < (L.length : Int)
  · have HF := Lib.hid (show smallB L most long = false by unfold smallB; rw [decide_eq_false (by omega)]; rfl)
    go_enter Try.func85, Try.ntmps85
    go_wp2
    go_ret
    exact ⟨by rw [HF.out]; rfl, rfl⟩
  · have hm' : (L.length : Int) ≤ most := by omega
    clear hm
    have HF := Lib.hid (show smallB L most long = L.all (fun x => decide ((x.g.length : Int) ≤ long)) by unfold smallB; rw [decide_eq_true hm']; rfl)
    go_enter Try.func85, Try.ntmps85
    go_wp2
    go_loop [7] (fun v7 => ∃ k : Nat, k ≤ L.length ∧ v7 = .int .i64 k ∧ Hid ((L.take k).all (fun x => decide ((x.g.length : Int) ≤ long)) = true)) (fun v7 => L.length - (intOf v7).toNat)
    case atStart => exact ⟨0, Nat.zero_le _, rfl, Lib.hid rfl⟩
    case round =>
      obtain ⟨k, hk, rfl, hall⟩ := hrel
      by_cases hlt : k < L.length
      · obtain ⟨b, o, v, rfl, hbl, hc0, hc1, hv, hr0, hr1⟩ := hc k hlt
        obtain ⟨A', cap', rfl, hla, hma, hA'⟩ := hv
        unfold maxLen at hma
        have HS := Lib.hid (all_take L (fun x => decide ((x.g.length : Int) ≤ long)) k hlt)
        have HNo := Lib.hid (all_not L (fun x => decide ((x.g.length : Int) ≤ long)) k hlt)
        clear hc
        by_cases hx : long < (L[k].g.length : Int)
        · have hF := HNo.out (decide_eq_false (by omega))
          have HF2 := Lib.hid hF
          clear hF HNo
          obtain ⟨n, hn'⟩ : ∃ n, L[k].g.length = n := ⟨_, rfl⟩
          rw [hn'] at hx hc0
          clear hn'
          go_wp2
          go_ret
          exact ⟨by rw [HF.out, HF2.out]; rfl, rfl⟩
        · have HT := Lib.hid (show (L.take (k + 1)).all (fun x => decide ((x.g.length : Int) ≤ long)) = true by rw [HS.out, hall.out, decide_eq_true (show ((L[k].g.length : Int) ≤ long) by omega)]; rfl)
          obtain ⟨n, hn'⟩ : ∃ n, L[k].g.length = n := ⟨_, rfl⟩
          rw [hn'] at hx hc0
          clear hn' HS HNo
          have hx' : (n : Int) ≤ long := by omega
          clear hx
          go_wp2
          go_round
          case rel => exact ⟨k + 1, by omega, by go_num, HT⟩
          case measure => simp [intOf]; omega
      · have HT := Lib.hid (List.take_of_length_le (show L.length ≤ k by omega))
        go_wp2
        go_ret
        exact ⟨by rw [HF.out, ← HT.out, hall.out]; rfl, rfl⟩
theorem mayL_drop (L : List Cnt) (k : Nat) (h : k < L.length) (left : Int) : mayL (L.drop k) left = if left < L[k].n then false else mayL (L.drop (k + 1)) (left - max L[k].n 0) := by
  rw [List.drop_eq_getElem_cons h, mayL]
set_option maxHeartbeats 1000000 in
theorem may_any (A : Option Addr) (L : List Cnt) (cap : Nat) (w : World) (hn : L.length ≤ 9223372036854775807) (hc : CntsAt w A L) :
    Calls Try.prog 86 #[.slice A L.length cap] w fun e w' => e = .returned (.bool (mayB L)) ∧ w = w' := by
  go_enter Try.func86, Try.ntmps86
  go_wp2
  go_loop [3, 4] (fun v3 v4 => ∃ (k : Nat) (left : Int), k ≤ L.length ∧ v4 = .int .i64 k ∧ v3 = .int .i64 left ∧ 0 ≤ left ∧ left ≤ 4611686018427387904 ∧ Hid (mayB L = mayL (L.drop k) left)) (fun _ v4 => L.length - (intOf v4).toNat)
  case atStart => exact ⟨0, _, Nat.zero_le _, rfl, rfl, by omega, by omega, Lib.hid rfl⟩
  case round =>
    obtain ⟨k, left, hk, rfl, rfl, hl0, hl1, hm⟩ := hrel
    by_cases hlt : k < L.length
    · obtain ⟨b, o, v, rfl, hbl, hc0, hc1, hv, hr0, hr1⟩ := hc k hlt
      have HS := Lib.hid (mayL_drop L k hlt left)
      clear hc hc0 hv
      generalize L[k].n = N at *
      by_cases hx : left < N
      · have HF := Lib.hid (show mayB L = false by rw [hm.out, HS.out, if_pos hx])
        go_wp2
        go_ret
        exact ⟨by rw [HF.out]; rfl, rfl⟩
      · have HF := Lib.hid (show mayB L = mayL (L.drop (k + 1)) (left - max N 0) by rw [hm.out, HS.out, if_neg hx])
        have hx' : N ≤ left := by omega
        have HM := Lib.hid (show left - max N 0 = left - if N < 0 then 0 else N by split <;> omega)
        have hmx0 : 0 ≤ left - max N 0 := by omega
        have hmx1 : left - max N 0 ≤ left := by omega
        clear hx
        go_wp2
        go_round
        case rel => exact ⟨k + 1, _, by omega, by go_num, rfl, by first | exact hmx0 | (rw [← HM.out]; omega), by first | omega | (rw [← HM.out]; omega), Lib.hid (by first | exact HF.out | (rw [← HM.out]; exact HF.out))⟩
        case measure => simp [intOf]; omega
    · have HT := Lib.hid (show mayB L = true by rw [hm.out, List.drop_of_length_le (by omega)]; rfl)
      go_wp2
      go_ret
      exact ⟨by rw [HT.out]; rfl, rfl⟩
open Go.ChangeShapes Go.WideShapes Go.Deep Go.RowKit
theorem exists_list {α : Type} (n : Nat) (P : Nat → α → Prop) (h : ∀ i, i < n → ∃ x, P i x) : ∃ L : List α, L.length = n ∧ ∀ i (hi : i < L.length), P i L[i] := by
  induction n with
  | zero => exact ⟨[], rfl, fun i hi => absurd hi (by simp)⟩
  | succ n ih =>
    obtain ⟨L, hl, hL⟩ := ih (fun i hi => h i (by omega))
    obtain ⟨x, hx⟩ := h n (by omega)
    refine ⟨L ++ [x], by simp [hl], fun i hi => ?_⟩
    by_cases hi2 : i < L.length
    · rw [List.getElem_append_left hi2]; exact hL i hi2
    · have : i = n := by simp at hi; omega
      subst this
      subst hl
      simpa using hx
theorem add_plain (b o k : Nat) : (⟨b, o, none⟩ : Addr).add k = ⟨b, o + k, none⟩ := by unfold Addr.add; split <;> simp_all
section
variable {H : Type} {enc : TypeId × Value → H} {P : Program} {w : World} {base : Nat} {spare : Nat → Bool} {held : Bool}
theorem open_slice_fields {t e : TypeId} {fs : Array Field} {fuel : Nat} {cs : List Value} {x : DataW H × List MemPlace} (ht : P.underlying t = some (.slice e)) (he : P.underlying e = some (.struct fs))
    (hone : oneCellFields P fs = true) (hC : P.cellsOf e = fs.size) (h : DataW.trod enc P w base spare held fuel t cs = some x) :
    (cs = [.slice none 0 0] ∧ x = (.nil, [])) ∨
    ∃ (a : Addr) (len cap m : Nat) (D : Nat → DataW H) (Pl : Nat → List MemPlace), cs = [.slice (some a) len cap] ∧ base ≤ a.block ∧ len ≤ cap ∧ cap ≤ maxLen ∧ m = (if spare a.block then cap else len) ∧
      x = (.slice ((List.range len).map D) ((List.range (m - len)).map fun j => D (len + j)), MemPlace.row a (m * fs.size) ++ (List.range m).flatMap Pl) ∧
      ∀ i, i < m → ∃ (ys : List (DataW H × List MemPlace)) (n : Nat), D i = .agg (ys.map (·.1)) ∧ Pl i = ys.flatMap (·.2) ∧ ys.length = fs.size ∧
        ∀ (j : Nat) (f : Field), fs[j]? = some f → ∃ (v : Value) (y : DataW H × List MemPlace), w.cell? (a.add (i * fs.size + j)) = some v ∧ ys[j]? = some y ∧ DataW.trod enc P w base spare held n f.type [v] = some y := by
  rcases open_slice ht h with h0 | ⟨a, len, cap, m, n, D, Pl, hcs, hb, hl, hm, hmm, hx, hi⟩
  · exact .inl h0
  · refine .inr ⟨a, len, cap, m, D, Pl, hcs, hb, hl, hm, hmm, by rw [hC] at hx; exact hx, fun i him => ?_⟩
    obtain ⟨cs', hc, ht'⟩ := hi i him
    rw [hC] at hc
    obtain ⟨ys, n', hn', hy, hlen, hyl, hf⟩ := DataW.trod_struct he ht'
    obtain ⟨_, hcl, hat⟩ := World.cells?_some hc
    simp only [Prod.mk.injEq] at hy
    refine ⟨ys, n', hy.1, hy.2, hyl, fun j f hj => ?_⟩
    obtain ⟨ho, hk⟩ := hone_of hone j f hj
    have hjl : j < fs.size := (Array.getElem?_eq_some_iff.1 hj).1
    have hcell := hat j hjl
    have hv : cs'[j]? = some (cs'[j]'(by omega)) := List.getElem?_eq_getElem (by omega)
    have h1 := hf j f hj
    rw [ho, hk] at h1
    have hone' : (cs'.drop j).take 1 = [cs'[j]'(by omega)] := by
      rw [List.drop_eq_getElem_cons (by omega)]
      rfl
    rw [hone'] at h1
    have hys : ys[j]? = some (ys[j]'(by omega)) := List.getElem?_eq_getElem (by omega)
    refine ⟨_, _, ?_, hys, h1.trans hys⟩
    rw [← Go.Deep.add_add, hcell, hv]
end
section
variable {H : Type} {enc : TypeId × Value → H} {w : World} {base : Nat} {spare : Nat → Bool} {held : Bool}
theorem open_ints_at {fuel : Nat} {v : Value} {x : DataW H × List MemPlace} (h : DataW.trod enc Try.prog w base spare held fuel 35 [v] = some x) : ∃ g, IsInts w v g := by
  have hlt := DataW.trod_lt fuel _ _ _ h
  rcases open_ints Try.underlying35 Try.underlying3 (by kernel_rfl) h with ⟨hcs, _⟩ | ⟨a, l, c, zs, hcs, hx, hl, hm, hz, _, hcell, hwz⟩
  · obtain rfl : v = .slice none 0 0 := by simpa using hcs
    exact ⟨[], none, 0, rfl, Nat.le_refl _, by decide, IntsAt.nil _ _⟩
  · obtain rfl : v = .slice (some a) l c := by simpa using hcs
    have hz' : l ≤ zs.length := by rw [hz]; split <;> omega
    refine ⟨zs.take l, some a, c, by rw [List.length_take, Nat.min_eq_left hz'], by rw [List.length_take]; omega, hm, fun i hi => ?_⟩
    have hil : i < l := by rw [List.length_take] at hi; omega
    have hi' : i < zs.length := by omega
    have h0 := hcell 0 (by omega)
    have hsp : a.spot = none := by
      have := World.cell?_spot h0
      simpa [Addr.add] using this
    obtain ⟨b, o, sp⟩ := a
    simp only at hsp
    subst hsp
    have hc := hcell i hi'
    rw [add_plain] at hc
    refine ⟨b, o, rfl, block_lt_of_cell hc, ?_⟩
    rw [hc]
    simp [List.getD, hi', List.getElem_take]
theorem open_cnts_at {fuel : Nat} {A : Option Addr} {len cap : Nat} {x : DataW H × List MemPlace} (h : DataW.trod enc Try.prog w base spare held fuel 108 [.slice A len cap] = some x) :
    ∃ L : List Cnt, L.length = len ∧ len ≤ cap ∧ cap ≤ maxLen ∧ CntsAt w A L := by
  rcases open_slice_fields Try.underlying108 Try.underlying111 (by kernel_rfl) (by kernel_rfl) h with ⟨hcs, _⟩ | ⟨a, l, c, m, D, Pl, hcs, _, hl, hm, hmm, _, hi⟩
  · simp at hcs
    obtain ⟨rfl, rfl, rfl⟩ := hcs
    exact ⟨[], rfl, Nat.le_refl _, by decide, fun i h => absurd h (by simp)⟩
  · simp at hcs
    obtain ⟨rfl, rfl, rfl⟩ := hcs
    have hlm : len ≤ m := by rw [hmm]; split <;> omega
    have hx : ∀ i, i < len → ∃ x : Cnt, ∃ b o v, some a = some (⟨b, o, none⟩ : Addr) ∧ b < w.heap.size ∧ w.cell? ⟨b, o + i * 2, none⟩ = some v ∧ w.cell? ⟨b, o + i * 2 + 1, none⟩ = some (.int .i64 x.n) ∧ IsInts w v x.g ∧ -9223372036854775808 ≤ x.n ∧ x.n ≤ 9223372036854775807 := by
      intro i hil
      obtain ⟨ys, n, _, _, hyl, hf⟩ := hi i (by omega)
      obtain ⟨v0, y0, hc0, _, ht0⟩ := hf 0 _ rfl
      obtain ⟨v1, y1, hc1, _, ht1⟩ := hf 1 _ rfl
      obtain ⟨g, hg⟩ := open_ints_at ht0
      obtain ⟨k, hk, _, hwf⟩ := DataW.trod_int Try.underlying3 ht1
      obtain rfl : v1 = .int .i64 k := by simpa using hk
      have hs : (Array.size #[({ name := "G", type := 35, offset := 0, embedded := false, tag := "", pkgPath := "", byteOffset := 0 } : Field), { name := "N", type := 3, offset := 1, embedded := false, tag := "", pkgPath := "", byteOffset := 24 }]) = 2 := rfl
      have hc0' : w.cell? (a.add (i * 2)) = some v0 := hc0
      have hc1' : w.cell? (a.add (i * 2 + 1)) = some (.int .i64 k) := hc1
      have hsp : a.spot = none := by
        obtain ⟨ys', n', _, _, _, hf'⟩ := hi 0 (by omega)
        obtain ⟨v0', y0', hc0'', _, _⟩ := hf' 0 _ rfl
        have := World.cell?_spot hc0''
        simpa [Addr.add] using this
      obtain ⟨b, o, sp⟩ := a
      simp only at hsp
      subst hsp
      rw [add_plain] at hc0' hc1'
      unfold Lit.wf at hwf
      rw [Bool.and_eq_true, decide_eq_true_iff, decide_eq_true_iff] at hwf
      have hmin : IntKind.i64.min = -9223372036854775808 := by decide
      have hmax : IntKind.i64.max = 9223372036854775807 := by decide
      rw [hmin, hmax] at hwf
      exact ⟨⟨g, k⟩, b, o, v0, rfl, block_lt_of_cell hc0', hc0', hc1', hg, hwf.1, hwf.2⟩
    obtain ⟨L, hL, hall⟩ := exists_list len _ hx
    exact ⟨L, hL, hl, hm, hall⟩
end
end Go.Proofs.Yteikhnmmkanndaa
namespace Go.Proofs.Yteikhnmmkanndaa
open Go.RowKit Go.Proofs.YteikhnmmkanndaaW.PrintWords
theorem small_len {L : List Cnt} {most long : Int} (h : smallB L most long = true) : (L.length : Int) ≤ most := by
  unfold smallB at h
  rw [Bool.and_eq_true, decide_eq_true_iff] at h
  exact h.1
def Cen.fair (s : Cen) (k : Int) : Prop := 0 ≤ s.n1 ∧ 0 ≤ s.n2 ∧ 0 ≤ s.n3 ∧ 0 ≤ s.n4 ∧ s.n1 + s.n2 + s.n3 + s.n4 ≤ s.ty ∧ s.ty ≤ k ∧ s.n1 + 2 * s.n2 + 3 * (s.ty - s.n1 - s.n2) ≤ s.tot
theorem Cen.fair_add {s : Cen} {k : Int} (h : s.fair k) (x : Cnt) : (s.add x).fair (k + 1) := by
  unfold Cen.fair at h ⊢
  obtain ⟨h1, h2, h3, h4, h5, h6, h7⟩ := h
  by_cases ho : outB x = true
  · rw [Cen.add_out ho]
    exact ⟨h1, h2, h3, h4, h5, by omega, h7⟩
  · rw [Cen.add_in ho]
    have hx : 1 ≤ x.n := by
      by_cases hn : x.n < 1
      · exact absurd (out_small hn) ho
      · omega
    refine ⟨?_, ?_, ?_, ?_, ?_, ?_, ?_⟩ <;> simp only [] <;> (repeat' split) <;> omega
theorem Cen.fair_of (L : List Cnt) : ∀ k, k ≤ L.length → (cenOf (L.take k)).fair k := by
  intro k
  induction k with
  | zero =>
    intro _
    rw [List.take_zero]
    show Cen.zero.fair 0
    unfold Cen.fair Cen.zero
    decide
  | succ k ih =>
    intro hk
    rw [cenOf_take L k (by omega)]
    have := Cen.fair_add (ih (by omega)) L[k]
    exact this
theorem cen_nat (L : List Cnt) : ∃ T t p1 p2 p3 p4 : Nat, cenOf L = ⟨(T : Int), (t : Int), (p1 : Int), (p2 : Int), (p3 : Int), (p4 : Int)⟩ ∧ p1 + p2 + p3 + p4 ≤ T ∧ T ≤ L.length ∧ p1 + 2 * p2 + 3 * (T - p1 - p2) ≤ t ∧ (t : Int) ≤ posSum L := by
  have hf := Cen.fair_of L L.length (Nat.le_refl _)
  rw [List.take_length] at hf
  have ht := cen_tot L
  obtain ⟨s, hs⟩ : ∃ s, cenOf L = s := ⟨_, rfl⟩
  rw [hs] at hf ht ⊢
  obtain ⟨ty, tot, n1, n2, n3, n4⟩ := s
  unfold Cen.fair at hf
  simp only [] at hf ht
  obtain ⟨h1, h2, h3, h4, h5, h6, h7⟩ := hf
  refine ⟨ty.toNat, tot.toNat, n1.toNat, n2.toNat, n3.toNat, n4.toNat, ?_, by omega, by omega, by omega, by omega⟩
  rw [Int.toNat_of_nonneg (by omega), Int.toNat_of_nonneg (by omega), Int.toNat_of_nonneg h1, Int.toNat_of_nonneg h2, Int.toNat_of_nonneg h3, Int.toNat_of_nonneg h4]
theorem rn_le_of {n d k : Nat} (hd : 0 < d) (h : n ≤ k * d) : rn n d ≤ k * rd n d := by
  have e := rn_mul n d
  refine Nat.le_of_mul_le_mul_right (c := d) ?_ hd
  rw [e, Nat.mul_assoc, Nat.mul_comm (rd n d) d, ← Nat.mul_assoc]
  exact Nat.mul_le_mul_right _ h
theorem mulR_le {n k : Nat} {d : Nat × Nat} (hd : 0 < d.2) (h : d.1 ≤ k * d.2) : (mulR (n, 1) d).1 ≤ n * k * (mulR (n, 1) d).2 := by
  unfold mulR
  refine rn_le_of (by rw [Nat.one_mul]; exact hd) ?_
  rw [Nat.one_mul, Nat.mul_assoc]
  exact Nat.mul_le_mul_left n h
theorem addR_le {p q : Nat} {a b : Nat × Nat} (ha : 0 < a.2) (hb : 0 < b.2) (h1 : a.1 ≤ p * a.2) (h2 : b.1 ≤ q * b.2) : (addR a b).1 ≤ (p + q) * (addR a b).2 := by
  unfold addR
  refine rn_le_of (Nat.mul_pos ha hb) ?_
  have e1 : a.1 * b.2 ≤ p * a.2 * b.2 := Nat.mul_le_mul_right _ h1
  have e2 : b.1 * a.2 ≤ q * b.2 * a.2 := Nat.mul_le_mul_right _ h2
  rw [Nat.add_mul, ← Nat.mul_assoc, ← Nat.mul_assoc, Nat.mul_right_comm q a.2 b.2]
  exact Nat.add_le_add e1 e2
theorem gamR_le {p t : Nat} {x : Nat × Nat} (hx : Red x) (h : x.1 ≤ p * x.2) (hp : p ≤ t) : (gamR x t).1 ≤ (gamR x t).2 := by
  unfold gamR
  split
  · exact Nat.le_refl _
  · rename_i ht
    rw [byR_pos (b := (t, 1)) (by show t ≠ 0; omega)]
    unfold divR
    have := rn_le_of (n := x.1 * 1) (d := x.2 * t) (k := 1) (Nat.mul_pos hx.2 (by omega)) (by
      rw [Nat.mul_one, Nat.one_mul, Nat.mul_comm x.2]
      exact Nat.le_trans h (Nat.mul_le_mul_right _ hp))
    rw [Nat.one_mul] at this
    exact this
theorem gamR_sz {x : Nat × Nat} {t : Nat} (hx : Sz 1000 x) (ht : t ≤ 1099511627776) : Sz 1100 (gamR x t) := by
  unfold gamR
  split
  · exact (sz_int (x := 1) (by decide)).mono (by decide)
  · rename_i h0
    rw [byR_pos (b := (t, 1)) (by show t ≠ 0; omega)]
    exact (hx.div (sz_int (x := t) (by omega))).mono (by decide)
theorem gamR_mul {x : Nat × Nat} {t : Nat} (hx : Red x) (ht : 0 < t) : (mulR (gamR x t) (t, 1)).1 * x.2 = x.1 * (mulR (gamR x t) (t, 1)).2 := by
  have e : gamR x t = divR x (t, 1) := by
    unfold gamR
    rw [if_neg (by omega), byR_pos (b := (t, 1)) (by show t ≠ 0; omega)]
  rw [e]
  exact mulR_div hx (red_int t) ht
def leftR (p1 p2 mt : Nat) (d1 d2 d3 : Nat × Nat) : Nat × Nat := addR (addR (mulR (p1, 1) d1) (mulR (p2, 1) d2)) (mulR (mt, 1) d3)
theorem leftR_red {p1 p2 mt : Nat} {d1 d2 d3 : Nat × Nat} (r1 : Red d1) (r2 : Red d2) (r3 : Red d3) : Red (leftR p1 p2 mt d1 d2 d3) := addR_red (addR_red (mulR_red (red_int _) r1) (mulR_red (red_int _) r2)) (mulR_red (red_int _) r3)
theorem leftR_sz {p1 p2 mt : Nat} {d1 d2 d3 : Nat × Nat} (h1 : p1 ≤ 1099511627776) (h2 : p2 ≤ 1099511627776) (h3 : mt ≤ 1099511627776) (s1 : Sz 80 d1) (s2 : Sz 80 d2) (s3 : Sz 80 d3) : Sz 1000 (leftR p1 p2 mt d1 d2 d3) :=
  (((((sz_int (by omega)).mul s1).add ((sz_int (by omega)).mul s2)).add ((sz_int (by omega)).mul s3))).mono (by decide)
theorem leftR_le {p1 p2 mt : Nat} {d1 d2 d3 : Nat × Nat} (r1 : Red d1) (r2 : Red d2) (r3 : Red d3) (l1 : d1.1 ≤ 1 * d1.2) (l2 : d2.1 ≤ 2 * d2.2) (l3 : d3.1 ≤ 3 * d3.2) :
    (leftR p1 p2 mt d1 d2 d3).1 ≤ (p1 * 1 + p2 * 2 + mt * 3) * (leftR p1 p2 mt d1 d2 d3).2 :=
  addR_le (addR_red (mulR_red (red_int _) r1) (mulR_red (red_int _) r2)).2 (mulR_red (red_int _) r3).2 (addR_le (mulR_red (red_int _) r1).2 (mulR_red (red_int _) r2).2 (mulR_le r1.2 l1) (mulR_le r2.2 l2)) (mulR_le r3.2 l3)
end Go.Proofs.Yteikhnmmkanndaa
namespace Go.Proofs.Yteikhnmmkanndaa
open Go.RowKit Go.Proofs.YteikhnmmkanndaaW.PrintWords
set_option linter.unusedSimpArgs false
set_option linter.unusedVariables false
theorem cmp_le0 {x y : Nat} (h : x ≤ y) : ¬ 0 < cmpN x y := by
  rcases Nat.eq_or_lt_of_le h with h | h
  · rw [h, cmpN_self]; decide
  · rw [cmpN_lt h]; decide
end Go.Proofs.Yteikhnmmkanndaa
namespace Go.Proofs.Yteikhnmmkanndaa
open Go.RowKit Go.Proofs.YteikhnmmkanndaaW.PrintWords
set_option linter.unusedSimpArgs false
set_option linter.unusedVariables false
theorem c_small19 {A : Option Addr} {L : List Cnt} {cap : Nat} {b : Bool} {W : World} (hc : CntsAt W A L) (hn : L.length ≤ 9223372036854775807) (hb : smallB L 60 12 = b) : Calls Try.prog 85 #[.slice A L.length cap, .int .i64 60, .int .i64 12] W fun e w' => e = .returned (.bool b) ∧ Below W.heap.size W w' := by
  refine (csmall_any A L cap 60 12 W hn hc).mono ?_
  rintro e w' ⟨rfl, rfl⟩
  rw [hb]
  exact ⟨rfl, Below.refl _ _⟩
theorem c_may19 {A : Option Addr} {L : List Cnt} {cap : Nat} {b : Bool} {W : World} (hc : CntsAt W A L) (hn : L.length ≤ 9223372036854775807) (hb : mayB L = b) : Calls Try.prog 86 #[.slice A L.length cap] W fun e w' => e = .returned (.bool b) ∧ Below W.heap.size W w' := by
  refine (may_any A L cap W hn hc).mono ?_
  rintro e w' ⟨rfl, rfl⟩
  rw [hb]
  exact ⟨rfl, Below.refl _ _⟩
theorem idx103 (a b c d e f : Int) (W : World) : (Instr.index 103 (.agg #[.int .i64 a, .int .i64 b, .int .i64 c, .int .i64 d, .int .i64 e, .int .i64 f]) (.int .i64 1)).run Try.prog W = .ok (.int .i64 b) W := by kernel_rfl
set_option maxRecDepth 100000 in
set_option maxHeartbeats 4000000 in
theorem discountGamma_law (AG0 : Option Addr) (L0 : List Cnt) (cg0 : Nat) (AG1 : Option Addr) (L1 : List Cnt) (cg1 : Nat) (w : World) (hb0 : L0.length ≤ cg0) (hm0 : cg0 ≤ maxLen) (w0 : CntsAt w AG0 L0) (hb1 : L1.length ≤ cg1) (hm1 : cg1 ≤ maxLen) (w1 : CntsAt w AG1 L1) : Calls Try.prog 19 #[.slice AG0 L0.length cg0, .slice AG1 L1.length cg1] w fun e w' => e = .returned (.bool true) ∧ Below w.heap.size w w' := by
  have HL0 := Lib.hid w0
  have HL1 := Lib.hid w1
  unfold maxLen at hm0 hm1
  have hn0 : L0.length ≤ 9223372036854775807 := by omega
  have hn1 : L1.length ≤ 9223372036854775807 := by omega
  clear w0 w1 hb0 hm0 hb1 hm1
  have HLV := Lib.hid live28_any
  have HB0 := Lib.hid (Below.refl w.heap.size w)
  cases hs0 : smallB L0 60 12
  · have HSM0 := Lib.hid (fun W h => c_small19 (A := AG0) (L := L0) (cap := cg0) (W := W) (b := false) h hn0 hs0)
    clear hs0
    go_enter Try.func19, Try.ntmps19
    go_wp2_with fail
    with_reducible refine (HSM0.out _ HL0.out).mono ?_
    rintro e w1 ⟨rfl, hb⟩
    replace HL0 := Lib.hid (HL0.out.below hb)
    replace HL1 := Lib.hid (HL1.out.below hb)
    replace HB0 := Lib.hid (cbt HB0.out hb)
    clear hb
    go_wp2_with fail
    with_reducible refine (HLV.out _).mono ?_
    rintro e w1 ⟨rfl, hb⟩
    replace HL0 := Lib.hid (HL0.out.below hb)
    replace HL1 := Lib.hid (HL1.out.below hb)
    replace HB0 := Lib.hid (cbt HB0.out hb)
    clear hb
    go_wp2_with fail
    go_ret
    exact ⟨rfl, HB0.out⟩
  · cases hs1 : smallB L1 60 12
    · have HSM0 := Lib.hid (fun W h => c_small19 (A := AG0) (L := L0) (cap := cg0) (W := W) (b := true) h hn0 hs0)
      have HSM1 := Lib.hid (fun W h => c_small19 (A := AG1) (L := L1) (cap := cg1) (W := W) (b := false) h hn1 hs1)
      clear hs0 hs1
      go_enter Try.func19, Try.ntmps19
      go_wp2_with fail
      with_reducible refine (HSM0.out _ HL0.out).mono ?_
      rintro e w1 ⟨rfl, hb⟩
      replace HL0 := Lib.hid (HL0.out.below hb)
      replace HL1 := Lib.hid (HL1.out.below hb)
      replace HB0 := Lib.hid (cbt HB0.out hb)
      clear hb
      go_wp2_with fail
      with_reducible refine (HSM1.out _ HL1.out).mono ?_
      rintro e w1 ⟨rfl, hb⟩
      replace HL0 := Lib.hid (HL0.out.below hb)
      replace HL1 := Lib.hid (HL1.out.below hb)
      replace HB0 := Lib.hid (cbt HB0.out hb)
      clear hb
      go_wp2_with fail
      with_reducible refine (HLV.out _).mono ?_
      rintro e w1 ⟨rfl, hb⟩
      replace HL0 := Lib.hid (HL0.out.below hb)
      replace HL1 := Lib.hid (HL1.out.below hb)
      replace HB0 := Lib.hid (cbt HB0.out hb)
      clear hb
      go_wp2_with fail
      go_ret
      exact ⟨rfl, HB0.out⟩
    · have HSM0 := Lib.hid (fun W h => c_small19 (A := AG0) (L := L0) (cap := cg0) (W := W) (b := true) h hn0 hs0)
      have HSM1 := Lib.hid (fun W h => c_small19 (A := AG1) (L := L1) (cap := cg1) (W := W) (b := true) h hn1 hs1)
      have le0 := small_len hs0
      have le1 := small_len hs1
      clear hs0 hs1
      go_enter Try.func19, Try.ntmps19
      go_wp2_with fail
      with_reducible refine (HSM0.out _ HL0.out).mono ?_
      rintro e w1 ⟨rfl, hb⟩
      replace HL0 := Lib.hid (HL0.out.below hb)
      replace HL1 := Lib.hid (HL1.out.below hb)
      replace HB0 := Lib.hid (cbt HB0.out hb)
      clear hb
      go_wp2_with fail
      with_reducible refine (HSM1.out _ HL1.out).mono ?_
      rintro e w1 ⟨rfl, hb⟩
      replace HL0 := Lib.hid (HL0.out.below hb)
      replace HL1 := Lib.hid (HL1.out.below hb)
      replace HB0 := Lib.hid (cbt HB0.out hb)
      clear hb
      go_wp2_with fail
      go_loopw [5, 6] (fun v5 v6 wr => ∃ (k : Nat) (left : Int), k ≤ L1.length ∧ v6 = .int .i64 k ∧ v5 = .int .i64 left ∧ 0 ≤ left ∧ left ≤ 1099511627776 ∧ Hid (mayL L1 1099511627776 = mayL (L1.drop k) left) ∧ Hid (Below w1.heap.size w1 wr)) (fun _ v6 _ => L1.length - (intOf v6).toNat)
      case atStart => exact ⟨0, _, Nat.zero_le _, rfl, rfl, by omega, by omega, Lib.hid rfl, Lib.hid (Below.refl _ _)⟩
      case round =>
        obtain ⟨k, left, hk, rfl, rfl, hl0, hl1, hm, HBW⟩ := hrel
        by_cases hlt : k < L1.length
        · obtain ⟨b, oo, v, hA, hbl, hc0, hc1, hv, hr0, hr1⟩ := (HL1.out.below HBW.out) k hlt
          subst hA
          have HS := Lib.hid (mayL_drop L1 k hlt left)
          clear hc0 hv
          generalize L1[k].n = N at *
          by_cases hx : left < N
          · have dx : decide (left < N) = true := decide_eq_true hx
            clear hx
            go_wp2_with fail
            with_reducible refine (HLV.out _).mono ?_
            rintro e w1 ⟨rfl, hb⟩
            replace HBW := Lib.hid (cbt HBW.out hb)
            clear hb
            go_wp2_with fail
            go_ret
            exact ⟨rfl, cbt HB0.out HBW.out⟩
          · have HF := Lib.hid (show mayL L1 1099511627776 = mayL (L1.drop (k + 1)) (left - max N 0) by rw [hm.out, HS.out, if_neg hx])
            have hx' : N ≤ left := by omega
            have HM := Lib.hid (show left - max N 0 = left - if N < 0 then 0 else N by split <;> omega)
            have hmx0 : 0 ≤ left - max N 0 := by omega
            have hmx1 : left - max N 0 ≤ left := by omega
            clear hx
            go_wp2_with fail
            have hw64 : wrap64 ((k : Int) + 1) = ((k + 1 : Nat) : Int) := by
              rw [Go.IntWalk.wrap64_in _ (by omega)]
              rfl
            go_roundw
            case rel => exact ⟨k + 1, left - max N 0, by omega, by first | rw [hw64] | rfl | go_num, by first | rfl | (rw [HM.out]; rfl) | (rw [Go.IntWalk.wrap64_in _ (by omega)]) | (rw [w64 (by omega) (by omega)]), hmx0, by omega, HF, HBW⟩
            case measure => (first | rw [hw64] | skip) <;> simp [intOf] <;> omega
        · have HF := mayL_sum L1 1099511627776 (by omega) (show mayL L1 1099511627776 = true by rw [hm.out, List.drop_of_length_le (by omega)]; rfl)
          have dlt : decide ((k : Int) < (L1.length : Int)) = false := decide_eq_false (by omega)
          clear hm hl0 hl1 HSM0 HSM1
          replace HL0 := Lib.hid (HL0.out.below HBW.out)
          replace HL1 := Lib.hid (HL1.out.below HBW.out)
          replace HB0 := Lib.hid (cbt HB0.out HBW.out)
          clear HBW
          cases hma : mayB L0
          · have HMA := Lib.hid (fun W h => c_may19 (A := AG0) (L := L0) (cap := cg0) (W := W) (b := false) h hn0 hma)
            clear hma
            go_wp2_with fail
            with_reducible refine (HMA.out _ HL0.out).mono ?_
            rintro e w1 ⟨rfl, hb⟩
            replace HL0 := Lib.hid (HL0.out.below hb)
            replace HL1 := Lib.hid (HL1.out.below hb)
            replace HB0 := Lib.hid (cbt HB0.out hb)
            clear hb
            go_wp2_with fail
            with_reducible refine (HLV.out _).mono ?_
            rintro e w1 ⟨rfl, hb⟩
            replace HL0 := Lib.hid (HL0.out.below hb)
            replace HL1 := Lib.hid (HL1.out.below hb)
            replace HB0 := Lib.hid (cbt HB0.out hb)
            clear hb
            go_wp2_with fail
            go_ret
            exact ⟨rfl, HB0.out⟩
          · have HMA := Lib.hid (fun W h => c_may19 (A := AG0) (L := L0) (cap := cg0) (W := W) (b := true) h hn0 hma)
            have hps : posSum L0 ≤ 4611686018427387904 := mayL_sum L0 _ (by omega) hma
            clear hma
            obtain ⟨T0, t0, pa1, pa2, pa3, pa4, hcen0, hsum0, hty0, hle0, htot0⟩ := cen_nat L0
            have HCO0 : Hid (∀ W, CntsAt W AG0 L0 → Calls Try.prog 88 #[.slice AG0 L0.length cg0] W fun e w' => e = .returned (.agg #[.int .i64 (T0 : Int), .int .i64 (t0 : Int), .int .i64 0, .int .i64 (pa1 : Int), .int .i64 (pa2 : Int), .int .i64 (pa3 : Int), .int .i64 (pa4 : Int)]) ∧ Below W.heap.size W w') := Lib.hid (fun W h => by
              have := cof_any AG0 L0 cg0 W (by omega) h hps
              rw [hcen0] at this
              exact this)
            have HCR0 : Hid (∀ W, CntsAt W AG0 L0 → Calls Try.prog 87 #[.slice AG0 L0.length cg0] W fun e w' => e = .returned (.agg #[.int .i64 (T0 : Int), .int .i64 (t0 : Int), .int .i64 (pa1 : Int), .int .i64 (pa2 : Int), .int .i64 (pa3 : Int), .int .i64 (pa4 : Int)]) ∧ Below W.heap.size W w') := Lib.hid (fun W h => by
              have := crof_any AG0 L0 cg0 W (by omega) h hps
              rw [hcen0] at this
              exact this)
            obtain ⟨T1, t1, pb1, pb2, pb3, pb4, hcen1, hsum1, hty1, hle1, htot1⟩ := cen_nat L1
            have HCO1 : Hid (∀ W, CntsAt W AG1 L1 → Calls Try.prog 88 #[.slice AG1 L1.length cg1] W fun e w' => e = .returned (.agg #[.int .i64 (T1 : Int), .int .i64 (t1 : Int), .int .i64 0, .int .i64 (pb1 : Int), .int .i64 (pb2 : Int), .int .i64 (pb3 : Int), .int .i64 (pb4 : Int)]) ∧ Below W.heap.size W w') := Lib.hid (fun W h => by
              have := cof_any AG1 L1 cg1 W (by omega) h (by omega)
              rw [hcen1] at this
              exact this)
            have HCR1 : Hid (∀ W, CntsAt W AG1 L1 → Calls Try.prog 87 #[.slice AG1 L1.length cg1] W fun e w' => e = .returned (.agg #[.int .i64 (T1 : Int), .int .i64 (t1 : Int), .int .i64 (pb1 : Int), .int .i64 (pb2 : Int), .int .i64 (pb3 : Int), .int .i64 (pb4 : Int)]) ∧ Below W.heap.size W w') := Lib.hid (fun W h => by
              have := crof_any AG1 L1 cg1 W (by omega) h (by omega)
              rw [hcen1] at this
              exact this)
            clear hcen0 hcen1
            have hidx := idx103 (T0 : Int) (t0 : Int) (pa1 : Int) (pa2 : Int) (pa3 : Int) (pa4 : Int)
            go_wp2_with fail
            with_reducible refine (HMA.out _ HL0.out).mono ?_
            rintro e w1 ⟨rfl, hb⟩
            replace HL0 := Lib.hid (HL0.out.below hb)
            replace HL1 := Lib.hid (HL1.out.below hb)
            replace HB0 := Lib.hid (cbt HB0.out hb)
            clear hb
            go_wp2_with fail
            with_reducible refine (HCR0.out _ HL0.out).mono ?_
            rintro e w1 ⟨rfl, hb⟩
            replace HL0 := Lib.hid (HL0.out.below hb)
            replace HL1 := Lib.hid (HL1.out.below hb)
            replace HB0 := Lib.hid (cbt HB0.out hb)
            clear hb
            by_cases ht0 : t0 ≤ 1099511627776
            · have dt : decide (1099511627776 < (t0 : Int)) = false := decide_eq_false (by omega)
              have ht1 : t1 ≤ 1099511627776 := by omega
              have le0' : L0.length ≤ 60 := by omega
              have le1' : L1.length ≤ 60 := by omega
              have z0 : Sz 80 (0, 1) := Sz.zero.mono (by decide)
              have r1 := dNum_red pa1 pa2 1 pa1 pa2
              have s1 := dNum_sz (m1 := pa1) (m2 := pa2) (k := 1) (mk := pa1) (ml := pa2) (by omega) (by omega) (by omega) (by omega) (by decide)
              have l1 := dNum_le pa1 pa2 1 pa1 pa2
              have r2 := dNum_red pa1 pa2 2 pa2 pa3
              have s2 := dNum_sz (m1 := pa1) (m2 := pa2) (k := 2) (mk := pa2) (ml := pa3) (by omega) (by omega) (by omega) (by omega) (by decide)
              have l2 := dNum_le pa1 pa2 2 pa2 pa3
              have r3 := dNum_red pa1 pa2 3 pa3 pa4
              have s3 := dNum_sz (m1 := pa1) (m2 := pa2) (k := 3) (mk := pa3) (ml := pa4) (by omega) (by omega) (by omega) (by omega) (by decide)
              have l3 := dNum_le pa1 pa2 3 pa3 pa4
              have HDO := Lib.hid (fun W => dof_any (T0 : Int) (t0 : Int) 0 (pa1 : Int) (pa2 : Int) (pa3 : Int) (pa4 : Int) pa1 pa2 pa3 pa4 (by omega) (by omega) (by omega) (by omega) (by omega) (by omega) (by omega) (by omega) W)
              have HRO := Lib.hid (fun W => rdof_any (T0 : Int) (t0 : Int) pa1 pa2 pa3 pa4 (by omega) (by omega) (by omega) (by omega) W)
              generalize (dNum pa1 pa2 1 pa1 pa2) = d1 at *
              generalize (dNum pa1 pa2 2 pa2 pa3) = d2 at *
              generalize (dNum pa1 pa2 3 pa3 pa4) = d3 at *
              have HGA0 : Hid (∀ v W, SetF W v (0, 1) d1 d2 d3 → Calls Try.prog 89 #[v, .agg #[.int .i64 (T0 : Int), .int .i64 (t0 : Int), .int .i64 0, .int .i64 (pa1 : Int), .int .i64 (pa2 : Int), .int .i64 (pa3 : Int), .int .i64 (pa4 : Int)]] W (MkF W (gamR (leftR pa1 pa2 (T0 - pa1 - pa2) d1 d2 d3) t0).1 (gamR (leftR pa1 pa2 (T0 - pa1 - pa2) d1 d2 d3) t0).2)) := Lib.hid (fun v W h => gamma_any (T0 : Int) (t0 : Int) 0 (pa1 : Int) (pa2 : Int) (pa3 : Int) (pa4 : Int) (0, 1) d1 d2 d3 pa1 pa2 (T0 - pa1 - pa2) t0 v W (by omega) (by omega) (by omega) (by omega) (by omega) (by omega) (by omega) (by omega) (by omega) r1 r2 r3 s1 s2 s3 (by omega) (by omega) h)
              have rx0 := leftR_red (p1 := pa1) (p2 := pa2) (mt := T0 - pa1 - pa2) r1 r2 r3
              have sx0 := leftR_sz (p1 := pa1) (p2 := pa2) (mt := T0 - pa1 - pa2) (by omega) (by omega) (by omega) s1 s2 s3
              have hg0 := gamR_le (t := t0) rx0 (leftR_le (p1 := pa1) (p2 := pa2) (mt := T0 - pa1 - pa2) r1 r2 r3 l1 l2 l3) (by omega)
              generalize leftR pa1 pa2 (T0 - pa1 - pa2) d1 d2 d3 = y0 at *
              have HGA1 : Hid (∀ v W, SetF W v (0, 1) d1 d2 d3 → Calls Try.prog 89 #[v, .agg #[.int .i64 (T1 : Int), .int .i64 (t1 : Int), .int .i64 0, .int .i64 (pb1 : Int), .int .i64 (pb2 : Int), .int .i64 (pb3 : Int), .int .i64 (pb4 : Int)]] W (MkF W (gamR (leftR pb1 pb2 (T1 - pb1 - pb2) d1 d2 d3) t1).1 (gamR (leftR pb1 pb2 (T1 - pb1 - pb2) d1 d2 d3) t1).2)) := Lib.hid (fun v W h => gamma_any (T1 : Int) (t1 : Int) 0 (pb1 : Int) (pb2 : Int) (pb3 : Int) (pb4 : Int) (0, 1) d1 d2 d3 pb1 pb2 (T1 - pb1 - pb2) t1 v W (by omega) (by omega) (by omega) (by omega) (by omega) (by omega) (by omega) (by omega) (by omega) r1 r2 r3 s1 s2 s3 (by omega) (by omega) h)
              have rx1 := leftR_red (p1 := pb1) (p2 := pb2) (mt := T1 - pb1 - pb2) r1 r2 r3
              have sx1 := leftR_sz (p1 := pb1) (p2 := pb2) (mt := T1 - pb1 - pb2) (by omega) (by omega) (by omega) s1 s2 s3
              have HLF : Hid (∀ v W, SetF W v (0, 1) d1 d2 d3 → Calls Try.prog 91 #[v, .agg #[.int .i64 (T1 : Int), .int .i64 (t1 : Int), .int .i64 0, .int .i64 (pb1 : Int), .int .i64 (pb2 : Int), .int .i64 (pb3 : Int), .int .i64 (pb4 : Int)]] W (MkF W (leftR pb1 pb2 (T1 - pb1 - pb2) d1 d2 d3).1 (leftR pb1 pb2 (T1 - pb1 - pb2) d1 d2 d3).2)) := Lib.hid (fun v W h => left_any (T1 : Int) (t1 : Int) 0 (pb1 : Int) (pb2 : Int) (pb3 : Int) (pb4 : Int) (0, 1) d1 d2 d3 pb1 pb2 (T1 - pb1 - pb2) v W (by omega) (by omega) (by omega) (by omega) (by omega) (by omega) (by omega) (by omega) (by omega) r1 r2 r3 s1 s2 s3 h)
              have HRG : Hid (∀ v W, SetR W v (0, 1) d1 d2 d3 → Calls Try.prog 90 #[v, .agg #[.int .i64 (T1 : Int), .int .i64 (t1 : Int), .int .i64 (pb1 : Int), .int .i64 (pb2 : Int), .int .i64 (pb3 : Int), .int .i64 (pb4 : Int)]] W (MkR W (gamR (leftR pb1 pb2 (T1 - pb1 - pb2) d1 d2 d3) t1).1 (gamR (leftR pb1 pb2 (T1 - pb1 - pb2) d1 d2 d3) t1).2)) := Lib.hid (fun v W h => rgamma_any (T1 : Int) t1 pb1 pb2 pb3 pb4 (T1 - pb1 - pb2) (0, 1) d1 d2 d3 v W (by omega) (by omega) (by omega) (by omega) (by omega) r1 r2 r3 s1 s2 s3 h)
              generalize leftR pb1 pb2 (T1 - pb1 - pb2) d1 d2 d3 = y1 at *
              have sg0 := gamR_sz sx0 ht0
              have sg1 := gamR_sz sx1 ht1
              generalize hge0 : gamR y0 t0 = gm0 at *
              have HIS := Lib.hid (fun va vb W h1 h2 => c_is (a := gamR y1 t1) (va := va) (vb := vb) (W := W) (B := 1100) (by decide) sg1 h1 h2)
              have HCM : Hid (∀ va vb W, F64 W va gm0.1 gm0.2 → F64 W vb 1 1 → Calls Try.prog 44 #[va, vb] W fun x w' => x = .returned (.int .i64 (cmpN (gm0.1 * 1) (1 * gm0.2))) ∧ Below W.heap.size W w') := Lib.hid (fun va vb W h1 h2 => c_cmp (a := gm0) (b := (1, 1)) (B := 1100) (by decide) sg0 ((sz_int (x := 1) (by decide)).mono (by decide)) h1 h2)
              have HNC : Hid (decide (0 < cmpN (gm0.1 * 1) (1 * gm0.2)) = false) := Lib.hid (decide_eq_false (cmp_le0 (by rw [Nat.mul_one, Nat.one_mul]; exact hg0)))
              generalize cmpN (gm0.1 * 1) (1 * gm0.2) = cc at *
              have HI1 : Hid (∀ W, Calls Try.prog 74 #[.int .u64 1] W (MkF W 1 1)) := Lib.hid (fun W => rint_any 1 (by decide) W)
              have HIT := Lib.hid (fun W => rint_any t1 (Nat.lt_of_le_of_lt ht1 (by decide)) W)
              have HMU : Hid (∀ va vb W, F64 W va (gamR y1 t1).1 (gamR y1 t1).2 → F64 W vb t1 1 → Calls Try.prog 43 #[va, vb] W (MkF W (mulR (gamR y1 t1) (t1, 1)).1 (mulR (gamR y1 t1) (t1, 1)).2)) := Lib.hid (fun va vb W h1 h2 => c_mul (b := (t1, 1)) (B := 1100) (by decide) sg1 ((sz_int (x := t1) (by omega)).mono (by decide)) h1 h2)
              have HCE := Lib.hid (fun (ht : 0 < t1) va vb W h1 h2 => c_cmpeq (a := mulR (gamR y1 t1) (t1, 1)) (b := y1) (va := va) (vb := vb) (W := W) (B := 2000) (by decide) ((sg1.mul (sz_int (x := t1) (by omega))).mono (by decide)) (sx1.mono (by decide)) (gamR_mul rx1 ht) h1 h2)
              generalize gamR y1 t1 = gm1 at *
              generalize mulR gm1 (t1, 1) = um at *
              have HT1 := Lib.hid ht1
              clear sg0 sg1 hge0 hg0 rx0 rx1 sx0 sx1 r1 r2 r3 s1 s2 s3 l1 l2 l3 z0 hsum0 hty0 hle0 htot0 hsum1 hty1 hle1 htot1 hps HF le0 le1 le0' le1' ht0 ht1 hn0 hn1
              go_wp2_with fail
              with_reducible refine (HCR0.out _ HL0.out).mono ?_
              rintro e w1 ⟨rfl, hb⟩
              replace HL0 := Lib.hid (HL0.out.below hb)
              replace HL1 := Lib.hid (HL1.out.below hb)
              replace HB0 := Lib.hid (cbt HB0.out hb)
              clear hb
              go_wp2_with fail
              with_reducible refine (HCR1.out _ HL1.out).mono ?_
              rintro e w1 ⟨rfl, hb⟩
              replace HL0 := Lib.hid (HL0.out.below hb)
              replace HL1 := Lib.hid (HL1.out.below hb)
              replace HB0 := Lib.hid (cbt HB0.out hb)
              clear hb
              have e7 := (Blk.new w1 103 #[.int .i64 (T0 : Int), .int .i64 (t0 : Int), .int .i64 (pa1 : Int), .int .i64 (pa2 : Int), .int .i64 (pa3 : Int), .int .i64 (pa4 : Int)]).alloc (.cells #[.int .i64 (T1 : Int), .int .i64 (t1 : Int), .int .i64 (pb1 : Int), .int .i64 (pb2 : Int), .int .i64 (pb3 : Int), .int .i64 (pb4 : Int)] 103)
              have e8 := Blk.new (w1.alloc (.cells #[.int .i64 (T0 : Int), .int .i64 (t0 : Int), .int .i64 (pa1 : Int), .int .i64 (pa2 : Int), .int .i64 (pa3 : Int), .int .i64 (pa4 : Int)] 103)) 103 #[.int .i64 (T1 : Int), .int .i64 (t1 : Int), .int .i64 (pb1 : Int), .int .i64 (pb2 : Int), .int .i64 (pb3 : Int), .int .i64 (pb4 : Int)]
              have hb := cba (cba (Below.refl _ w1) (.cells #[.int .i64 (T0 : Int), .int .i64 (t0 : Int), .int .i64 (pa1 : Int), .int .i64 (pa2 : Int), .int .i64 (pa3 : Int), .int .i64 (pa4 : Int)] 103)) (.cells #[.int .i64 (T1 : Int), .int .i64 (t1 : Int), .int .i64 (pb1 : Int), .int .i64 (pb2 : Int), .int .i64 (pb3 : Int), .int .i64 (pb4 : Int)] 103)
              simp only [World.size_alloc] at e8
              go_upto_region 13 with (fail)
              obtain ⟨X, hX⟩ : ∃ X, (w1.alloc (.cells #[.int .i64 (T0 : Int), .int .i64 (t0 : Int), .int .i64 (pa1 : Int), .int .i64 (pa2 : Int), .int .i64 (pa3 : Int), .int .i64 (pa4 : Int)] 103)).alloc (.cells #[.int .i64 (T1 : Int), .int .i64 (t1 : Int), .int .i64 (pb1 : Int), .int .i64 (pb2 : Int), .int .i64 (pb3 : Int), .int .i64 (pb4 : Int)] 103) = X := ⟨_, rfl⟩
              rw [hX] at e7 e8 hb ⊢
              obtain ⟨g7, hg⟩ : ∃ g, w1.heap.size = g := ⟨_, rfl⟩
              rw [hg] at e7 e8
              simp only [hg]
              have E7 := Lib.hid e7
              have E8 := Lib.hid e8
              replace HL0 := Lib.hid (HL0.out.below hb)
              replace HL1 := Lib.hid (HL1.out.below hb)
              replace HB0 := Lib.hid (cbt HB0.out hb)
              clear hX hg hb e7 e8
              have k_E7_0 := E7.out.cell 0
              have k_E7_1 := E7.out.cell 1
              have k_E7_2 := E7.out.cell 2
              have k_E7_3 := E7.out.cell 3
              have k_E7_4 := E7.out.cell 4
              have k_E7_5 := E7.out.cell 5
              have k_E8_0 := E8.out.cell 0
              have k_E8_1 := E8.out.cell 1
              have k_E8_2 := E8.out.cell 2
              have k_E8_3 := E8.out.cell 3
              have k_E8_4 := E8.out.cell 4
              have k_E8_5 := E8.out.cell 5
              go_wp2_with fail
              with_reducible refine (HCO0.out _ HL0.out).mono ?_
              rintro e w2 ⟨rfl, hb⟩
              clear k_E7_0 k_E7_1 k_E7_2 k_E7_3 k_E7_4 k_E7_5 k_E8_0 k_E8_1 k_E8_2 k_E8_3 k_E8_4 k_E8_5
              replace HL0 := Lib.hid (HL0.out.below hb)
              replace HL1 := Lib.hid (HL1.out.below hb)
              replace E7 := Lib.hid (blk_below E7.out hb)
              replace E8 := Lib.hid (blk_below E8.out hb)
              replace HB0 := Lib.hid (cbt HB0.out hb)
              clear hb
              have k_E7_0 := E7.out.cell 0
              have k_E7_1 := E7.out.cell 1
              have k_E7_2 := E7.out.cell 2
              have k_E7_3 := E7.out.cell 3
              have k_E7_4 := E7.out.cell 4
              have k_E7_5 := E7.out.cell 5
              have k_E8_0 := E8.out.cell 0
              have k_E8_1 := E8.out.cell 1
              have k_E8_2 := E8.out.cell 2
              have k_E8_3 := E8.out.cell 3
              have k_E8_4 := E8.out.cell 4
              have k_E8_5 := E8.out.cell 5
              go_wp2_with fail
              with_reducible refine (HDO.out _).mono ?_
              rintro e w3 ⟨v9, rfl, hu, hb⟩
              clear k_E7_0 k_E7_1 k_E7_2 k_E7_3 k_E7_4 k_E7_5 k_E8_0 k_E8_1 k_E8_2 k_E8_3 k_E8_4 k_E8_5
              replace HL0 := Lib.hid (HL0.out.below hb)
              replace HL1 := Lib.hid (HL1.out.below hb)
              replace E7 := Lib.hid (blk_below E7.out hb)
              replace E8 := Lib.hid (blk_below E8.out hb)
              replace HB0 := Lib.hid (cbt HB0.out hb)
              clear hb
              have k_E7_0 := E7.out.cell 0
              have k_E7_1 := E7.out.cell 1
              have k_E7_2 := E7.out.cell 2
              have k_E7_3 := E7.out.cell 3
              have k_E7_4 := E7.out.cell 4
              have k_E7_5 := E7.out.cell 5
              have k_E8_0 := E8.out.cell 0
              have k_E8_1 := E8.out.cell 1
              have k_E8_2 := E8.out.cell 2
              have k_E8_3 := E8.out.cell 3
              have k_E8_4 := E8.out.cell 4
              have k_E8_5 := E8.out.cell 5
              obtain ⟨A0, p0, c0, B0, q0, u0, A1, p1, c1, B1, q1, u1, A2, p2, c2, B2, q2, u2, A3, p3, c3, B3, q3, u3, rfl, hs0, hs1, hs2, hs3⟩ := hu
              have F0 := Lib.hid hs0
              have F1 := Lib.hid hs1
              have F2 := Lib.hid hs2
              have F3 := Lib.hid hs3
              clear hs0 hs1 hs2 hs3
              have e9 := Blk.new w3 99 #[.slice A0 p0 c0, .slice B0 q0 u0, .slice A1 p1 c1, .slice B1 q1 u1, .slice A2 p2 c2, .slice B2 q2 u2, .slice A3 p3 c3, .slice B3 q3 u3]
              have hb := cba (Below.refl _ w3) (.cells #[.slice A0 p0 c0, .slice B0 q0 u0, .slice A1 p1 c1, .slice B1 q1 u1, .slice A2 p2 c2, .slice B2 q2 u2, .slice A3 p3 c3, .slice B3 q3 u3] 99)
              go_upto_region 14 with (fail)
              obtain ⟨Y, hX⟩ : ∃ X, w3.alloc (.cells #[.slice A0 p0 c0, .slice B0 q0 u0, .slice A1 p1 c1, .slice B1 q1 u1, .slice A2 p2 c2, .slice B2 q2 u2, .slice A3 p3 c3, .slice B3 q3 u3] 99) = X := ⟨_, rfl⟩
              rw [hX] at e9 hb ⊢
              obtain ⟨g9, hg⟩ : ∃ g, w3.heap.size = g := ⟨_, rfl⟩
              rw [hg] at e9
              simp only [hg]
              replace HL0 := Lib.hid (HL0.out.below hb)
              replace HL1 := Lib.hid (HL1.out.below hb)
              replace F0 := Lib.hid (F0.out.below hb)
              replace F1 := Lib.hid (F1.out.below hb)
              replace F2 := Lib.hid (F2.out.below hb)
              replace F3 := Lib.hid (F3.out.below hb)
              replace E7 := Lib.hid (blk_below E7.out hb)
              replace E8 := Lib.hid (blk_below E8.out hb)
              replace HB0 := Lib.hid (cbt HB0.out hb)
              have E9 := Lib.hid e9
              clear hX hg hb e9 k_E7_0 k_E7_1 k_E7_2 k_E7_3 k_E7_4 k_E7_5 k_E8_0 k_E8_1 k_E8_2 k_E8_3 k_E8_4 k_E8_5
              have HSV := Lib.hid (show SetF Y (.agg #[.slice A0 p0 c0, .slice B0 q0 u0, .slice A1 p1 c1, .slice B1 q1 u1, .slice A2 p2 c2, .slice B2 q2 u2, .slice A3 p3 c3, .slice B3 q3 u3]) (0, 1) d1 d2 d3 from ⟨_, _, _, _, _, _, _, _, _, _, _, _, _, _, _, _, _, _, _, _, _, _, _, _, rfl, F0.out, F1.out, F2.out, F3.out⟩)
              go_wp2_with fail
              let FS : List Kept1 := [.setF ((0, 1)) (d1) (d2) (d3), .eq (.slice AG1 L1.length cg1), .eq (.agg #[.int .i64 (T1 : Int), .int .i64 (t1 : Int), .int .i64 0, .int .i64 (pb1 : Int), .int .i64 (pb2 : Int), .int .i64 (pb3 : Int), .int .i64 (pb4 : Int)]), .f (gm1.1) (gm1.2), .any, .any]
              let BS : List Bx := [Bx.rat (.inl 4) 5 #[.slice none 0 0, .slice none 0 0] (gm1.1) (gm1.2)]
              refine region_mono (Held Y (fun j => FS.getD j .any) BS) (by kernel_rfl) (by kernel_rfl) (by kernel_rfl) (Held.start _ _ _ (by simp [BS, Bx.nat, Bx.rat, Bx.ref, Bx.part]) (by simp [BS, Bx.nat, Bx.rat, Bx.ref, Bx.part])) ?_
              refine Steps.held ?_ ?_
              · intro L v w' hJ
                have kb := hJ.out.blk E9.out (by simp [oldsOf, BS, Bx.nat, Bx.rat, Bx.ref, Bx.part])
                have k0 := kb.cell 0
                have k1 := kb.cell 1
                have k2 := kb.cell 2
                have k3 := kb.cell 3
                have k4 := kb.cell 4
                have k5 := kb.cell 5
                have k6 := kb.cell 6
                have k7 := kb.cell 7
                clear kb
                go_wp2_with fail
                exact ⟨rfl, rfl, hJ.out.same (by rfl) (setF_keep HSV.out hJ.out.held.keep)⟩
              simp only [Act.put, List.setIfInBounds_toArray, List.set_cons_zero, List.set_cons_succ, Nat.reduceAdd]
              refine Steps.held ?_ ?_
              · intro L v w' hJ
                go_wp2_with fail
                exact ⟨rfl, rfl, hJ.out.same (by rfl) (rfl)⟩
              simp only [Act.put, List.setIfInBounds_toArray, List.set_cons_zero, List.set_cons_succ, Nat.reduceAdd]
              refine Steps.held ?_ ?_
              · intro L v w' hJ
                have hbz := hJ.out.held.but.below
                have hv1 : v 1 = .slice AG1 L1.length cg1 := hJ.out.fact 1 (by kernel_rfl)
                simp only [hv1]
                clear hv1
                go_wp2_with fail
                with_reducible refine (HCO1.out _ (HL1.out.below hbz)).mono ?_
                rintro e w1 ⟨rfl, hb⟩
                go_wp2_with fail
                exact ⟨rfl, rfl, hJ.out.call (by rfl) hb (rfl)⟩
              simp only [Act.put, List.setIfInBounds_toArray, List.set_cons_zero, List.set_cons_succ, Nat.reduceAdd]
              refine Steps.held ?_ ?_
              · intro L v w' hJ
                have hv2 : v 2 = .agg #[.int .i64 (T1 : Int), .int .i64 (t1 : Int), .int .i64 0, .int .i64 (pb1 : Int), .int .i64 (pb2 : Int), .int .i64 (pb3 : Int), .int .i64 (pb4 : Int)] := hJ.out.fact 2 (by kernel_rfl)
                simp only [hv2]
                clear hv2
                have X0 := Lib.hid (show SetF w' (v 0) ((0, 1)) (d1) (d2) (d3) from hJ.out.fact 0 (by kernel_rfl))
                go_wp2_with fail
                with_reducible refine (HGA1.out _ _ X0.out).mono ?_
                rintro e w1 ⟨u, rfl, hu, hb⟩
                go_wp2_with fail
                exact ⟨rfl, rfl, hJ.out.call (by rfl) hb (hu)⟩
              simp only [Act.put, List.setIfInBounds_toArray, List.set_cons_zero, List.set_cons_succ, Nat.reduceAdd]
              refine Steps.held ?_ ?_
              · intro L v w' hJ
                go_wp2_with fail
                exact ⟨rfl, rfl, hJ.out.made 0 _ rfl rfl (by rfl) trivial⟩
              simp only [Act.put, List.setIfInBounds_toArray, List.set_cons_zero, List.set_cons_succ, Nat.reduceAdd]
              refine Steps.held ?_ ?_
              · intro L v w' hJ
                obtain ⟨g, hg, hge, hown, hst⟩ := hJ.out.newbox 0 _ rfl 4 rfl (by kernel_rfl)
                have hN : F64 w' (v 3) (gm1.1) (gm1.2) := hJ.out.fact 3 (by kernel_rfl)
                obtain ⟨A1, p1, c1, B1, q1, e1, x1, hv, h1, h2, h3⟩ := hN
                have HN := Lib.hid (show F64 w' (.agg #[.slice A1 p1 c1, .slice B1 q1 e1]) (gm1.1) (gm1.2) from ⟨A1, p1, c1, B1, q1, e1, x1, rfl, h1, h2, h3⟩)
                have kb := hJ.out.box 0 _ rfl rfl g hown
                have k0 : w'.cell? ⟨g, 0, none⟩ = some (.slice none 0 0) := kb.cell 0
                have k1 : w'.cell? ⟨g, 1, none⟩ = some (.slice none 0 0) := kb.cell 1
                have f0 := kb.frozen 0
                have f1 := kb.frozen 1
                have HO := Lib.hid hown
                have HS := Lib.hid hst
                clear kb h1 h2 h3 hown hst
                simp only [hg, hv]
                clear hg hv
                go_wp2_with fail
                exact ⟨rfl, rfl, hJ.out.fill2 0 _ rfl rfl (by rfl) g HO.out HS.out _ _ rfl rfl rfl (fun W k => HN.out.keep k) (fun _ => trivial)⟩
              simp only [Act.put, List.setIfInBounds_toArray, List.set_cons_zero, List.set_cons_succ, Nat.reduceAdd]
              refine Steps.nil ?_
              intro v w' hJ
              obtain ⟨g10, cs4, hv4, hge4, hb4, hf4⟩ := hJ.end_new 0 _ rfl 4 rfl (by decide) (Nat.le_of_ble_eq_true rfl)
              have hfx : F64 w' (.agg cs4) gm1.1 gm1.2 := hf4
              obtain ⟨A4, p4, c4, B4, q4, e4, x4, hcs4, h1, h2, h3⟩ := hfx
              have hcs4' := Value.agg.inj hcs4
              subst hcs4'
              simp only [hv4]
              have E10 := Lib.hid (show Blk w' g10 47 #[.slice A4 p4 c4, .slice B4 q4 e4] from hb4)
              have NE10 := Lib.hid (show F64 w' (.agg #[.slice A4 p4 c4, .slice B4 q4 e4]) gm1.1 gm1.2 from hf4)
              clear hv4 hb4 hf4 hcs4 h1 h2
              have hbr := hJ.but.below
              replace HL0 := Lib.hid (HL0.out.below hbr)
              replace HL1 := Lib.hid (HL1.out.below hbr)
              replace F0 := Lib.hid (F0.out.below hbr)
              replace F1 := Lib.hid (F1.out.below hbr)
              replace F2 := Lib.hid (F2.out.below hbr)
              replace F3 := Lib.hid (F3.out.below hbr)
              replace E7 := Lib.hid (blk_below E7.out hbr)
              replace E8 := Lib.hid (blk_below E8.out hbr)
              replace E9 := Lib.hid (blk_below E9.out hbr)
              replace HB0 := Lib.hid (cbt HB0.out hbr)
              clear hJ hbr HSV
              have k_E7_0 := E7.out.cell 0
              have k_E7_1 := E7.out.cell 1
              have k_E7_2 := E7.out.cell 2
              have k_E7_3 := E7.out.cell 3
              have k_E7_4 := E7.out.cell 4
              have k_E7_5 := E7.out.cell 5
              have k_E8_0 := E8.out.cell 0
              have k_E8_1 := E8.out.cell 1
              have k_E8_2 := E8.out.cell 2
              have k_E8_3 := E8.out.cell 3
              have k_E8_4 := E8.out.cell 4
              have k_E8_5 := E8.out.cell 5
              have k_E9_0 := E9.out.cell 0
              have k_E9_1 := E9.out.cell 1
              have k_E9_2 := E9.out.cell 2
              have k_E9_3 := E9.out.cell 3
              have k_E9_4 := E9.out.cell 4
              have k_E9_5 := E9.out.cell 5
              have k_E9_6 := E9.out.cell 6
              have k_E9_7 := E9.out.cell 7
              have k_E10_0 := E10.out.cell 0
              have k_E10_1 := E10.out.cell 1
              go_wp2_with fail
              go_wp2_with fail
              with_reducible refine (HRO.out _).mono ?_
              rintro e w5 ⟨v9, rfl, hu, hb⟩
              clear k_E7_0 k_E7_1 k_E7_2 k_E7_3 k_E7_4 k_E7_5 k_E8_0 k_E8_1 k_E8_2 k_E8_3 k_E8_4 k_E8_5 k_E9_0 k_E9_1 k_E9_2 k_E9_3 k_E9_4 k_E9_5 k_E9_6 k_E9_7 k_E10_0 k_E10_1
              replace HL0 := Lib.hid (HL0.out.below hb)
              replace HL1 := Lib.hid (HL1.out.below hb)
              replace F0 := Lib.hid (F0.out.below hb)
              replace F1 := Lib.hid (F1.out.below hb)
              replace F2 := Lib.hid (F2.out.below hb)
              replace F3 := Lib.hid (F3.out.below hb)
              replace NE10 := Lib.hid (NE10.out.below hb)
              replace E7 := Lib.hid (blk_below E7.out hb)
              replace E8 := Lib.hid (blk_below E8.out hb)
              replace E9 := Lib.hid (blk_below E9.out hb)
              replace E10 := Lib.hid (blk_below E10.out hb)
              replace HB0 := Lib.hid (cbt HB0.out hb)
              clear hb
              have k_E7_0 := E7.out.cell 0
              have k_E7_1 := E7.out.cell 1
              have k_E7_2 := E7.out.cell 2
              have k_E7_3 := E7.out.cell 3
              have k_E7_4 := E7.out.cell 4
              have k_E7_5 := E7.out.cell 5
              have k_E8_0 := E8.out.cell 0
              have k_E8_1 := E8.out.cell 1
              have k_E8_2 := E8.out.cell 2
              have k_E8_3 := E8.out.cell 3
              have k_E8_4 := E8.out.cell 4
              have k_E8_5 := E8.out.cell 5
              have k_E9_0 := E9.out.cell 0
              have k_E9_1 := E9.out.cell 1
              have k_E9_2 := E9.out.cell 2
              have k_E9_3 := E9.out.cell 3
              have k_E9_4 := E9.out.cell 4
              have k_E9_5 := E9.out.cell 5
              have k_E9_6 := E9.out.cell 6
              have k_E9_7 := E9.out.cell 7
              have k_E10_0 := E10.out.cell 0
              have k_E10_1 := E10.out.cell 1
              obtain ⟨AR0, pR0, cR0, BR0, qR0, uR0, AR1, pR1, cR1, BR1, qR1, uR1, AR2, pR2, cR2, BR2, qR2, uR2, AR3, pR3, cR3, BR3, qR3, uR3, rfl, hs0, hs1, hs2, hs3⟩ := hu
              have Q0 := Lib.hid hs0
              have Q1 := Lib.hid hs1
              have Q2 := Lib.hid hs2
              have Q3 := Lib.hid hs3
              clear hs0 hs1 hs2 hs3
              have e9 := Blk.new w5 101 #[.slice AR0 pR0 cR0, .slice BR0 qR0 uR0, .slice AR1 pR1 cR1, .slice BR1 qR1 uR1, .slice AR2 pR2 cR2, .slice BR2 qR2 uR2, .slice AR3 pR3 cR3, .slice BR3 qR3 uR3]
              have hb := cba (Below.refl _ w5) (.cells #[.slice AR0 pR0 cR0, .slice BR0 qR0 uR0, .slice AR1 pR1 cR1, .slice BR1 qR1 uR1, .slice AR2 pR2 cR2, .slice BR2 qR2 uR2, .slice AR3 pR3 cR3, .slice BR3 qR3 uR3] 101)
              go_upto_region 16 with (fail)
              obtain ⟨Z, hX⟩ : ∃ X, w5.alloc (.cells #[.slice AR0 pR0 cR0, .slice BR0 qR0 uR0, .slice AR1 pR1 cR1, .slice BR1 qR1 uR1, .slice AR2 pR2 cR2, .slice BR2 qR2 uR2, .slice AR3 pR3 cR3, .slice BR3 qR3 uR3] 101) = X := ⟨_, rfl⟩
              rw [hX] at e9 hb ⊢
              obtain ⟨g11, hg⟩ : ∃ g, w5.heap.size = g := ⟨_, rfl⟩
              rw [hg] at e9
              simp only [hg]
              replace HL0 := Lib.hid (HL0.out.below hb)
              replace HL1 := Lib.hid (HL1.out.below hb)
              replace F0 := Lib.hid (F0.out.below hb)
              replace F1 := Lib.hid (F1.out.below hb)
              replace F2 := Lib.hid (F2.out.below hb)
              replace F3 := Lib.hid (F3.out.below hb)
              replace NE10 := Lib.hid (NE10.out.below hb)
              replace Q0 := Lib.hid (Q0.out.below hb)
              replace Q1 := Lib.hid (Q1.out.below hb)
              replace Q2 := Lib.hid (Q2.out.below hb)
              replace Q3 := Lib.hid (Q3.out.below hb)
              replace E7 := Lib.hid (blk_below E7.out hb)
              replace E8 := Lib.hid (blk_below E8.out hb)
              replace E9 := Lib.hid (blk_below E9.out hb)
              replace E10 := Lib.hid (blk_below E10.out hb)
              replace HB0 := Lib.hid (cbt HB0.out hb)
              have E11 := Lib.hid e9
              clear hX hg hb e9 k_E7_0 k_E7_1 k_E7_2 k_E7_3 k_E7_4 k_E7_5 k_E8_0 k_E8_1 k_E8_2 k_E8_3 k_E8_4 k_E8_5 k_E9_0 k_E9_1 k_E9_2 k_E9_3 k_E9_4 k_E9_5 k_E9_6 k_E9_7 k_E10_0 k_E10_1
              have HSV := Lib.hid (show SetF Z (.agg #[.slice A0 p0 c0, .slice B0 q0 u0, .slice A1 p1 c1, .slice B1 q1 u1, .slice A2 p2 c2, .slice B2 q2 u2, .slice A3 p3 c3, .slice B3 q3 u3]) (0, 1) d1 d2 d3 from ⟨_, _, _, _, _, _, _, _, _, _, _, _, _, _, _, _, _, _, _, _, _, _, _, _, rfl, F0.out, F1.out, F2.out, F3.out⟩)
              have HRV := Lib.hid (show SetR Z (.agg #[.slice AR0 pR0 cR0, .slice BR0 qR0 uR0, .slice AR1 pR1 cR1, .slice BR1 qR1 uR1, .slice AR2 pR2 cR2, .slice BR2 qR2 uR2, .slice AR3 pR3 cR3, .slice BR3 qR3 uR3]) (0, 1) d1 d2 d3 from ⟨_, _, _, _, _, _, _, _, _, _, _, _, _, _, _, _, _, _, _, _, _, _, _, _, rfl, Q0.out, Q1.out, Q2.out, Q3.out⟩)
              clear F0 F1 F2 F3 Q0 Q1 Q2 Q3
              have hnc := HNC.out
              go_wp2_with fail
              let FS : List Kept1 := [.f (gm1.1) (gm1.2), .setR ((0, 1)) (d1) (d2) (d3), .eq (.agg #[.int .i64 (T1 : Int), .int .i64 (t1 : Int), .int .i64 (pb1 : Int), .int .i64 (pb2 : Int), .int .i64 (pb3 : Int), .int .i64 (pb4 : Int)]), .rf (gm1.1) (gm1.2), .eq (.bool true), .eq (.bool false), .eq (.bool false), .setF ((0, 1)) (d1) (d2) (d3), .eq (.slice AG0 L0.length cg0), .eq (.agg #[.int .i64 (T0 : Int), .int .i64 (t0 : Int), .int .i64 0, .int .i64 (pa1 : Int), .int .i64 (pa2 : Int), .int .i64 (pa3 : Int), .int .i64 (pa4 : Int)]), .f (gm0.1) (gm0.2), .f (1) (1), .eq (.int .i64 cc), .eq (.bool false), .eq (.bool false)]
              refine region_mono (Held Z (fun j => FS.getD j .any) []) (by kernel_rfl) (by kernel_rfl) (by kernel_rfl) (Held.start _ _ _ (by simp) (by simp)) ?_
              refine Steps.held ?_ ?_
              · intro L v w' hJ
                have kb := hJ.out.blk E10.out (by simp [oldsOf])
                have k0 := kb.cell 0
                have k1 := kb.cell 1
                clear kb
                go_wp2_with fail
                exact ⟨rfl, rfl, hJ.out.same (by rfl) (NE10.out.keep hJ.out.held.keep)⟩
              simp only [Act.put, List.setIfInBounds_toArray, List.set_cons_zero, List.set_cons_succ, Nat.reduceAdd]
              refine Steps.held ?_ ?_
              · intro L v w' hJ
                have kb := hJ.out.blk E11.out (by simp [oldsOf])
                have k0 := kb.cell 0
                have k1 := kb.cell 1
                have k2 := kb.cell 2
                have k3 := kb.cell 3
                have k4 := kb.cell 4
                have k5 := kb.cell 5
                have k6 := kb.cell 6
                have k7 := kb.cell 7
                clear kb
                go_wp2_with fail
                exact ⟨rfl, rfl, hJ.out.same (by rfl) (setR_keep HRV.out hJ.out.held.keep)⟩
              simp only [Act.put, List.setIfInBounds_toArray, List.set_cons_zero, List.set_cons_succ, Nat.reduceAdd]
              refine Steps.held ?_ ?_
              · intro L v w' hJ
                have kb := hJ.out.blk E8.out (by simp [oldsOf])
                have k0 := kb.cell 0
                have k1 := kb.cell 1
                have k2 := kb.cell 2
                have k3 := kb.cell 3
                have k4 := kb.cell 4
                have k5 := kb.cell 5
                clear kb
                go_wp2_with fail
                exact ⟨rfl, rfl, hJ.out.same (by rfl) (rfl)⟩
              simp only [Act.put, List.setIfInBounds_toArray, List.set_cons_zero, List.set_cons_succ, Nat.reduceAdd]
              refine Steps.held ?_ ?_
              · intro L v w' hJ
                have hv2 : v 2 = .agg #[.int .i64 (T1 : Int), .int .i64 (t1 : Int), .int .i64 (pb1 : Int), .int .i64 (pb2 : Int), .int .i64 (pb3 : Int), .int .i64 (pb4 : Int)] := hJ.out.fact 2 (by kernel_rfl)
                simp only [hv2]
                clear hv2
                have X0 := Lib.hid (show SetR w' (v 1) ((0, 1)) (d1) (d2) (d3) from hJ.out.fact 1 (by kernel_rfl))
                go_wp2_with fail
                with_reducible refine (HRG.out _ _ X0.out).mono ?_
                rintro e w1 ⟨u, rfl, hu, hb⟩
                go_wp2_with fail
                exact ⟨rfl, rfl, hJ.out.call (by rfl) hb (hu)⟩
              simp only [Act.put, List.setIfInBounds_toArray, List.set_cons_zero, List.set_cons_succ, Nat.reduceAdd]
              refine Steps.held ?_ ?_
              · intro L v w' hJ
                have X0 := Lib.hid (show F64 w' (v 0) (gm1.1) (gm1.2) from hJ.out.fact 0 (by kernel_rfl))
                have X1 := Lib.hid (show RF w' (v 3) (gm1.1) (gm1.2) from hJ.out.fact 3 (by kernel_rfl))
                go_wp2_with fail
                with_reducible refine (HIS.out _ _ _ X0.out X1.out).mono ?_
                rintro e w1 ⟨rfl, hb⟩
                go_wp2_with fail
                exact ⟨rfl, rfl, hJ.out.call (by rfl) hb (rfl)⟩
              simp only [Act.put, List.setIfInBounds_toArray, List.set_cons_zero, List.set_cons_succ, Nat.reduceAdd]
              refine Steps.held ?_ ?_
              · intro L v w' hJ
                have hv4 : v 4 = .bool true := hJ.out.fact 4 (by kernel_rfl)
                simp only [hv4]
                clear hv4
                go_wp2_with fail
                exact ⟨rfl, rfl, hJ.out.same (by rfl) (rfl)⟩
              simp only [Act.put, List.setIfInBounds_toArray, List.set_cons_zero, List.set_cons_succ, Nat.reduceAdd]
              refine Steps.held ?_ ?_
              · intro L v w' hJ
                have hv5 : v 5 = .bool false := hJ.out.fact 5 (by kernel_rfl)
                simp only [hv5]
                clear hv5
                go_wp2_with fail
                exact ⟨rfl, rfl, hJ.out.same (by rfl) (rfl)⟩
              simp only [Act.put, List.setIfInBounds_toArray, List.set_cons_zero, List.set_cons_succ, Nat.reduceAdd]
              refine Steps.held ?_ ?_
              · intro L v w' hJ
                have hv6 : v 6 = .bool false := hJ.out.fact 6 (by kernel_rfl)
                simp only [hv6]
                clear hv6
                have kb := hJ.out.blk E9.out (by simp [oldsOf])
                have k0 := kb.cell 0
                have k1 := kb.cell 1
                have k2 := kb.cell 2
                have k3 := kb.cell 3
                have k4 := kb.cell 4
                have k5 := kb.cell 5
                have k6 := kb.cell 6
                have k7 := kb.cell 7
                clear kb
                go_wp2_with fail
                exact ⟨rfl, rfl, hJ.out.same (by rfl) (setF_keep HSV.out hJ.out.held.keep)⟩
              simp only [Act.put, List.setIfInBounds_toArray, List.set_cons_zero, List.set_cons_succ, Nat.reduceAdd]
              refine Steps.held ?_ ?_
              · intro L v w' hJ
                have hv6 : v 6 = .bool false := hJ.out.fact 6 (by kernel_rfl)
                simp only [hv6]
                clear hv6
                go_wp2_with fail
                exact ⟨rfl, rfl, hJ.out.same (by rfl) (rfl)⟩
              simp only [Act.put, List.setIfInBounds_toArray, List.set_cons_zero, List.set_cons_succ, Nat.reduceAdd]
              refine Steps.held ?_ ?_
              · intro L v w' hJ
                have hbz := hJ.out.held.but.below
                have hv8 : v 8 = .slice AG0 L0.length cg0 := hJ.out.fact 8 (by kernel_rfl)
                simp only [hv8]
                clear hv8
                have hv6 : v 6 = .bool false := hJ.out.fact 6 (by kernel_rfl)
                simp only [hv6]
                clear hv6
                go_wp2_with fail
                with_reducible refine (HCO0.out _ (HL0.out.below hbz)).mono ?_
                rintro e w1 ⟨rfl, hb⟩
                go_wp2_with fail
                exact ⟨rfl, rfl, hJ.out.call (by rfl) hb (rfl)⟩
              simp only [Act.put, List.setIfInBounds_toArray, List.set_cons_zero, List.set_cons_succ, Nat.reduceAdd]
              refine Steps.held ?_ ?_
              · intro L v w' hJ
                have hv9 : v 9 = .agg #[.int .i64 (T0 : Int), .int .i64 (t0 : Int), .int .i64 0, .int .i64 (pa1 : Int), .int .i64 (pa2 : Int), .int .i64 (pa3 : Int), .int .i64 (pa4 : Int)] := hJ.out.fact 9 (by kernel_rfl)
                simp only [hv9]
                clear hv9
                have hv6 : v 6 = .bool false := hJ.out.fact 6 (by kernel_rfl)
                simp only [hv6]
                clear hv6
                have X0 := Lib.hid (show SetF w' (v 7) ((0, 1)) (d1) (d2) (d3) from hJ.out.fact 7 (by kernel_rfl))
                go_wp2_with fail
                with_reducible refine (HGA0.out _ _ X0.out).mono ?_
                rintro e w1 ⟨u, rfl, hu, hb⟩
                go_wp2_with fail
                exact ⟨rfl, rfl, hJ.out.call (by rfl) hb (hu)⟩
              simp only [Act.put, List.setIfInBounds_toArray, List.set_cons_zero, List.set_cons_succ, Nat.reduceAdd]
              refine Steps.held ?_ ?_
              · intro L v w' hJ
                have hv6 : v 6 = .bool false := hJ.out.fact 6 (by kernel_rfl)
                simp only [hv6]
                clear hv6
                go_wp2_with fail
                with_reducible refine (HI1.out _).mono ?_
                rintro e w1 ⟨u, rfl, hu, hb⟩
                go_wp2_with fail
                exact ⟨rfl, rfl, hJ.out.call (by rfl) hb (hu)⟩
              simp only [Act.put, List.setIfInBounds_toArray, List.set_cons_zero, List.set_cons_succ, Nat.reduceAdd]
              refine Steps.held ?_ ?_
              · intro L v w' hJ
                have hv6 : v 6 = .bool false := hJ.out.fact 6 (by kernel_rfl)
                simp only [hv6]
                clear hv6
                have X0 := Lib.hid (show F64 w' (v 10) (gm0.1) (gm0.2) from hJ.out.fact 10 (by kernel_rfl))
                have X1 := Lib.hid (show F64 w' (v 11) (1) (1) from hJ.out.fact 11 (by kernel_rfl))
                go_wp2_with fail
                with_reducible refine (HCM.out _ _ _ X0.out X1.out).mono ?_
                rintro e w1 ⟨rfl, hb⟩
                go_wp2_with fail
                exact ⟨rfl, rfl, hJ.out.call (by rfl) hb (rfl)⟩
              simp only [Act.put, List.setIfInBounds_toArray, List.set_cons_zero, List.set_cons_succ, Nat.reduceAdd]
              refine Steps.held ?_ ?_
              · intro L v w' hJ
                have hv12 : v 12 = .int .i64 cc := hJ.out.fact 12 (by kernel_rfl)
                simp only [hv12]
                clear hv12
                have hv6 : v 6 = .bool false := hJ.out.fact 6 (by kernel_rfl)
                simp only [hv6]
                clear hv6
                go_wp2_with fail
                exact ⟨rfl, rfl, hJ.out.same (by rfl) (rfl)⟩
              simp only [Act.put, List.setIfInBounds_toArray, List.set_cons_zero, List.set_cons_succ, Nat.reduceAdd]
              refine Steps.held ?_ ?_
              · intro L v w' hJ
                have hv6 : v 6 = .bool false := hJ.out.fact 6 (by kernel_rfl)
                simp only [hv6]
                clear hv6
                have hv13 : v 13 = .bool false := hJ.out.fact 13 (by kernel_rfl)
                simp only [hv13]
                clear hv13
                go_wp2_with fail
                exact ⟨rfl, rfl, hJ.out.same (by rfl) (rfl)⟩
              simp only [Act.put, List.setIfInBounds_toArray, List.set_cons_zero, List.set_cons_succ, Nat.reduceAdd]
              refine Steps.nil ?_
              intro v w' hJ
              have h14 : v 14 = .bool false := hJ.end_fact 14 (by decide)
              have hbr := hJ.but.below
              replace HL0 := Lib.hid (HL0.out.below hbr)
              replace HL1 := Lib.hid (HL1.out.below hbr)
              replace NE10 := Lib.hid (NE10.out.below hbr)
              replace HSV := Lib.hid (setF_keep HSV.out (Keep.of_below hbr))
              replace E8 := Lib.hid (blk_below E8.out hbr)
              replace E9 := Lib.hid (blk_below E9.out hbr)
              replace E10 := Lib.hid (blk_below E10.out hbr)
              replace HB0 := Lib.hid (cbt HB0.out hbr)
              clear hJ hbr HRV hnc E7 E11
              simp only [h14]
              clear h14
              by_cases hz : t1 < 1
              · have dz : decide ((t1 : Int) < 1) = true := decide_eq_true (by omega)
                clear hz
                go_wp2_with fail
                let FS : List Kept1 := [.eq (.pointer (some ⟨(g7 + 1), 1, none⟩)), .eq (.int .i64 (t1 : Int)), .eq (.bool true), .eq (.bool true), .eq (undef), .eq (undef), .eq (undef), .eq (undef), .eq (undef), .eq (undef), .eq (undef), .eq (undef), .eq (undef), .eq (undef), .eq (undef), .eq (undef), .eq (.bool true), .eq (.bool true), .eq (.bool true), .eq (.bool true), .eq (.bool true)]
                refine region_mono (Held w' (fun j => FS.getD j .any) []) (by kernel_rfl) (by kernel_rfl) (by kernel_rfl) (Held.start _ _ _ (by simp) (by simp)) ?_
                refine Steps.held ?_ ?_
                · intro L v w' hJ
                  go_wp2_with fail
                  exact ⟨rfl, rfl, hJ.out.same (by rfl) (rfl)⟩
                simp only [Act.put, List.setIfInBounds_toArray, List.set_cons_zero, List.set_cons_succ, Nat.reduceAdd]
                refine Steps.held ?_ ?_
                · intro L v w' hJ
                  have hv0 : v 0 = .pointer (some ⟨(g7 + 1), 1, none⟩) := hJ.out.fact 0 (by kernel_rfl)
                  simp only [hv0]
                  clear hv0
                  have kb := hJ.out.blk E8.out (by simp [oldsOf])
                  have k0 := kb.cell 0
                  have k1 := kb.cell 1
                  have k2 := kb.cell 2
                  have k3 := kb.cell 3
                  have k4 := kb.cell 4
                  have k5 := kb.cell 5
                  clear kb
                  go_wp2_with fail
                  exact ⟨rfl, rfl, hJ.out.same (by rfl) (rfl)⟩
                simp only [Act.put, List.setIfInBounds_toArray, List.set_cons_zero, List.set_cons_succ, Nat.reduceAdd]
                refine Steps.held ?_ ?_
                · intro L v w' hJ
                  have hv1 : v 1 = .int .i64 (t1 : Int) := hJ.out.fact 1 (by kernel_rfl)
                  simp only [hv1]
                  clear hv1
                  go_wp2_with fail
                  exact ⟨rfl, rfl, hJ.out.same (by rfl) (rfl)⟩
                simp only [Act.put, List.setIfInBounds_toArray, List.set_cons_zero, List.set_cons_succ, Nat.reduceAdd]
                refine Steps.held ?_ ?_
                · intro L v w' hJ
                  have hv2 : v 2 = .bool true := hJ.out.fact 2 (by kernel_rfl)
                  simp only [hv2]
                  clear hv2
                  go_wp2_with fail
                  exact ⟨rfl, rfl, hJ.out.same (by rfl) (rfl)⟩
                simp only [Act.put, List.setIfInBounds_toArray, List.set_cons_zero, List.set_cons_succ, Nat.reduceAdd]
                refine Steps.held ?_ ?_
                · intro L v w' hJ
                  have hv3 : v 3 = .bool true := hJ.out.fact 3 (by kernel_rfl)
                  simp only [hv3]
                  clear hv3
                  go_wp2_with fail
                  exact ⟨rfl, rfl, hJ.out.same (by rfl) (rfl)⟩
                simp only [Act.put, List.setIfInBounds_toArray, List.set_cons_zero, List.set_cons_succ, Nat.reduceAdd]
                refine Steps.held ?_ ?_
                · intro L v w' hJ
                  have hv3 : v 3 = .bool true := hJ.out.fact 3 (by kernel_rfl)
                  simp only [hv3]
                  clear hv3
                  go_wp2_with fail
                  exact ⟨rfl, rfl, hJ.out.same (by rfl) (rfl)⟩
                simp only [Act.put, List.setIfInBounds_toArray, List.set_cons_zero, List.set_cons_succ, Nat.reduceAdd]
                refine Steps.held ?_ ?_
                · intro L v w' hJ
                  have hv3 : v 3 = .bool true := hJ.out.fact 3 (by kernel_rfl)
                  simp only [hv3]
                  clear hv3
                  go_wp2_with fail
                  exact ⟨rfl, rfl, hJ.out.same (by rfl) (rfl)⟩
                simp only [Act.put, List.setIfInBounds_toArray, List.set_cons_zero, List.set_cons_succ, Nat.reduceAdd]
                refine Steps.held ?_ ?_
                · intro L v w' hJ
                  have hv3 : v 3 = .bool true := hJ.out.fact 3 (by kernel_rfl)
                  simp only [hv3]
                  clear hv3
                  go_wp2_with fail
                  exact ⟨rfl, rfl, hJ.out.same (by rfl) (rfl)⟩
                simp only [Act.put, List.setIfInBounds_toArray, List.set_cons_zero, List.set_cons_succ, Nat.reduceAdd]
                refine Steps.held ?_ ?_
                · intro L v w' hJ
                  have hv3 : v 3 = .bool true := hJ.out.fact 3 (by kernel_rfl)
                  simp only [hv3]
                  clear hv3
                  go_wp2_with fail
                  exact ⟨rfl, rfl, hJ.out.same (by rfl) (rfl)⟩
                simp only [Act.put, List.setIfInBounds_toArray, List.set_cons_zero, List.set_cons_succ, Nat.reduceAdd]
                refine Steps.held ?_ ?_
                · intro L v w' hJ
                  have hv3 : v 3 = .bool true := hJ.out.fact 3 (by kernel_rfl)
                  simp only [hv3]
                  clear hv3
                  go_wp2_with fail
                  exact ⟨rfl, rfl, hJ.out.same (by rfl) (rfl)⟩
                simp only [Act.put, List.setIfInBounds_toArray, List.set_cons_zero, List.set_cons_succ, Nat.reduceAdd]
                refine Steps.held ?_ ?_
                · intro L v w' hJ
                  have hv3 : v 3 = .bool true := hJ.out.fact 3 (by kernel_rfl)
                  simp only [hv3]
                  clear hv3
                  go_wp2_with fail
                  exact ⟨rfl, rfl, hJ.out.same (by rfl) (rfl)⟩
                simp only [Act.put, List.setIfInBounds_toArray, List.set_cons_zero, List.set_cons_succ, Nat.reduceAdd]
                refine Steps.held ?_ ?_
                · intro L v w' hJ
                  have hv3 : v 3 = .bool true := hJ.out.fact 3 (by kernel_rfl)
                  simp only [hv3]
                  clear hv3
                  go_wp2_with fail
                  exact ⟨rfl, rfl, hJ.out.same (by rfl) (rfl)⟩
                simp only [Act.put, List.setIfInBounds_toArray, List.set_cons_zero, List.set_cons_succ, Nat.reduceAdd]
                refine Steps.held ?_ ?_
                · intro L v w' hJ
                  have hv3 : v 3 = .bool true := hJ.out.fact 3 (by kernel_rfl)
                  simp only [hv3]
                  clear hv3
                  go_wp2_with fail
                  exact ⟨rfl, rfl, hJ.out.same (by rfl) (rfl)⟩
                simp only [Act.put, List.setIfInBounds_toArray, List.set_cons_zero, List.set_cons_succ, Nat.reduceAdd]
                refine Steps.held ?_ ?_
                · intro L v w' hJ
                  have hv3 : v 3 = .bool true := hJ.out.fact 3 (by kernel_rfl)
                  simp only [hv3]
                  clear hv3
                  go_wp2_with fail
                  exact ⟨rfl, rfl, hJ.out.same (by rfl) (rfl)⟩
                simp only [Act.put, List.setIfInBounds_toArray, List.set_cons_zero, List.set_cons_succ, Nat.reduceAdd]
                refine Steps.held ?_ ?_
                · intro L v w' hJ
                  have hv3 : v 3 = .bool true := hJ.out.fact 3 (by kernel_rfl)
                  simp only [hv3]
                  clear hv3
                  go_wp2_with fail
                  exact ⟨rfl, rfl, hJ.out.same (by rfl) (rfl)⟩
                simp only [Act.put, List.setIfInBounds_toArray, List.set_cons_zero, List.set_cons_succ, Nat.reduceAdd]
                refine Steps.held ?_ ?_
                · intro L v w' hJ
                  have hv3 : v 3 = .bool true := hJ.out.fact 3 (by kernel_rfl)
                  simp only [hv3]
                  clear hv3
                  go_wp2_with fail
                  exact ⟨rfl, rfl, hJ.out.same (by rfl) (rfl)⟩
                simp only [Act.put, List.setIfInBounds_toArray, List.set_cons_zero, List.set_cons_succ, Nat.reduceAdd]
                refine Steps.held ?_ ?_
                · intro L v w' hJ
                  have hv3 : v 3 = .bool true := hJ.out.fact 3 (by kernel_rfl)
                  simp only [hv3]
                  clear hv3
                  go_wp2_with fail
                  exact ⟨rfl, rfl, hJ.out.same (by rfl) (rfl)⟩
                simp only [Act.put, List.setIfInBounds_toArray, List.set_cons_zero, List.set_cons_succ, Nat.reduceAdd]
                refine Steps.held ?_ ?_
                · intro L v w' hJ
                  have hv16 : v 16 = .bool true := hJ.out.fact 16 (by kernel_rfl)
                  simp only [hv16]
                  clear hv16
                  go_wp2_with fail
                  exact ⟨rfl, rfl, hJ.out.same (by rfl) (rfl)⟩
                simp only [Act.put, List.setIfInBounds_toArray, List.set_cons_zero, List.set_cons_succ, Nat.reduceAdd]
                refine Steps.held ?_ ?_
                · intro L v w' hJ
                  have hv17 : v 17 = .bool true := hJ.out.fact 17 (by kernel_rfl)
                  simp only [hv17]
                  clear hv17
                  go_wp2_with fail
                  with_reducible refine (HLV.out _).mono ?_
                  rintro e w1 ⟨rfl, hb⟩
                  go_wp2_with fail
                  exact ⟨rfl, rfl, hJ.out.call (by rfl) hb (rfl)⟩
                simp only [Act.put, List.setIfInBounds_toArray, List.set_cons_zero, List.set_cons_succ, Nat.reduceAdd]
                refine Steps.held ?_ ?_
                · intro L v w' hJ
                  have hv17 : v 17 = .bool true := hJ.out.fact 17 (by kernel_rfl)
                  simp only [hv17]
                  clear hv17
                  have hv18 : v 18 = .bool true := hJ.out.fact 18 (by kernel_rfl)
                  simp only [hv18]
                  clear hv18
                  go_wp2_with fail
                  exact ⟨rfl, rfl, hJ.out.same (by rfl) (rfl)⟩
                simp only [Act.put, List.setIfInBounds_toArray, List.set_cons_zero, List.set_cons_succ, Nat.reduceAdd]
                refine Steps.held ?_ ?_
                · intro L v w' hJ
                  have hv19 : v 19 = .bool true := hJ.out.fact 19 (by kernel_rfl)
                  simp only [hv19]
                  clear hv19
                  go_wp2_with fail
                  exact ⟨rfl, rfl, hJ.out.same (by rfl) (rfl)⟩
                simp only [Act.put, List.setIfInBounds_toArray, List.set_cons_zero, List.set_cons_succ, Nat.reduceAdd]
                refine Steps.nil ?_
                intro v w' hJ
                have hj : v 20 = .bool true := hJ.end_fact 20 (by decide)
                have HF := Lib.hid (cbt HB0.out hJ.but.below)
                clear hJ
                simp only [hj]
                clear hj
                go_wp2_with fail
                go_ret
                exact ⟨rfl, HF.out⟩
              · have dz : decide ((t1 : Int) < 1) = false := decide_eq_false (by omega)
                have hp1 : 0 < t1 := by omega
                have hcv : IntKind.u64.wrap (t1 : Int) = (t1 : Int) := by
                  have := HT1.out
                  rw [PAll.wrap_u64]
                  omega
                clear hz
                go_wp2_with fail
                let FS : List Kept1 := [.eq (.pointer (some ⟨(g7 + 1), 1, none⟩)), .eq (.int .i64 (t1 : Int)), .eq (.bool false), .eq (.bool false), .f (gm1.1) (gm1.2), .eq (.pointer (some ⟨(g7 + 1), 1, none⟩)), .eq (.int .i64 (t1 : Int)), .eq (.int .u64 (t1 : Int)), .f (t1) (1), .f (um.1) (um.2), .setF ((0, 1)) (d1) (d2) (d3), .eq (.slice AG1 L1.length cg1), .eq (.agg #[.int .i64 (T1 : Int), .int .i64 (t1 : Int), .int .i64 0, .int .i64 (pb1 : Int), .int .i64 (pb2 : Int), .int .i64 (pb3 : Int), .int .i64 (pb4 : Int)]), .f (y1.1) (y1.2), .eq (.int .i64 0), .eq (.bool true), .eq (.bool true), .eq (.bool true), .eq (.bool true), .eq (.bool true), .eq (.bool true)]
                refine region_mono (Held w' (fun j => FS.getD j .any) []) (by kernel_rfl) (by kernel_rfl) (by kernel_rfl) (Held.start _ _ _ (by simp) (by simp)) ?_
                refine Steps.held ?_ ?_
                · intro L v w' hJ
                  go_wp2_with fail
                  exact ⟨rfl, rfl, hJ.out.same (by rfl) (rfl)⟩
                simp only [Act.put, List.setIfInBounds_toArray, List.set_cons_zero, List.set_cons_succ, Nat.reduceAdd]
                refine Steps.held ?_ ?_
                · intro L v w' hJ
                  have hv0 : v 0 = .pointer (some ⟨(g7 + 1), 1, none⟩) := hJ.out.fact 0 (by kernel_rfl)
                  simp only [hv0]
                  clear hv0
                  have kb := hJ.out.blk E8.out (by simp [oldsOf])
                  have k0 := kb.cell 0
                  have k1 := kb.cell 1
                  have k2 := kb.cell 2
                  have k3 := kb.cell 3
                  have k4 := kb.cell 4
                  have k5 := kb.cell 5
                  clear kb
                  go_wp2_with fail
                  exact ⟨rfl, rfl, hJ.out.same (by rfl) (rfl)⟩
                simp only [Act.put, List.setIfInBounds_toArray, List.set_cons_zero, List.set_cons_succ, Nat.reduceAdd]
                refine Steps.held ?_ ?_
                · intro L v w' hJ
                  have hv1 : v 1 = .int .i64 (t1 : Int) := hJ.out.fact 1 (by kernel_rfl)
                  simp only [hv1]
                  clear hv1
                  go_wp2_with fail
                  exact ⟨rfl, rfl, hJ.out.same (by rfl) (rfl)⟩
                simp only [Act.put, List.setIfInBounds_toArray, List.set_cons_zero, List.set_cons_succ, Nat.reduceAdd]
                refine Steps.held ?_ ?_
                · intro L v w' hJ
                  have hv2 : v 2 = .bool false := hJ.out.fact 2 (by kernel_rfl)
                  simp only [hv2]
                  clear hv2
                  go_wp2_with fail
                  exact ⟨rfl, rfl, hJ.out.same (by rfl) (rfl)⟩
                simp only [Act.put, List.setIfInBounds_toArray, List.set_cons_zero, List.set_cons_succ, Nat.reduceAdd]
                refine Steps.held ?_ ?_
                · intro L v w' hJ
                  have hv3 : v 3 = .bool false := hJ.out.fact 3 (by kernel_rfl)
                  simp only [hv3]
                  clear hv3
                  have kb := hJ.out.blk E10.out (by simp [oldsOf])
                  have k0 := kb.cell 0
                  have k1 := kb.cell 1
                  clear kb
                  go_wp2_with fail
                  exact ⟨rfl, rfl, hJ.out.same (by rfl) (NE10.out.keep hJ.out.held.keep)⟩
                simp only [Act.put, List.setIfInBounds_toArray, List.set_cons_zero, List.set_cons_succ, Nat.reduceAdd]
                refine Steps.held ?_ ?_
                · intro L v w' hJ
                  have hv3 : v 3 = .bool false := hJ.out.fact 3 (by kernel_rfl)
                  simp only [hv3]
                  clear hv3
                  go_wp2_with fail
                  exact ⟨rfl, rfl, hJ.out.same (by rfl) (rfl)⟩
                simp only [Act.put, List.setIfInBounds_toArray, List.set_cons_zero, List.set_cons_succ, Nat.reduceAdd]
                refine Steps.held ?_ ?_
                · intro L v w' hJ
                  have hv5 : v 5 = .pointer (some ⟨(g7 + 1), 1, none⟩) := hJ.out.fact 5 (by kernel_rfl)
                  simp only [hv5]
                  clear hv5
                  have hv3 : v 3 = .bool false := hJ.out.fact 3 (by kernel_rfl)
                  simp only [hv3]
                  clear hv3
                  have kb := hJ.out.blk E8.out (by simp [oldsOf])
                  have k0 := kb.cell 0
                  have k1 := kb.cell 1
                  have k2 := kb.cell 2
                  have k3 := kb.cell 3
                  have k4 := kb.cell 4
                  have k5 := kb.cell 5
                  clear kb
                  go_wp2_with fail
                  exact ⟨rfl, rfl, hJ.out.same (by rfl) (rfl)⟩
                simp only [Act.put, List.setIfInBounds_toArray, List.set_cons_zero, List.set_cons_succ, Nat.reduceAdd]
                refine Steps.held ?_ ?_
                · intro L v w' hJ
                  have hv6 : v 6 = .int .i64 (t1 : Int) := hJ.out.fact 6 (by kernel_rfl)
                  simp only [hv6]
                  clear hv6
                  have hv3 : v 3 = .bool false := hJ.out.fact 3 (by kernel_rfl)
                  simp only [hv3]
                  clear hv3
                  go_wp2_with fail
                  exact ⟨rfl, rfl, hJ.out.same (by rfl) (rfl)⟩
                simp only [Act.put, List.setIfInBounds_toArray, List.set_cons_zero, List.set_cons_succ, Nat.reduceAdd]
                refine Steps.held ?_ ?_
                · intro L v w' hJ
                  have hv7 : v 7 = .int .u64 (t1 : Int) := hJ.out.fact 7 (by kernel_rfl)
                  simp only [hv7]
                  clear hv7
                  have hv3 : v 3 = .bool false := hJ.out.fact 3 (by kernel_rfl)
                  simp only [hv3]
                  clear hv3
                  go_wp2_with fail
                  with_reducible refine (HIT.out _).mono ?_
                  rintro e w1 ⟨u, rfl, hu, hb⟩
                  go_wp2_with fail
                  exact ⟨rfl, rfl, hJ.out.call (by rfl) hb (hu)⟩
                simp only [Act.put, List.setIfInBounds_toArray, List.set_cons_zero, List.set_cons_succ, Nat.reduceAdd]
                refine Steps.held ?_ ?_
                · intro L v w' hJ
                  have hv3 : v 3 = .bool false := hJ.out.fact 3 (by kernel_rfl)
                  simp only [hv3]
                  clear hv3
                  have X0 := Lib.hid (show F64 w' (v 4) (gm1.1) (gm1.2) from hJ.out.fact 4 (by kernel_rfl))
                  have X1 := Lib.hid (show F64 w' (v 8) (t1) (1) from hJ.out.fact 8 (by kernel_rfl))
                  go_wp2_with fail
                  with_reducible refine (HMU.out _ _ _ X0.out X1.out).mono ?_
                  rintro e w1 ⟨u, rfl, hu, hb⟩
                  go_wp2_with fail
                  exact ⟨rfl, rfl, hJ.out.call (by rfl) hb (hu)⟩
                simp only [Act.put, List.setIfInBounds_toArray, List.set_cons_zero, List.set_cons_succ, Nat.reduceAdd]
                refine Steps.held ?_ ?_
                · intro L v w' hJ
                  have hv3 : v 3 = .bool false := hJ.out.fact 3 (by kernel_rfl)
                  simp only [hv3]
                  clear hv3
                  have kb := hJ.out.blk E9.out (by simp [oldsOf])
                  have k0 := kb.cell 0
                  have k1 := kb.cell 1
                  have k2 := kb.cell 2
                  have k3 := kb.cell 3
                  have k4 := kb.cell 4
                  have k5 := kb.cell 5
                  have k6 := kb.cell 6
                  have k7 := kb.cell 7
                  clear kb
                  go_wp2_with fail
                  exact ⟨rfl, rfl, hJ.out.same (by rfl) (setF_keep HSV.out hJ.out.held.keep)⟩
                simp only [Act.put, List.setIfInBounds_toArray, List.set_cons_zero, List.set_cons_succ, Nat.reduceAdd]
                refine Steps.held ?_ ?_
                · intro L v w' hJ
                  have hv3 : v 3 = .bool false := hJ.out.fact 3 (by kernel_rfl)
                  simp only [hv3]
                  clear hv3
                  go_wp2_with fail
                  exact ⟨rfl, rfl, hJ.out.same (by rfl) (rfl)⟩
                simp only [Act.put, List.setIfInBounds_toArray, List.set_cons_zero, List.set_cons_succ, Nat.reduceAdd]
                refine Steps.held ?_ ?_
                · intro L v w' hJ
                  have hbz := hJ.out.held.but.below
                  have hv11 : v 11 = .slice AG1 L1.length cg1 := hJ.out.fact 11 (by kernel_rfl)
                  simp only [hv11]
                  clear hv11
                  have hv3 : v 3 = .bool false := hJ.out.fact 3 (by kernel_rfl)
                  simp only [hv3]
                  clear hv3
                  go_wp2_with fail
                  with_reducible refine (HCO1.out _ (HL1.out.below hbz)).mono ?_
                  rintro e w1 ⟨rfl, hb⟩
                  go_wp2_with fail
                  exact ⟨rfl, rfl, hJ.out.call (by rfl) hb (rfl)⟩
                simp only [Act.put, List.setIfInBounds_toArray, List.set_cons_zero, List.set_cons_succ, Nat.reduceAdd]
                refine Steps.held ?_ ?_
                · intro L v w' hJ
                  have hv12 : v 12 = .agg #[.int .i64 (T1 : Int), .int .i64 (t1 : Int), .int .i64 0, .int .i64 (pb1 : Int), .int .i64 (pb2 : Int), .int .i64 (pb3 : Int), .int .i64 (pb4 : Int)] := hJ.out.fact 12 (by kernel_rfl)
                  simp only [hv12]
                  clear hv12
                  have hv3 : v 3 = .bool false := hJ.out.fact 3 (by kernel_rfl)
                  simp only [hv3]
                  clear hv3
                  have X0 := Lib.hid (show SetF w' (v 10) ((0, 1)) (d1) (d2) (d3) from hJ.out.fact 10 (by kernel_rfl))
                  go_wp2_with fail
                  with_reducible refine (HLF.out _ _ X0.out).mono ?_
                  rintro e w1 ⟨u, rfl, hu, hb⟩
                  go_wp2_with fail
                  exact ⟨rfl, rfl, hJ.out.call (by rfl) hb (hu)⟩
                simp only [Act.put, List.setIfInBounds_toArray, List.set_cons_zero, List.set_cons_succ, Nat.reduceAdd]
                refine Steps.held ?_ ?_
                · intro L v w' hJ
                  have hv3 : v 3 = .bool false := hJ.out.fact 3 (by kernel_rfl)
                  simp only [hv3]
                  clear hv3
                  have X0 := Lib.hid (show F64 w' (v 9) (um.1) (um.2) from hJ.out.fact 9 (by kernel_rfl))
                  have X1 := Lib.hid (show F64 w' (v 13) (y1.1) (y1.2) from hJ.out.fact 13 (by kernel_rfl))
                  go_wp2_with fail
                  with_reducible refine (HCE.out hp1 _ _ _ X0.out X1.out).mono ?_
                  rintro e w1 ⟨rfl, hb⟩
                  go_wp2_with fail
                  exact ⟨rfl, rfl, hJ.out.call (by rfl) hb (rfl)⟩
                simp only [Act.put, List.setIfInBounds_toArray, List.set_cons_zero, List.set_cons_succ, Nat.reduceAdd]
                refine Steps.held ?_ ?_
                · intro L v w' hJ
                  have hv14 : v 14 = .int .i64 0 := hJ.out.fact 14 (by kernel_rfl)
                  simp only [hv14]
                  clear hv14
                  have hv3 : v 3 = .bool false := hJ.out.fact 3 (by kernel_rfl)
                  simp only [hv3]
                  clear hv3
                  go_wp2_with fail
                  exact ⟨rfl, rfl, hJ.out.same (by rfl) (rfl)⟩
                simp only [Act.put, List.setIfInBounds_toArray, List.set_cons_zero, List.set_cons_succ, Nat.reduceAdd]
                refine Steps.held ?_ ?_
                · intro L v w' hJ
                  have hv3 : v 3 = .bool false := hJ.out.fact 3 (by kernel_rfl)
                  simp only [hv3]
                  clear hv3
                  have hv15 : v 15 = .bool true := hJ.out.fact 15 (by kernel_rfl)
                  simp only [hv15]
                  clear hv15
                  go_wp2_with fail
                  exact ⟨rfl, rfl, hJ.out.same (by rfl) (rfl)⟩
                simp only [Act.put, List.setIfInBounds_toArray, List.set_cons_zero, List.set_cons_succ, Nat.reduceAdd]
                refine Steps.held ?_ ?_
                · intro L v w' hJ
                  have hv16 : v 16 = .bool true := hJ.out.fact 16 (by kernel_rfl)
                  simp only [hv16]
                  clear hv16
                  go_wp2_with fail
                  exact ⟨rfl, rfl, hJ.out.same (by rfl) (rfl)⟩
                simp only [Act.put, List.setIfInBounds_toArray, List.set_cons_zero, List.set_cons_succ, Nat.reduceAdd]
                refine Steps.held ?_ ?_
                · intro L v w' hJ
                  have hv17 : v 17 = .bool true := hJ.out.fact 17 (by kernel_rfl)
                  simp only [hv17]
                  clear hv17
                  go_wp2_with fail
                  with_reducible refine (HLV.out _).mono ?_
                  rintro e w1 ⟨rfl, hb⟩
                  go_wp2_with fail
                  exact ⟨rfl, rfl, hJ.out.call (by rfl) hb (rfl)⟩
                simp only [Act.put, List.setIfInBounds_toArray, List.set_cons_zero, List.set_cons_succ, Nat.reduceAdd]
                refine Steps.held ?_ ?_
                · intro L v w' hJ
                  have hv17 : v 17 = .bool true := hJ.out.fact 17 (by kernel_rfl)
                  simp only [hv17]
                  clear hv17
                  have hv18 : v 18 = .bool true := hJ.out.fact 18 (by kernel_rfl)
                  simp only [hv18]
                  clear hv18
                  go_wp2_with fail
                  exact ⟨rfl, rfl, hJ.out.same (by rfl) (rfl)⟩
                simp only [Act.put, List.setIfInBounds_toArray, List.set_cons_zero, List.set_cons_succ, Nat.reduceAdd]
                refine Steps.held ?_ ?_
                · intro L v w' hJ
                  have hv19 : v 19 = .bool true := hJ.out.fact 19 (by kernel_rfl)
                  simp only [hv19]
                  clear hv19
                  go_wp2_with fail
                  exact ⟨rfl, rfl, hJ.out.same (by rfl) (rfl)⟩
                simp only [Act.put, List.setIfInBounds_toArray, List.set_cons_zero, List.set_cons_succ, Nat.reduceAdd]
                refine Steps.nil ?_
                intro v w' hJ
                have hj : v 20 = .bool true := hJ.end_fact 20 (by decide)
                have HF := Lib.hid (cbt HB0.out hJ.but.below)
                clear hJ
                simp only [hj]
                clear hj
                go_wp2_with fail
                go_ret
                exact ⟨rfl, HF.out⟩
            · have dt : decide (1099511627776 < (t0 : Int)) = true := decide_eq_true (by omega)
              go_wp2_with fail
              with_reducible refine (HLV.out _).mono ?_
              rintro e w1 ⟨rfl, hb⟩
              replace HL0 := Lib.hid (HL0.out.below hb)
              replace HL1 := Lib.hid (HL1.out.below hb)
              replace HB0 := Lib.hid (cbt HB0.out hb)
              clear hb
              go_wp2_with fail
              go_ret
              exact ⟨rfl, HB0.out⟩
end Go.Proofs.Yteikhnmmkanndaa
