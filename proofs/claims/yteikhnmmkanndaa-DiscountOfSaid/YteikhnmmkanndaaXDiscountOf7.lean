/- Laid together by prune.py out of the texts that the row needs: the declarations that its theorem uses. -/
import Derived.Test.YteikhnmmkanndaaXDiscountOf6
import Derived.ChangeSlices
import Derived.ChangeSame
import Derived.OpenShut
import Derived.ChangeOld
import Derived.Laws.IdiomArrays
namespace Go.Proofs.Yteikhnmmkanndaa
open Go.RowKit Go.Proofs.YteikhnmmkanndaaW.PrintWords
set_option linter.unusedSimpArgs false
set_option linter.unusedVariables false
theorem dNum_prt (m1 m2 k mk ml : Nat) : dNum m1 m2 k mk ml = if m1 = 0 ∨ mk = 0 then (0, 1) else lessR (k, 1) (prt m1 m2 k mk ml) := rfl
theorem dNum_red (m1 m2 k mk ml : Nat) : Red (dNum m1 m2 k mk ml) := by
  rw [dNum_prt]
  split
  · exact red_zero
  · exact lessR_red (red_int k) (prt_red (by omega) (by omega))
theorem lessR_int_le (k : Nat) {b : Nat × Nat} (hb : Red b) : (lessR (k, 1) b).1 ≤ k * (lessR (k, 1) b).2 := by
  unfold lessR
  split
  · exact Nat.zero_le _
  · have h := rn_mul (k * b.2 - b.1 * 1) (1 * b.2)
    simp only []
    generalize Yteikhnmmkanndaa.rn (k * b.2 - b.1 * 1) (1 * b.2) = x at *
    generalize Yteikhnmmkanndaa.rd (k * b.2 - b.1 * 1) (1 * b.2) = y at *
    rw [Nat.one_mul] at h
    refine Nat.le_of_mul_le_mul_right (c := b.2) ?_ hb.2
    rw [h, Nat.mul_assoc, Nat.mul_comm y b.2, ← Nat.mul_assoc]
    exact Nat.mul_le_mul_right y (Nat.sub_le _ _)
theorem dNum_le (m1 m2 k mk ml : Nat) : (dNum m1 m2 k mk ml).1 ≤ k * (dNum m1 m2 k mk ml).2 := by
  rw [dNum_prt]
  split
  · exact Nat.zero_le _
  · exact lessR_int_le k (prt_red (by omega) (by omega))
theorem dNum_sz {m1 m2 k mk ml : Nat} (h1 : m1 ≤ 1099511627776) (h2 : m2 ≤ 1099511627776) (hk : mk ≤ 1099511627776) (hl : ml ≤ 1099511627776) (hc : k ≤ 3) : Sz 80 (dNum m1 m2 k mk ml) := by
  rw [dNum_prt]
  split
  · exact Sz.zero.mono (by decide)
  · exact ((sz_int (x := k) (by omega)).less ((((sz_int (by omega)).mul ((sz_int (by omega)).div (sz_int (x := m1 + 2 * m2) (by omega)))).mul ((sz_int (by omega)).div (sz_int (by omega)))))).mono (by decide)
theorem dig_11 : nat_digits_f 100 11 [49, 49] := ⟨by kernel_rfl, by decide, by decide⟩
theorem dig_10 : nat_digits_f 100 10 [49, 48] := ⟨by kernel_rfl, by decide, by decide⟩
theorem live_d1 : dNum 10 5 1 10 5 = (1, 2) := by decide +kernel
theorem live_d2 : dNum 10 5 2 5 3 = (11, 10) := by decide +kernel
theorem live_d3 : dNum 10 5 3 3 2 = (5, 3) := by decide +kernel
set_option maxRecDepth 100000 in
set_option maxHeartbeats 4000000 in
theorem live28_any (w : World) : Calls Try.prog 79 #[] w fun e w' => e = .returned (.bool true) ∧ Below w.heap.size w w' := by
  have HOF : Hid (∀ W, Calls Try.prog 80 #[.agg #[.int .i64 0, .int .i64 0, .int .i64 0, .int .i64 10, .int .i64 5, .int .i64 3, .int .i64 2]] W (MkS F64 W (0, 1) (1, 2) (11, 10) (5, 3))) := Lib.hid (fun W => by
    have := dof_any 0 0 0 10 5 3 2 10 5 3 2 (by decide) (by decide) (by decide) (by decide) (by decide) (by decide) (by decide) (by decide) W
    rwa [live_d1, live_d2, live_d3] at this)
  have HT1 : Hid (∀ v W, F64 W v 1 2 → Calls Try.prog 72 #[v] W (fun x w' => x = .returned (.string ⟨#[49, 47, 50]⟩) ∧ Below W.heap.size W w')) := Lib.hid (fun v W h => rtext_lit v 1 2 [49] [50] _ W h (by decide) (by decide) dig_1 dig_2 (by decide) (by decide) (by kernel_rfl))
  have HT2 : Hid (∀ v W, F64 W v 11 10 → Calls Try.prog 72 #[v] W (fun x w' => x = .returned (.string ⟨#[49, 49, 47, 49, 48]⟩) ∧ Below W.heap.size W w')) := Lib.hid (fun v W h => rtext_lit v 11 10 [49, 49] [49, 48] _ W h (by decide) (by decide) dig_11 dig_10 (by decide) (by decide) (by kernel_rfl))
  have HT3 : Hid (∀ v W, F64 W v 5 3 → Calls Try.prog 72 #[v] W (fun x w' => x = .returned (.string ⟨#[53, 47, 51]⟩) ∧ Below W.heap.size W w')) := Lib.hid (fun v W h => rtext_lit v 5 3 [53] [51] _ W h (by decide) (by decide) dig_5 dig_3 (by decide) (by decide) (by kernel_rfl))
  have HB0 := Lib.hid (Below.refl w.heap.size w)
  go_enter Try.func79, Try.ntmps79
  go_wp2_with fail
  with_reducible refine (HOF.out _).mono ?_
  rintro e w1 ⟨u1, rfl, hu, hb⟩
  replace HB0 := Lib.hid (cbt HB0.out hb)
  clear hb
  obtain ⟨A0, p0, c0, B0, q0, u0, A1, p1, c1, B1, q1, u1, A2, p2, c2, B2, q2, u2, A3, p3, c3, B3, q3, u3, rfl, hs0, hs1, hs2, hs3⟩ := hu
  have F1 := Lib.hid hs1
  have F2 := Lib.hid hs2
  have F3 := Lib.hid hs3
  clear hs0 hs1 hs2 hs3
  have e1 := Blk.new w1 99 #[.slice A0 p0 c0, .slice B0 q0 u0, .slice A1 p1 c1, .slice B1 q1 u1, .slice A2 p2 c2, .slice B2 q2 u2, .slice A3 p3 c3, .slice B3 q3 u3]
  have hb := cba (Below.refl _ w1) (.cells #[.slice A0 p0 c0, .slice B0 q0 u0, .slice A1 p1 c1, .slice B1 q1 u1, .slice A2 p2 c2, .slice B2 q2 u2, .slice A3 p3 c3, .slice B3 q3 u3] 99)
  go_upto_region 2 with (fail)
  obtain ⟨X, hX⟩ : ∃ X, w1.alloc (.cells #[.slice A0 p0 c0, .slice B0 q0 u0, .slice A1 p1 c1, .slice B1 q1 u1, .slice A2 p2 c2, .slice B2 q2 u2, .slice A3 p3 c3, .slice B3 q3 u3] 99) = X := ⟨_, rfl⟩
  rw [hX] at e1 hb ⊢
  obtain ⟨g1, hg⟩ : ∃ g, w1.heap.size = g := ⟨_, rfl⟩
  rw [hg] at e1
  simp only [hg]
  replace HB0 := Lib.hid (cbt HB0.out hb)
  replace F1 := Lib.hid (F1.out.below hb)
  replace F2 := Lib.hid (F2.out.below hb)
  replace F3 := Lib.hid (F3.out.below hb)
  have E1 := Lib.hid e1
  clear hX hg hb e1
  have k_E1_0 := E1.out.cell 0
  have k_E1_1 := E1.out.cell 1
  have k_E1_2 := E1.out.cell 2
  have k_E1_3 := E1.out.cell 3
  have k_E1_4 := E1.out.cell 4
  have k_E1_5 := E1.out.cell 5
  have k_E1_6 := E1.out.cell 6
  have k_E1_7 := E1.out.cell 7
  go_wp2_with fail
  with_reducible refine (HT1.out _ _ F1.out).mono ?_
  rintro e w2 ⟨rfl, hb⟩
  clear k_E1_0 k_E1_1 k_E1_2 k_E1_3 k_E1_4 k_E1_5 k_E1_6 k_E1_7
  replace F1 := Lib.hid (F1.out.below hb)
  replace F2 := Lib.hid (F2.out.below hb)
  replace F3 := Lib.hid (F3.out.below hb)
  replace E1 := Lib.hid (blk_below E1.out hb)
  replace HB0 := Lib.hid (cbt HB0.out hb)
  clear hb
  have k_E1_0 := E1.out.cell 0
  have k_E1_1 := E1.out.cell 1
  have k_E1_2 := E1.out.cell 2
  have k_E1_3 := E1.out.cell 3
  have k_E1_4 := E1.out.cell 4
  have k_E1_5 := E1.out.cell 5
  have k_E1_6 := E1.out.cell 6
  have k_E1_7 := E1.out.cell 7
  go_wp2_with fail
  with_reducible refine (HT2.out _ _ F2.out).mono ?_
  rintro e w2 ⟨rfl, hb⟩
  clear k_E1_0 k_E1_1 k_E1_2 k_E1_3 k_E1_4 k_E1_5 k_E1_6 k_E1_7
  replace F1 := Lib.hid (F1.out.below hb)
  replace F2 := Lib.hid (F2.out.below hb)
  replace F3 := Lib.hid (F3.out.below hb)
  replace E1 := Lib.hid (blk_below E1.out hb)
  replace HB0 := Lib.hid (cbt HB0.out hb)
  clear hb
  have k_E1_0 := E1.out.cell 0
  have k_E1_1 := E1.out.cell 1
  have k_E1_2 := E1.out.cell 2
  have k_E1_3 := E1.out.cell 3
  have k_E1_4 := E1.out.cell 4
  have k_E1_5 := E1.out.cell 5
  have k_E1_6 := E1.out.cell 6
  have k_E1_7 := E1.out.cell 7
  go_wp2_with fail
  with_reducible refine (HT3.out _ _ F3.out).mono ?_
  rintro e w2 ⟨rfl, hb⟩
  clear k_E1_0 k_E1_1 k_E1_2 k_E1_3 k_E1_4 k_E1_5 k_E1_6 k_E1_7
  replace F1 := Lib.hid (F1.out.below hb)
  replace F2 := Lib.hid (F2.out.below hb)
  replace F3 := Lib.hid (F3.out.below hb)
  replace E1 := Lib.hid (blk_below E1.out hb)
  replace HB0 := Lib.hid (cbt HB0.out hb)
  clear hb
  have k_E1_0 := E1.out.cell 0
  have k_E1_1 := E1.out.cell 1
  have k_E1_2 := E1.out.cell 2
  have k_E1_3 := E1.out.cell 3
  have k_E1_4 := E1.out.cell 4
  have k_E1_5 := E1.out.cell 5
  have k_E1_6 := E1.out.cell 6
  have k_E1_7 := E1.out.cell 7
  go_wp2_with fail
  go_ret
  exact ⟨rfl, HB0.out⟩
end Go.Proofs.Yteikhnmmkanndaa
namespace Go.Proofs.Yteikhnmmkanndaa
open Go.RowKit Go.Proofs.YteikhnmmkanndaaW.PrintWords
set_option linter.unusedSimpArgs false
set_option linter.unusedVariables false
theorem cmp_le0 {x y : Nat} (h : x ≤ y) : ¬ 0 < cmpN x y := by
  rcases Nat.eq_or_lt_of_le h with h | h
  · rw [h, cmpN_self]; decide
  · rw [cmpN_lt h]; decide
theorem max_nat (a : Int) (h : a ≤ 1099511627776) : ∃ m : Nat, max a 0 = (m : Int) ∧ m ≤ 1099511627776 := ⟨(max a 0).toNat, by omega, by omega⟩
set_option maxRecDepth 100000 in
set_option maxHeartbeats 4000000 in
theorem discountOf_law (a0 a1 a2 a3 k : Int) (w : World) (hk : (Lit.int .i64 k).wf = true) : Calls Try.prog 18 #[.agg #[.int .i64 a0, .int .i64 a1, .int .i64 a2, .int .i64 a3], .int .i64 k] w fun e w' => e = .returned (.bool true) ∧ Below w.heap.size w w' := by
  have HLV := Lib.hid live28_any
  have e0 := (Blk.new (w) 93 #[(.int .i64 a0), (.int .i64 a1), (.int .i64 a2), (.int .i64 a3)]).alloc (.cells #[(.int .i64 0), (.int .i64 0), (.int .i64 0), (.int .i64 0), (.int .i64 0), (.int .i64 0), (.int .i64 0)] 96)
  have e1 := Blk.new ((w).alloc (.cells #[(.int .i64 a0), (.int .i64 a1), (.int .i64 a2), (.int .i64 a3)] 93)) 96 #[(.int .i64 0), (.int .i64 0), (.int .i64 0), (.int .i64 0), (.int .i64 0), (.int .i64 0), (.int .i64 0)]
  have hb := cba (cba (Below.refl _ w) (.cells #[(.int .i64 a0), (.int .i64 a1), (.int .i64 a2), (.int .i64 a3)] 93)) (.cells #[(.int .i64 0), (.int .i64 0), (.int .i64 0), (.int .i64 0), (.int .i64 0), (.int .i64 0), (.int .i64 0)] 96)
  simp only [World.size_alloc] at e1
  have hsz : w.heap.size ≤ w.heap.size := Nat.le_refl _
  go_enter Try.func18, Try.ntmps18
  go_upto_region 2 with (fail)
  obtain ⟨S, hS⟩ : ∃ S, ((w).alloc (.cells #[(.int .i64 a0), (.int .i64 a1), (.int .i64 a2), (.int .i64 a3)] 93)).alloc (.cells #[(.int .i64 0), (.int .i64 0), (.int .i64 0), (.int .i64 0), (.int .i64 0), (.int .i64 0), (.int .i64 0)] 96) = S := ⟨_, rfl⟩
  rw [hS] at e0 e1 hb ⊢
  have HB0 := Lib.hid hb
  have E0 := Lib.hid e0
  have E1 := Lib.hid e1
  clear hS hb hsz e0 e1
  go_wp2_with fail
  go_loopw [6] (fun v6 wr => ∃ (n : Nat) (j : Int), (n = 0 ∧ j = 0 ∨ n = 1 ∧ j = 1 ∨ n = 2 ∧ j = 2 ∨ n = 3 ∧ j = 3 ∨ n = 4 ∧ j = 4) ∧ v6 = .int .i64 j ∧ Hid (∃ c : Array Value, c = #[(.int .i64 0), (.int .i64 0), (.int .i64 0), (.int .i64 (cond (Nat.blt 0 n) a0 0)), (.int .i64 (cond (Nat.blt 1 n) a1 0)), (.int .i64 (cond (Nat.blt 2 n) a2 0)), (.int .i64 (cond (Nat.blt 3 n) a3 0))] ∧ Blk wr (w.heap.size + 1) 96 c) ∧ Hid (Blk wr w.heap.size 93 #[.int .i64 a0, .int .i64 a1, .int .i64 a2, .int .i64 a3]) ∧ Hid (Below w.heap.size w wr) ∧ Hid ((0 < n → a0 ≤ 1099511627776) ∧ (1 < n → a1 ≤ 1099511627776) ∧ (2 < n → a2 ≤ 1099511627776) ∧ (3 < n → a3 ≤ 1099511627776))) (fun v6 _ => 5 - (intOf v6).toNat)
  case atStart => exact ⟨0, 0, .inl ⟨rfl, rfl⟩, rfl, Lib.hid ⟨_, rfl, E1.out⟩, E0, HB0, Lib.hid ⟨fun h => absurd h (by decide), fun h => absurd h (by decide), fun h => absurd h (by decide), fun h => absurd h (by decide)⟩⟩
  case round =>
    obtain ⟨n, j, hn, rfl, HE1, HE0, HBW, HBD⟩ := hrel
    clear E0 E1 HB0
    rcases hn with ⟨rfl, rfl⟩ | ⟨rfl, rfl⟩ | ⟨rfl, rfl⟩ | ⟨rfl, rfl⟩ | ⟨rfl, rfl⟩
    · by_cases hle : a0 ≤ 1099511627776
      · obtain ⟨c, hc, hE1⟩ := HE1.out
        have E1 := Lib.hid (show Blk wr (w.heap.size + 1) 96 #[(.int .i64 0), (.int .i64 0), (.int .i64 0), (.int .i64 0), (.int .i64 0), (.int .i64 0), (.int .i64 0)] from by rw [hc] at hE1; exact hE1)
        clear hc hE1 HE1
        have hlt1 := E1.out.lt
        have da : decide (1099511627776 < a0) = false := decide_eq_false (by omega)
        have k_HE0_0 := HE0.out.cell 0
        have k_HE0_1 := HE0.out.cell 1
        have k_HE0_2 := HE0.out.cell 2
        have k_HE0_3 := HE0.out.cell 3
        have k_E1_0 := E1.out.cell 0
        have k_E1_1 := E1.out.cell 1
        have k_E1_2 := E1.out.cell 2
        have k_E1_3 := E1.out.cell 3
        have k_E1_4 := E1.out.cell 4
        have k_E1_5 := E1.out.cell 5
        have k_E1_6 := E1.out.cell 6
        have f := E1.out.frozen 3
        have hne : ¬ w.heap.size = w.heap.size + 1 := by omega
        have hb := E1.out.set_ 3 (.int .i64 a0)
        have HE1 := Lib.hid (show Blk (wr.setCell ⟨w.heap.size + 1, 3, none⟩ (.int .i64 a0)) (w.heap.size + 1) 96 #[(.int .i64 0), (.int .i64 0), (.int .i64 0), (.int .i64 a0), (.int .i64 0), (.int .i64 0), (.int .i64 0)] from hb)
        have HE0' := Lib.hid (HE0.out.far (p := ⟨w.heap.size + 1, 3, none⟩) hne (.int .i64 a0))
        have HBW' := Lib.hid (HBW.out.setCell (p := ⟨w.heap.size + 1, 3, none⟩) (Nat.le_succ _) (.int .i64 a0))
        have HBD' := Lib.hid (show (0 < 1 → a0 ≤ 1099511627776) ∧ (1 < 1 → a1 ≤ 1099511627776) ∧ (2 < 1 → a2 ≤ 1099511627776) ∧ (3 < 1 → a3 ≤ 1099511627776) from ⟨fun _ => hle, fun h => absurd h (by decide), fun h => absurd h (by decide), fun h => absurd h (by decide)⟩)
        clear hb hle
        go_wp2_with fail
        go_roundw
        case rel => exact ⟨1, 1, .inr (.inl ⟨rfl, rfl⟩), rfl, Lib.hid ⟨_, rfl, HE1.out⟩, HE0', HBW', HBD'⟩
        case measure => simp [intOf]
      · obtain ⟨c, hc, hE1⟩ := HE1.out
        have E1 := Lib.hid (show Blk wr (w.heap.size + 1) 96 #[(.int .i64 0), (.int .i64 0), (.int .i64 0), (.int .i64 0), (.int .i64 0), (.int .i64 0), (.int .i64 0)] from by rw [hc] at hE1; exact hE1)
        clear hc hE1 HE1
        have hlt1 := E1.out.lt
        have da : decide (1099511627776 < a0) = true := decide_eq_true (by omega)
        clear hle
        have k_HE0_0 := HE0.out.cell 0
        have k_HE0_1 := HE0.out.cell 1
        have k_HE0_2 := HE0.out.cell 2
        have k_HE0_3 := HE0.out.cell 3
        have k_E1_0 := E1.out.cell 0
        have k_E1_1 := E1.out.cell 1
        have k_E1_2 := E1.out.cell 2
        have k_E1_3 := E1.out.cell 3
        have k_E1_4 := E1.out.cell 4
        have k_E1_5 := E1.out.cell 5
        have k_E1_6 := E1.out.cell 6
        go_wp2_with fail
        with_reducible refine (HLV.out _).mono ?_
        rintro e w1 ⟨rfl, hb⟩
        clear k_HE0_0 k_HE0_1 k_HE0_2 k_HE0_3 k_E1_0 k_E1_1 k_E1_2 k_E1_3 k_E1_4 k_E1_5 k_E1_6
        replace HE0 := Lib.hid (blk_below HE0.out hb)
        replace E1 := Lib.hid (blk_below E1.out hb)
        replace HBW := Lib.hid (cbt HBW.out hb)
        clear hb
        have k_HE0_0 := HE0.out.cell 0
        have k_HE0_1 := HE0.out.cell 1
        have k_HE0_2 := HE0.out.cell 2
        have k_HE0_3 := HE0.out.cell 3
        have k_E1_0 := E1.out.cell 0
        have k_E1_1 := E1.out.cell 1
        have k_E1_2 := E1.out.cell 2
        have k_E1_3 := E1.out.cell 3
        have k_E1_4 := E1.out.cell 4
        have k_E1_5 := E1.out.cell 5
        have k_E1_6 := E1.out.cell 6
        go_wp2_with fail
        go_ret
        exact ⟨rfl, HBW.out⟩
    · by_cases hle : a1 ≤ 1099511627776
      · obtain ⟨c, hc, hE1⟩ := HE1.out
        have E1 := Lib.hid (show Blk wr (w.heap.size + 1) 96 #[(.int .i64 0), (.int .i64 0), (.int .i64 0), (.int .i64 a0), (.int .i64 0), (.int .i64 0), (.int .i64 0)] from by rw [hc] at hE1; exact hE1)
        clear hc hE1 HE1
        have hlt1 := E1.out.lt
        have da : decide (1099511627776 < a1) = false := decide_eq_false (by omega)
        have k_HE0_0 := HE0.out.cell 0
        have k_HE0_1 := HE0.out.cell 1
        have k_HE0_2 := HE0.out.cell 2
        have k_HE0_3 := HE0.out.cell 3
        have k_E1_0 := E1.out.cell 0
        have k_E1_1 := E1.out.cell 1
        have k_E1_2 := E1.out.cell 2
        have k_E1_3 := E1.out.cell 3
        have k_E1_4 := E1.out.cell 4
        have k_E1_5 := E1.out.cell 5
        have k_E1_6 := E1.out.cell 6
        have f := E1.out.frozen 4
        have hne : ¬ w.heap.size = w.heap.size + 1 := by omega
        have hb := E1.out.set_ 4 (.int .i64 a1)
        have HE1 := Lib.hid (show Blk (wr.setCell ⟨w.heap.size + 1, 4, none⟩ (.int .i64 a1)) (w.heap.size + 1) 96 #[(.int .i64 0), (.int .i64 0), (.int .i64 0), (.int .i64 a0), (.int .i64 a1), (.int .i64 0), (.int .i64 0)] from hb)
        have HE0' := Lib.hid (HE0.out.far (p := ⟨w.heap.size + 1, 4, none⟩) hne (.int .i64 a1))
        have HBW' := Lib.hid (HBW.out.setCell (p := ⟨w.heap.size + 1, 4, none⟩) (Nat.le_succ _) (.int .i64 a1))
        have HBD' := Lib.hid (show (0 < 2 → a0 ≤ 1099511627776) ∧ (1 < 2 → a1 ≤ 1099511627776) ∧ (2 < 2 → a2 ≤ 1099511627776) ∧ (3 < 2 → a3 ≤ 1099511627776) from ⟨fun _ => HBD.out.1 (by decide), fun _ => hle, fun h => absurd h (by decide), fun h => absurd h (by decide)⟩)
        clear hb hle
        go_wp2_with fail
        go_roundw
        case rel => exact ⟨2, 2, .inr (.inr (.inl ⟨rfl, rfl⟩)), rfl, Lib.hid ⟨_, rfl, HE1.out⟩, HE0', HBW', HBD'⟩
        case measure => simp [intOf]
      · obtain ⟨c, hc, hE1⟩ := HE1.out
        have E1 := Lib.hid (show Blk wr (w.heap.size + 1) 96 #[(.int .i64 0), (.int .i64 0), (.int .i64 0), (.int .i64 a0), (.int .i64 0), (.int .i64 0), (.int .i64 0)] from by rw [hc] at hE1; exact hE1)
        clear hc hE1 HE1
        have hlt1 := E1.out.lt
        have da : decide (1099511627776 < a1) = true := decide_eq_true (by omega)
        clear hle
        have k_HE0_0 := HE0.out.cell 0
        have k_HE0_1 := HE0.out.cell 1
        have k_HE0_2 := HE0.out.cell 2
        have k_HE0_3 := HE0.out.cell 3
        have k_E1_0 := E1.out.cell 0
        have k_E1_1 := E1.out.cell 1
        have k_E1_2 := E1.out.cell 2
        have k_E1_3 := E1.out.cell 3
        have k_E1_4 := E1.out.cell 4
        have k_E1_5 := E1.out.cell 5
        have k_E1_6 := E1.out.cell 6
        go_wp2_with fail
        with_reducible refine (HLV.out _).mono ?_
        rintro e w1 ⟨rfl, hb⟩
        clear k_HE0_0 k_HE0_1 k_HE0_2 k_HE0_3 k_E1_0 k_E1_1 k_E1_2 k_E1_3 k_E1_4 k_E1_5 k_E1_6
        replace HE0 := Lib.hid (blk_below HE0.out hb)
        replace E1 := Lib.hid (blk_below E1.out hb)
        replace HBW := Lib.hid (cbt HBW.out hb)
        clear hb
        have k_HE0_0 := HE0.out.cell 0
        have k_HE0_1 := HE0.out.cell 1
        have k_HE0_2 := HE0.out.cell 2
        have k_HE0_3 := HE0.out.cell 3
        have k_E1_0 := E1.out.cell 0
        have k_E1_1 := E1.out.cell 1
        have k_E1_2 := E1.out.cell 2
        have k_E1_3 := E1.out.cell 3
        have k_E1_4 := E1.out.cell 4
        have k_E1_5 := E1.out.cell 5
        have k_E1_6 := E1.out.cell 6
        go_wp2_with fail
        go_ret
        exact ⟨rfl, HBW.out⟩
    · by_cases hle : a2 ≤ 1099511627776
      · obtain ⟨c, hc, hE1⟩ := HE1.out
        have E1 := Lib.hid (show Blk wr (w.heap.size + 1) 96 #[(.int .i64 0), (.int .i64 0), (.int .i64 0), (.int .i64 a0), (.int .i64 a1), (.int .i64 0), (.int .i64 0)] from by rw [hc] at hE1; exact hE1)
        clear hc hE1 HE1
        have hlt1 := E1.out.lt
        have da : decide (1099511627776 < a2) = false := decide_eq_false (by omega)
        have k_HE0_0 := HE0.out.cell 0
        have k_HE0_1 := HE0.out.cell 1
        have k_HE0_2 := HE0.out.cell 2
        have k_HE0_3 := HE0.out.cell 3
        have k_E1_0 := E1.out.cell 0
        have k_E1_1 := E1.out.cell 1
        have k_E1_2 := E1.out.cell 2
        have k_E1_3 := E1.out.cell 3
        have k_E1_4 := E1.out.cell 4
        have k_E1_5 := E1.out.cell 5
        have k_E1_6 := E1.out.cell 6
        have f := E1.out.frozen 5
        have hne : ¬ w.heap.size = w.heap.size + 1 := by omega
        have hb := E1.out.set_ 5 (.int .i64 a2)
        have HE1 := Lib.hid (show Blk (wr.setCell ⟨w.heap.size + 1, 5, none⟩ (.int .i64 a2)) (w.heap.size + 1) 96 #[(.int .i64 0), (.int .i64 0), (.int .i64 0), (.int .i64 a0), (.int .i64 a1), (.int .i64 a2), (.int .i64 0)] from hb)
        have HE0' := Lib.hid (HE0.out.far (p := ⟨w.heap.size + 1, 5, none⟩) hne (.int .i64 a2))
        have HBW' := Lib.hid (HBW.out.setCell (p := ⟨w.heap.size + 1, 5, none⟩) (Nat.le_succ _) (.int .i64 a2))
        have HBD' := Lib.hid (show (0 < 3 → a0 ≤ 1099511627776) ∧ (1 < 3 → a1 ≤ 1099511627776) ∧ (2 < 3 → a2 ≤ 1099511627776) ∧ (3 < 3 → a3 ≤ 1099511627776) from ⟨fun _ => HBD.out.1 (by decide), fun _ => HBD.out.2.1 (by decide), fun _ => hle, fun h => absurd h (by decide)⟩)
        clear hb hle
        go_wp2_with fail
        go_roundw
        case rel => exact ⟨3, 3, .inr (.inr (.inr (.inl ⟨rfl, rfl⟩))), rfl, Lib.hid ⟨_, rfl, HE1.out⟩, HE0', HBW', HBD'⟩
        case measure => simp [intOf]
      · obtain ⟨c, hc, hE1⟩ := HE1.out
        have E1 := Lib.hid (show Blk wr (w.heap.size + 1) 96 #[(.int .i64 0), (.int .i64 0), (.int .i64 0), (.int .i64 a0), (.int .i64 a1), (.int .i64 0), (.int .i64 0)] from by rw [hc] at hE1; exact hE1)
        clear hc hE1 HE1
        have hlt1 := E1.out.lt
        have da : decide (1099511627776 < a2) = true := decide_eq_true (by omega)
        clear hle
        have k_HE0_0 := HE0.out.cell 0
        have k_HE0_1 := HE0.out.cell 1
        have k_HE0_2 := HE0.out.cell 2
        have k_HE0_3 := HE0.out.cell 3
        have k_E1_0 := E1.out.cell 0
        have k_E1_1 := E1.out.cell 1
        have k_E1_2 := E1.out.cell 2
        have k_E1_3 := E1.out.cell 3
        have k_E1_4 := E1.out.cell 4
        have k_E1_5 := E1.out.cell 5
        have k_E1_6 := E1.out.cell 6
        go_wp2_with fail
        with_reducible refine (HLV.out _).mono ?_
        rintro e w1 ⟨rfl, hb⟩
        clear k_HE0_0 k_HE0_1 k_HE0_2 k_HE0_3 k_E1_0 k_E1_1 k_E1_2 k_E1_3 k_E1_4 k_E1_5 k_E1_6
        replace HE0 := Lib.hid (blk_below HE0.out hb)
        replace E1 := Lib.hid (blk_below E1.out hb)
        replace HBW := Lib.hid (cbt HBW.out hb)
        clear hb
        have k_HE0_0 := HE0.out.cell 0
        have k_HE0_1 := HE0.out.cell 1
        have k_HE0_2 := HE0.out.cell 2
        have k_HE0_3 := HE0.out.cell 3
        have k_E1_0 := E1.out.cell 0
        have k_E1_1 := E1.out.cell 1
        have k_E1_2 := E1.out.cell 2
        have k_E1_3 := E1.out.cell 3
        have k_E1_4 := E1.out.cell 4
        have k_E1_5 := E1.out.cell 5
        have k_E1_6 := E1.out.cell 6
        go_wp2_with fail
        go_ret
        exact ⟨rfl, HBW.out⟩
    · by_cases hle : a3 ≤ 1099511627776
      · obtain ⟨c, hc, hE1⟩ := HE1.out
        have E1 := Lib.hid (show Blk wr (w.heap.size + 1) 96 #[(.int .i64 0), (.int .i64 0), (.int .i64 0), (.int .i64 a0), (.int .i64 a1), (.int .i64 a2), (.int .i64 0)] from by rw [hc] at hE1; exact hE1)
        clear hc hE1 HE1
        have hlt1 := E1.out.lt
        have da : decide (1099511627776 < a3) = false := decide_eq_false (by omega)
        have k_HE0_0 := HE0.out.cell 0
        have k_HE0_1 := HE0.out.cell 1
        have k_HE0_2 := HE0.out.cell 2
        have k_HE0_3 := HE0.out.cell 3
        have k_E1_0 := E1.out.cell 0
        have k_E1_1 := E1.out.cell 1
        have k_E1_2 := E1.out.cell 2
        have k_E1_3 := E1.out.cell 3
        have k_E1_4 := E1.out.cell 4
        have k_E1_5 := E1.out.cell 5
        have k_E1_6 := E1.out.cell 6
        have f := E1.out.frozen 6
        have hne : ¬ w.heap.size = w.heap.size + 1 := by omega
        have hb := E1.out.set_ 6 (.int .i64 a3)
        have HE1 := Lib.hid (show Blk (wr.setCell ⟨w.heap.size + 1, 6, none⟩ (.int .i64 a3)) (w.heap.size + 1) 96 #[(.int .i64 0), (.int .i64 0), (.int .i64 0), (.int .i64 a0), (.int .i64 a1), (.int .i64 a2), (.int .i64 a3)] from hb)
        have HE0' := Lib.hid (HE0.out.far (p := ⟨w.heap.size + 1, 6, none⟩) hne (.int .i64 a3))
        have HBW' := Lib.hid (HBW.out.setCell (p := ⟨w.heap.size + 1, 6, none⟩) (Nat.le_succ _) (.int .i64 a3))
        have HBD' := Lib.hid (show (0 < 4 → a0 ≤ 1099511627776) ∧ (1 < 4 → a1 ≤ 1099511627776) ∧ (2 < 4 → a2 ≤ 1099511627776) ∧ (3 < 4 → a3 ≤ 1099511627776) from ⟨fun _ => HBD.out.1 (by decide), fun _ => HBD.out.2.1 (by decide), fun _ => HBD.out.2.2.1 (by decide), fun _ => hle⟩)
        clear hb hle
        go_wp2_with fail
        go_roundw
        case rel => exact ⟨4, 4, .inr (.inr (.inr (.inr (⟨rfl, rfl⟩)))), rfl, Lib.hid ⟨_, rfl, HE1.out⟩, HE0', HBW', HBD'⟩
        case measure => simp [intOf]
      · obtain ⟨c, hc, hE1⟩ := HE1.out
        have E1 := Lib.hid (show Blk wr (w.heap.size + 1) 96 #[(.int .i64 0), (.int .i64 0), (.int .i64 0), (.int .i64 a0), (.int .i64 a1), (.int .i64 a2), (.int .i64 0)] from by rw [hc] at hE1; exact hE1)
        clear hc hE1 HE1
        have hlt1 := E1.out.lt
        have da : decide (1099511627776 < a3) = true := decide_eq_true (by omega)
        clear hle
        have k_HE0_0 := HE0.out.cell 0
        have k_HE0_1 := HE0.out.cell 1
        have k_HE0_2 := HE0.out.cell 2
        have k_HE0_3 := HE0.out.cell 3
        have k_E1_0 := E1.out.cell 0
        have k_E1_1 := E1.out.cell 1
        have k_E1_2 := E1.out.cell 2
        have k_E1_3 := E1.out.cell 3
        have k_E1_4 := E1.out.cell 4
        have k_E1_5 := E1.out.cell 5
        have k_E1_6 := E1.out.cell 6
        go_wp2_with fail
        with_reducible refine (HLV.out _).mono ?_
        rintro e w1 ⟨rfl, hb⟩
        clear k_HE0_0 k_HE0_1 k_HE0_2 k_HE0_3 k_E1_0 k_E1_1 k_E1_2 k_E1_3 k_E1_4 k_E1_5 k_E1_6
        replace HE0 := Lib.hid (blk_below HE0.out hb)
        replace E1 := Lib.hid (blk_below E1.out hb)
        replace HBW := Lib.hid (cbt HBW.out hb)
        clear hb
        have k_HE0_0 := HE0.out.cell 0
        have k_HE0_1 := HE0.out.cell 1
        have k_HE0_2 := HE0.out.cell 2
        have k_HE0_3 := HE0.out.cell 3
        have k_E1_0 := E1.out.cell 0
        have k_E1_1 := E1.out.cell 1
        have k_E1_2 := E1.out.cell 2
        have k_E1_3 := E1.out.cell 3
        have k_E1_4 := E1.out.cell 4
        have k_E1_5 := E1.out.cell 5
        have k_E1_6 := E1.out.cell 6
        go_wp2_with fail
        go_ret
        exact ⟨rfl, HBW.out⟩
    · obtain ⟨c, hc, hE1⟩ := HE1.out
      have E1 := Lib.hid (show Blk wr (w.heap.size + 1) 96 #[(.int .i64 0), (.int .i64 0), (.int .i64 0), (.int .i64 a0), (.int .i64 a1), (.int .i64 a2), (.int .i64 a3)] from by rw [hc] at hE1; exact hE1)
      clear hc hE1 HE1
      have hbd := HBD.out
      clear HBD
      obtain ⟨m1, h1, b1⟩ := max_nat a0 (hbd.1 (by decide))
      obtain ⟨m2, h2, b2⟩ := max_nat a1 (hbd.2.1 (by decide))
      obtain ⟨m3, h3, b3⟩ := max_nat a2 (hbd.2.2.1 (by decide))
      obtain ⟨m4, h4, b4⟩ := max_nat a3 (hbd.2.2.2 (by decide))
      have HDO := Lib.hid (fun W => dof_any 0 0 0 a0 a1 a2 a3 m1 m2 m3 m4 h1 h2 h3 h4 b1 b2 b3 b4 W)
      have HRC := Lib.hid (fun W => rowc_any 0 0 0 a0 a1 a2 a3 m1 m2 m3 m4 h1 h2 h3 h4 W)
      have HRO := Lib.hid (fun W => rdof_any 0 0 m1 m2 m3 m4 b1 b2 b3 b4 W)
      have s1 := dNum_sz (k := 1) b1 b2 b1 b2 (by decide)
      have l1 := dNum_le m1 m2 1 m1 m2
      have s2 := dNum_sz (k := 2) b1 b2 b2 b3 (by decide)
      have l2 := dNum_le m1 m2 2 m2 m3
      have s3 := dNum_sz (k := 3) b1 b2 b3 b4 (by decide)
      have l3 := dNum_le m1 m2 3 m3 m4
      generalize (dNum m1 m2 1 m1 m2) = d1 at *
      generalize (dNum m1 m2 2 m2 m3) = d2 at *
      generalize (dNum m1 m2 3 m3 m4) = d3 at *
      obtain ⟨d0, hd0⟩ : ∃ d : Nat × Nat, d = (0, 1) := ⟨_, rfl⟩
      have s0 : Sz 80 d0 := by rw [hd0]; exact Sz.zero.mono (by decide)
      have l0 : d0.1 ≤ 0 * d0.2 := by rw [hd0]; exact Nat.le_refl _
      have HIS0 := Lib.hid (fun va vb W h1 h2 => c_is (va := va) (vb := vb) (W := W) (B := 80) (by decide) s0 h1 h2)
      have HXI0 : Hid (∀ W, Calls Try.prog 70 #[.int .i64 0] W (MkR W 0 1)) := Lib.hid (fun W => xwhole 0 (by decide) W)
      have HXC0 : Hid (∀ va vb W, RF W va d0.1 d0.2 → RF W vb 0 1 → Calls Try.prog 76 #[va, vb] W fun x w' => x = .returned (.int .i64 (cmpN (d0.1 * 1) (0 * d0.2))) ∧ Below W.heap.size W w') := Lib.hid (fun va vb W h1 h2 => xcmp_any va vb d0.1 d0.2 0 1 W h1 h2 (Nat.le_trans s0.1 (by decide)) (Nat.le_trans s0.2 (by decide)) (Nat.le_trans (sz_int (by decide)).1 (by decide)) (Nat.le_trans (sz_int (x := 0) (by decide)).2 (by decide)))
      have HNC0 : Hid (decide (0 < cmpN (d0.1 * 1) (0 * d0.2)) = false) := Lib.hid (decide_eq_false (cmp_le0 (by rw [Nat.mul_one]; exact l0)))
      generalize cmpN (d0.1 * 1) (0 * d0.2) = cc0 at *
      have HIS1 := Lib.hid (fun va vb W h1 h2 => c_is (va := va) (vb := vb) (W := W) (B := 80) (by decide) s1 h1 h2)
      have HXI1 : Hid (∀ W, Calls Try.prog 70 #[.int .i64 1] W (MkR W 1 1)) := Lib.hid (fun W => xwhole 1 (by decide) W)
      have HXC1 : Hid (∀ va vb W, RF W va d1.1 d1.2 → RF W vb 1 1 → Calls Try.prog 76 #[va, vb] W fun x w' => x = .returned (.int .i64 (cmpN (d1.1 * 1) (1 * d1.2))) ∧ Below W.heap.size W w') := Lib.hid (fun va vb W h1 h2 => xcmp_any va vb d1.1 d1.2 1 1 W h1 h2 (Nat.le_trans s1.1 (by decide)) (Nat.le_trans s1.2 (by decide)) (Nat.le_trans (sz_int (by decide)).1 (by decide)) (Nat.le_trans (sz_int (x := 1) (by decide)).2 (by decide)))
      have HNC1 : Hid (decide (0 < cmpN (d1.1 * 1) (1 * d1.2)) = false) := Lib.hid (decide_eq_false (cmp_le0 (by rw [Nat.mul_one]; exact l1)))
      generalize cmpN (d1.1 * 1) (1 * d1.2) = cc1 at *
      have HIS2 := Lib.hid (fun va vb W h1 h2 => c_is (va := va) (vb := vb) (W := W) (B := 80) (by decide) s2 h1 h2)
      have HXI2 : Hid (∀ W, Calls Try.prog 70 #[.int .i64 2] W (MkR W 2 1)) := Lib.hid (fun W => xwhole 2 (by decide) W)
      have HXC2 : Hid (∀ va vb W, RF W va d2.1 d2.2 → RF W vb 2 1 → Calls Try.prog 76 #[va, vb] W fun x w' => x = .returned (.int .i64 (cmpN (d2.1 * 1) (2 * d2.2))) ∧ Below W.heap.size W w') := Lib.hid (fun va vb W h1 h2 => xcmp_any va vb d2.1 d2.2 2 1 W h1 h2 (Nat.le_trans s2.1 (by decide)) (Nat.le_trans s2.2 (by decide)) (Nat.le_trans (sz_int (by decide)).1 (by decide)) (Nat.le_trans (sz_int (x := 2) (by decide)).2 (by decide)))
      have HNC2 : Hid (decide (0 < cmpN (d2.1 * 1) (2 * d2.2)) = false) := Lib.hid (decide_eq_false (cmp_le0 (by rw [Nat.mul_one]; exact l2)))
      generalize cmpN (d2.1 * 1) (2 * d2.2) = cc2 at *
      have HIS3 := Lib.hid (fun va vb W h1 h2 => c_is (va := va) (vb := vb) (W := W) (B := 80) (by decide) s3 h1 h2)
      have HXI3 : Hid (∀ W, Calls Try.prog 70 #[.int .i64 3] W (MkR W 3 1)) := Lib.hid (fun W => xwhole 3 (by decide) W)
      have HXC3 : Hid (∀ va vb W, RF W va d3.1 d3.2 → RF W vb 3 1 → Calls Try.prog 76 #[va, vb] W fun x w' => x = .returned (.int .i64 (cmpN (d3.1 * 1) (3 * d3.2))) ∧ Below W.heap.size W w') := Lib.hid (fun va vb W h1 h2 => xcmp_any va vb d3.1 d3.2 3 1 W h1 h2 (Nat.le_trans s3.1 (by decide)) (Nat.le_trans s3.2 (by decide)) (Nat.le_trans (sz_int (by decide)).1 (by decide)) (Nat.le_trans (sz_int (x := 3) (by decide)).2 (by decide)))
      have HNC3 : Hid (decide (0 < cmpN (d3.1 * 1) (3 * d3.2)) = false) := Lib.hid (decide_eq_false (cmp_le0 (by rw [Nat.mul_one]; exact l3)))
      generalize cmpN (d3.1 * 1) (3 * d3.2) = cc3 at *
      have HD0 := Lib.hid hd0
      have HKW := Lib.hid hk
      clear hd0 h1 h2 h3 h4 b1 b2 b3 b4 hbd s0 s1 s2 s3 l0 l1 l2 l3 hk
      have k_E1_0 := E1.out.cell 0
      have k_E1_1 := E1.out.cell 1
      have k_E1_2 := E1.out.cell 2
      have k_E1_3 := E1.out.cell 3
      have k_E1_4 := E1.out.cell 4
      have k_E1_5 := E1.out.cell 5
      have k_E1_6 := E1.out.cell 6
      go_wp2_with fail
      with_reducible refine (HDO.out _).mono ?_
      rintro e w1 ⟨v7, rfl, hu, hb⟩
      clear k_E1_0 k_E1_1 k_E1_2 k_E1_3 k_E1_4 k_E1_5 k_E1_6
      replace E1 := Lib.hid (blk_below E1.out hb)
      replace HBW := Lib.hid (cbt HBW.out hb)
      clear hb
      have k_E1_0 := E1.out.cell 0
      have k_E1_1 := E1.out.cell 1
      have k_E1_2 := E1.out.cell 2
      have k_E1_3 := E1.out.cell 3
      have k_E1_4 := E1.out.cell 4
      have k_E1_5 := E1.out.cell 5
      have k_E1_6 := E1.out.cell 6
      obtain ⟨A0, p0, c0, B0, q0, u0, A1, p1, c1, B1, q1, u1, A2, p2, c2, B2, q2, u2, A3, p3, c3, B3, q3, u3, rfl, hs0, hs1, hs2, hs3⟩ := hu
      rw [← HD0.out] at hs0
      have F0 := Lib.hid hs0
      have F1 := Lib.hid hs1
      have F2 := Lib.hid hs2
      have F3 := Lib.hid hs3
      clear hs0 hs1 hs2 hs3
      have e7 := Blk.new w1 99 #[.slice A0 p0 c0, .slice B0 q0 u0, .slice A1 p1 c1, .slice B1 q1 u1, .slice A2 p2 c2, .slice B2 q2 u2, .slice A3 p3 c3, .slice B3 q3 u3]
      have hb := cba (Below.refl _ w1) (.cells #[.slice A0 p0 c0, .slice B0 q0 u0, .slice A1 p1 c1, .slice B1 q1 u1, .slice A2 p2 c2, .slice B2 q2 u2, .slice A3 p3 c3, .slice B3 q3 u3] 99)
      go_upto_region 9 with (fail)
      obtain ⟨X, hX⟩ : ∃ X, w1.alloc (.cells #[.slice A0 p0 c0, .slice B0 q0 u0, .slice A1 p1 c1, .slice B1 q1 u1, .slice A2 p2 c2, .slice B2 q2 u2, .slice A3 p3 c3, .slice B3 q3 u3] 99) = X := ⟨_, rfl⟩
      rw [hX] at e7 hb ⊢
      obtain ⟨g7, hg⟩ : ∃ g, w1.heap.size = g := ⟨_, rfl⟩
      rw [hg] at e7
      simp only [hg]
      replace HBW := Lib.hid (cbt HBW.out hb)
      replace F0 := Lib.hid (F0.out.below hb)
      replace F1 := Lib.hid (F1.out.below hb)
      replace F2 := Lib.hid (F2.out.below hb)
      replace F3 := Lib.hid (F3.out.below hb)
      replace E1 := Lib.hid (blk_below E1.out hb)
      have E7 := Lib.hid e7
      clear hX hg hb e7
      clear k_E1_0 k_E1_1 k_E1_2 k_E1_3 k_E1_4 k_E1_5 k_E1_6
      have k_E1_0 := E1.out.cell 0
      have k_E1_1 := E1.out.cell 1
      have k_E1_2 := E1.out.cell 2
      have k_E1_3 := E1.out.cell 3
      have k_E1_4 := E1.out.cell 4
      have k_E1_5 := E1.out.cell 5
      have k_E1_6 := E1.out.cell 6
      have k_E7_0 := E7.out.cell 0
      have k_E7_1 := E7.out.cell 1
      have k_E7_2 := E7.out.cell 2
      have k_E7_3 := E7.out.cell 3
      have k_E7_4 := E7.out.cell 4
      have k_E7_5 := E7.out.cell 5
      have k_E7_6 := E7.out.cell 6
      have k_E7_7 := E7.out.cell 7
      go_wp2_with fail
      with_reducible refine (HRC.out _).mono ?_
      rintro e w2 ⟨rfl, hb⟩
      clear k_E1_0 k_E1_1 k_E1_2 k_E1_3 k_E1_4 k_E1_5 k_E1_6 k_E7_0 k_E7_1 k_E7_2 k_E7_3 k_E7_4 k_E7_5 k_E7_6 k_E7_7
      replace F0 := Lib.hid (F0.out.below hb)
      replace F1 := Lib.hid (F1.out.below hb)
      replace F2 := Lib.hid (F2.out.below hb)
      replace F3 := Lib.hid (F3.out.below hb)
      replace E1 := Lib.hid (blk_below E1.out hb)
      replace E7 := Lib.hid (blk_below E7.out hb)
      replace HBW := Lib.hid (cbt HBW.out hb)
      clear hb
      have k_E1_0 := E1.out.cell 0
      have k_E1_1 := E1.out.cell 1
      have k_E1_2 := E1.out.cell 2
      have k_E1_3 := E1.out.cell 3
      have k_E1_4 := E1.out.cell 4
      have k_E1_5 := E1.out.cell 5
      have k_E1_6 := E1.out.cell 6
      have k_E7_0 := E7.out.cell 0
      have k_E7_1 := E7.out.cell 1
      have k_E7_2 := E7.out.cell 2
      have k_E7_3 := E7.out.cell 3
      have k_E7_4 := E7.out.cell 4
      have k_E7_5 := E7.out.cell 5
      have k_E7_6 := E7.out.cell 6
      have k_E7_7 := E7.out.cell 7
      go_wp2_with fail
      with_reducible refine (HRO.out _).mono ?_
      rintro e w3 ⟨v8, rfl, hu, hb⟩
      clear k_E1_0 k_E1_1 k_E1_2 k_E1_3 k_E1_4 k_E1_5 k_E1_6 k_E7_0 k_E7_1 k_E7_2 k_E7_3 k_E7_4 k_E7_5 k_E7_6 k_E7_7
      replace F0 := Lib.hid (F0.out.below hb)
      replace F1 := Lib.hid (F1.out.below hb)
      replace F2 := Lib.hid (F2.out.below hb)
      replace F3 := Lib.hid (F3.out.below hb)
      replace E1 := Lib.hid (blk_below E1.out hb)
      replace E7 := Lib.hid (blk_below E7.out hb)
      replace HBW := Lib.hid (cbt HBW.out hb)
      clear hb
      have k_E1_0 := E1.out.cell 0
      have k_E1_1 := E1.out.cell 1
      have k_E1_2 := E1.out.cell 2
      have k_E1_3 := E1.out.cell 3
      have k_E1_4 := E1.out.cell 4
      have k_E1_5 := E1.out.cell 5
      have k_E1_6 := E1.out.cell 6
      have k_E7_0 := E7.out.cell 0
      have k_E7_1 := E7.out.cell 1
      have k_E7_2 := E7.out.cell 2
      have k_E7_3 := E7.out.cell 3
      have k_E7_4 := E7.out.cell 4
      have k_E7_5 := E7.out.cell 5
      have k_E7_6 := E7.out.cell 6
      have k_E7_7 := E7.out.cell 7
      obtain ⟨AR0, pR0, cR0, BR0, qR0, uR0, AR1, pR1, cR1, BR1, qR1, uR1, AR2, pR2, cR2, BR2, qR2, uR2, AR3, pR3, cR3, BR3, qR3, uR3, rfl, hs0, hs1, hs2, hs3⟩ := hu
      rw [← HD0.out] at hs0
      have R0 := Lib.hid hs0
      have R1 := Lib.hid hs1
      have R2 := Lib.hid hs2
      have R3 := Lib.hid hs3
      clear hs0 hs1 hs2 hs3 k_E1_0 k_E1_1 k_E1_2 k_E1_3 k_E1_4 k_E1_5 k_E1_6 k_E7_0 k_E7_1 k_E7_2 k_E7_3 k_E7_4 k_E7_5 k_E7_6 k_E7_7
      have e7 := Blk.new w3 101 #[.slice AR0 pR0 cR0, .slice BR0 qR0 uR0, .slice AR1 pR1 cR1, .slice BR1 qR1 uR1, .slice AR2 pR2 cR2, .slice BR2 qR2 uR2, .slice AR3 pR3 cR3, .slice BR3 qR3 uR3]
      have hb := cba (Below.refl _ w3) (.cells #[.slice AR0 pR0 cR0, .slice BR0 qR0 uR0, .slice AR1 pR1 cR1, .slice BR1 qR1 uR1, .slice AR2 pR2 cR2, .slice BR2 qR2 uR2, .slice AR3 pR3 cR3, .slice BR3 qR3 uR3] 101)
      go_upto_region 10 with (fail)
      obtain ⟨Y, hX⟩ : ∃ X, w3.alloc (.cells #[.slice AR0 pR0 cR0, .slice BR0 qR0 uR0, .slice AR1 pR1 cR1, .slice BR1 qR1 uR1, .slice AR2 pR2 cR2, .slice BR2 qR2 uR2, .slice AR3 pR3 cR3, .slice BR3 qR3 uR3] 101) = X := ⟨_, rfl⟩
      rw [hX] at e7 hb ⊢
      obtain ⟨g8, hg⟩ : ∃ g, w3.heap.size = g := ⟨_, rfl⟩
      rw [hg] at e7
      simp only [hg]
      replace HBW := Lib.hid (cbt HBW.out hb)
      replace F0 := Lib.hid (F0.out.below hb)
      replace F1 := Lib.hid (F1.out.below hb)
      replace F2 := Lib.hid (F2.out.below hb)
      replace F3 := Lib.hid (F3.out.below hb)
      replace R0 := Lib.hid (R0.out.below hb)
      replace R1 := Lib.hid (R1.out.below hb)
      replace R2 := Lib.hid (R2.out.below hb)
      replace R3 := Lib.hid (R3.out.below hb)
      replace E7 := Lib.hid (blk_below E7.out hb)
      have E8 := Lib.hid e7
      clear hX hg hb e7
      clear E1 HDO HRC HRO HE0
      go_wp2_with fail
      go_loopw [9] (fun v9 wr => ∃ (n : Nat) (j : Int), (n = 0 ∧ j = 0 ∨ n = 1 ∧ j = 1 ∨ n = 2 ∧ j = 2 ∨ n = 3 ∧ j = 3 ∨ n = 4 ∧ j = 4) ∧ v9 = .int .i64 j ∧ Hid (Below Y.heap.size Y wr)) (fun v9 _ => 5 - (intOf v9).toNat)
      case atStart => exact ⟨0, 0, .inl ⟨rfl, rfl⟩, rfl, Lib.hid (Below.refl _ _)⟩
      case round =>
        obtain ⟨n, j, hn, rfl, HBY⟩ := hrel
        replace F0 := Lib.hid (F0.out.below HBY.out)
        replace F1 := Lib.hid (F1.out.below HBY.out)
        replace F2 := Lib.hid (F2.out.below HBY.out)
        replace F3 := Lib.hid (F3.out.below HBY.out)
        replace R0 := Lib.hid (R0.out.below HBY.out)
        replace R1 := Lib.hid (R1.out.below HBY.out)
        replace R2 := Lib.hid (R2.out.below HBY.out)
        replace R3 := Lib.hid (R3.out.below HBY.out)
        replace E7 := Lib.hid (blk_below E7.out HBY.out)
        replace E8 := Lib.hid (blk_below E8.out HBY.out)
        rcases hn with ⟨rfl, rfl⟩ | ⟨rfl, rfl⟩ | ⟨rfl, rfl⟩ | ⟨rfl, rfl⟩ | ⟨rfl, rfl⟩
        · have hnc := HNC0.out
          go_wp2_with fail
          let FS : List Kept1 := [.eq (.int .i64 0), .eq (.pointer (some ⟨g7, 0, none⟩)), .eq (.pointer (some ⟨g7, 0, none⟩)), .f (d0.1) (d0.2), .eq (.int .i64 0), .eq (.pointer (some ⟨g8, 0, none⟩)), .rf (d0.1) (d0.2), .eq (.bool true), .eq (.bool false), .eq (.bool false), .eq (.int .i64 0), .eq (.pointer (some ⟨g8, 0, none⟩)), .rf (d0.1) (d0.2), .eq (.int .i64 0), .rf (0) (1), .eq (.int .i64 cc0), .eq (.bool false), .eq (.bool false)]
          refine region_mono (Held wr (fun j => FS.getD j .any) []) (by kernel_rfl) (by kernel_rfl) (by kernel_rfl) (Held.start _ _ _ (by simp) (by simp)) ?_
          refine Steps.held ?_ ?_
          · intro L v w' hJ
            go_wp2_with fail
            exact ⟨rfl, rfl, hJ.out.same (by rfl) (rfl)⟩
          simp only [Act.put, List.setIfInBounds_toArray, List.set_cons_zero, List.set_cons_succ, Nat.reduceAdd]
          refine Steps.held ?_ ?_
          · intro L v w' hJ
            go_wp2_with fail
            exact ⟨rfl, rfl, hJ.out.same (by rfl) (rfl)⟩
          simp only [Act.put, List.setIfInBounds_toArray, List.set_cons_zero, List.set_cons_succ, Nat.reduceAdd]
          refine Steps.held ?_ ?_
          · intro L v w' hJ
            have hv1 : v 1 = .pointer (some ⟨g7, 0, none⟩) := hJ.out.fact 1 (by kernel_rfl)
            simp only [hv1]
            clear hv1
            have hv0 : v 0 = .int .i64 0 := hJ.out.fact 0 (by kernel_rfl)
            simp only [hv0]
            clear hv0
            go_wp2_with fail
            exact ⟨rfl, rfl, hJ.out.same (by rfl) (rfl)⟩
          simp only [Act.put, List.setIfInBounds_toArray, List.set_cons_zero, List.set_cons_succ, Nat.reduceAdd]
          refine Steps.held ?_ ?_
          · intro L v w' hJ
            have hv2 : v 2 = .pointer (some ⟨g7, 0, none⟩) := hJ.out.fact 2 (by kernel_rfl)
            simp only [hv2]
            clear hv2
            have kb := hJ.out.blk E7.out (by simp [oldsOf])
            have k0 := kb.cell 0
            have k1 := kb.cell 1
            have k2 := kb.cell 2
            have k3 := kb.cell 3
            have k4 := kb.cell 4
            have k5 := kb.cell 5
            have k6 := kb.cell 6
            have k7 := kb.cell 7
            clear kb
            go_wp2_with fail
            exact ⟨rfl, rfl, hJ.out.same (by rfl) (F0.out.keep hJ.out.held.keep)⟩
          simp only [Act.put, List.setIfInBounds_toArray, List.set_cons_zero, List.set_cons_succ, Nat.reduceAdd]
          refine Steps.held ?_ ?_
          · intro L v w' hJ
            go_wp2_with fail
            exact ⟨rfl, rfl, hJ.out.same (by rfl) (rfl)⟩
          simp only [Act.put, List.setIfInBounds_toArray, List.set_cons_zero, List.set_cons_succ, Nat.reduceAdd]
          refine Steps.held ?_ ?_
          · intro L v w' hJ
            have hv4 : v 4 = .int .i64 0 := hJ.out.fact 4 (by kernel_rfl)
            simp only [hv4]
            clear hv4
            go_wp2_with fail
            exact ⟨rfl, rfl, hJ.out.same (by rfl) (rfl)⟩
          simp only [Act.put, List.setIfInBounds_toArray, List.set_cons_zero, List.set_cons_succ, Nat.reduceAdd]
          refine Steps.held ?_ ?_
          · intro L v w' hJ
            have hv5 : v 5 = .pointer (some ⟨g8, 0, none⟩) := hJ.out.fact 5 (by kernel_rfl)
            simp only [hv5]
            clear hv5
            have kb := hJ.out.blk E8.out (by simp [oldsOf])
            have k0 := kb.cell 0
            have k1 := kb.cell 1
            have k2 := kb.cell 2
            have k3 := kb.cell 3
            have k4 := kb.cell 4
            have k5 := kb.cell 5
            have k6 := kb.cell 6
            have k7 := kb.cell 7
            clear kb
            go_wp2_with fail
            exact ⟨rfl, rfl, hJ.out.same (by rfl) (R0.out.keep hJ.out.held.keep)⟩
          simp only [Act.put, List.setIfInBounds_toArray, List.set_cons_zero, List.set_cons_succ, Nat.reduceAdd]
          refine Steps.held ?_ ?_
          · intro L v w' hJ
            have X0 := Lib.hid (show F64 w' (v 3) (d0.1) (d0.2) from hJ.out.fact 3 (by kernel_rfl))
            have X1 := Lib.hid (show RF w' (v 6) (d0.1) (d0.2) from hJ.out.fact 6 (by kernel_rfl))
            go_wp2_with fail
            with_reducible refine (HIS0.out _ _ _ X0.out X1.out).mono ?_
            rintro e w1 ⟨rfl, hb⟩
            go_wp2_with fail
            exact ⟨rfl, rfl, hJ.out.call (by rfl) hb (rfl)⟩
          simp only [Act.put, List.setIfInBounds_toArray, List.set_cons_zero, List.set_cons_succ, Nat.reduceAdd]
          refine Steps.held ?_ ?_
          · intro L v w' hJ
            have hv7 : v 7 = .bool true := hJ.out.fact 7 (by kernel_rfl)
            simp only [hv7]
            clear hv7
            go_wp2_with fail
            exact ⟨rfl, rfl, hJ.out.same (by rfl) (rfl)⟩
          simp only [Act.put, List.setIfInBounds_toArray, List.set_cons_zero, List.set_cons_succ, Nat.reduceAdd]
          refine Steps.held ?_ ?_
          · intro L v w' hJ
            have hv8 : v 8 = .bool false := hJ.out.fact 8 (by kernel_rfl)
            simp only [hv8]
            clear hv8
            go_wp2_with fail
            exact ⟨rfl, rfl, hJ.out.same (by rfl) (rfl)⟩
          simp only [Act.put, List.setIfInBounds_toArray, List.set_cons_zero, List.set_cons_succ, Nat.reduceAdd]
          refine Steps.held ?_ ?_
          · intro L v w' hJ
            have hv9 : v 9 = .bool false := hJ.out.fact 9 (by kernel_rfl)
            simp only [hv9]
            clear hv9
            go_wp2_with fail
            exact ⟨rfl, rfl, hJ.out.same (by rfl) (rfl)⟩
          simp only [Act.put, List.setIfInBounds_toArray, List.set_cons_zero, List.set_cons_succ, Nat.reduceAdd]
          refine Steps.held ?_ ?_
          · intro L v w' hJ
            have hv10 : v 10 = .int .i64 0 := hJ.out.fact 10 (by kernel_rfl)
            simp only [hv10]
            clear hv10
            have hv9 : v 9 = .bool false := hJ.out.fact 9 (by kernel_rfl)
            simp only [hv9]
            clear hv9
            go_wp2_with fail
            exact ⟨rfl, rfl, hJ.out.same (by rfl) (rfl)⟩
          simp only [Act.put, List.setIfInBounds_toArray, List.set_cons_zero, List.set_cons_succ, Nat.reduceAdd]
          refine Steps.held ?_ ?_
          · intro L v w' hJ
            have hv11 : v 11 = .pointer (some ⟨g8, 0, none⟩) := hJ.out.fact 11 (by kernel_rfl)
            simp only [hv11]
            clear hv11
            have hv9 : v 9 = .bool false := hJ.out.fact 9 (by kernel_rfl)
            simp only [hv9]
            clear hv9
            have kb := hJ.out.blk E8.out (by simp [oldsOf])
            have k0 := kb.cell 0
            have k1 := kb.cell 1
            have k2 := kb.cell 2
            have k3 := kb.cell 3
            have k4 := kb.cell 4
            have k5 := kb.cell 5
            have k6 := kb.cell 6
            have k7 := kb.cell 7
            clear kb
            go_wp2_with fail
            exact ⟨rfl, rfl, hJ.out.same (by rfl) (R0.out.keep hJ.out.held.keep)⟩
          simp only [Act.put, List.setIfInBounds_toArray, List.set_cons_zero, List.set_cons_succ, Nat.reduceAdd]
          refine Steps.held ?_ ?_
          · intro L v w' hJ
            have hv9 : v 9 = .bool false := hJ.out.fact 9 (by kernel_rfl)
            simp only [hv9]
            clear hv9
            go_wp2_with fail
            exact ⟨rfl, rfl, hJ.out.same (by rfl) (rfl)⟩
          simp only [Act.put, List.setIfInBounds_toArray, List.set_cons_zero, List.set_cons_succ, Nat.reduceAdd]
          refine Steps.held ?_ ?_
          · intro L v w' hJ
            have hv13 : v 13 = .int .i64 0 := hJ.out.fact 13 (by kernel_rfl)
            simp only [hv13]
            clear hv13
            have hv9 : v 9 = .bool false := hJ.out.fact 9 (by kernel_rfl)
            simp only [hv9]
            clear hv9
            go_wp2_with fail
            with_reducible refine (HXI0.out _).mono ?_
            rintro e w1 ⟨u, rfl, hu, hb⟩
            go_wp2_with fail
            exact ⟨rfl, rfl, hJ.out.call (by rfl) hb (hu)⟩
          simp only [Act.put, List.setIfInBounds_toArray, List.set_cons_zero, List.set_cons_succ, Nat.reduceAdd]
          refine Steps.held ?_ ?_
          · intro L v w' hJ
            have hv9 : v 9 = .bool false := hJ.out.fact 9 (by kernel_rfl)
            simp only [hv9]
            clear hv9
            have X0 := Lib.hid (show RF w' (v 12) (d0.1) (d0.2) from hJ.out.fact 12 (by kernel_rfl))
            have X1 := Lib.hid (show RF w' (v 14) (0) (1) from hJ.out.fact 14 (by kernel_rfl))
            go_wp2_with fail
            with_reducible refine (HXC0.out _ _ _ X0.out X1.out).mono ?_
            rintro e w1 ⟨rfl, hb⟩
            go_wp2_with fail
            exact ⟨rfl, rfl, hJ.out.call (by rfl) hb (rfl)⟩
          simp only [Act.put, List.setIfInBounds_toArray, List.set_cons_zero, List.set_cons_succ, Nat.reduceAdd]
          refine Steps.held ?_ ?_
          · intro L v w' hJ
            have hv15 : v 15 = .int .i64 cc0 := hJ.out.fact 15 (by kernel_rfl)
            simp only [hv15]
            clear hv15
            have hv9 : v 9 = .bool false := hJ.out.fact 9 (by kernel_rfl)
            simp only [hv9]
            clear hv9
            go_wp2_with fail
            exact ⟨rfl, rfl, hJ.out.same (by rfl) (rfl)⟩
          simp only [Act.put, List.setIfInBounds_toArray, List.set_cons_zero, List.set_cons_succ, Nat.reduceAdd]
          refine Steps.held ?_ ?_
          · intro L v w' hJ
            have hv9 : v 9 = .bool false := hJ.out.fact 9 (by kernel_rfl)
            simp only [hv9]
            clear hv9
            have hv16 : v 16 = .bool false := hJ.out.fact 16 (by kernel_rfl)
            simp only [hv16]
            clear hv16
            go_wp2_with fail
            exact ⟨rfl, rfl, hJ.out.same (by rfl) (rfl)⟩
          simp only [Act.put, List.setIfInBounds_toArray, List.set_cons_zero, List.set_cons_succ, Nat.reduceAdd]
          refine Steps.nil ?_
          intro v w' hJ
          have h17 : v 17 = .bool false := hJ.end_fact 17 (by decide)
          have hbr := hJ.but.below
          replace HBY := Lib.hid (cbt HBY.out hbr)
          clear hJ hbr
          simp only [h17]
          clear h17
          go_wp2_with fail
          go_roundw
          case rel => exact ⟨1, 1, .inr (.inl ⟨rfl, rfl⟩), rfl, HBY⟩
          case measure => simp [intOf]
        · have hnc := HNC1.out
          go_wp2_with fail
          let FS : List Kept1 := [.eq (.int .i64 1), .eq (.pointer (some ⟨g7, 0, none⟩)), .eq (.pointer (some ⟨g7, 2, none⟩)), .f (d1.1) (d1.2), .eq (.int .i64 1), .eq (.pointer (some ⟨g8, 2, none⟩)), .rf (d1.1) (d1.2), .eq (.bool true), .eq (.bool false), .eq (.bool false), .eq (.int .i64 1), .eq (.pointer (some ⟨g8, 2, none⟩)), .rf (d1.1) (d1.2), .eq (.int .i64 1), .rf (1) (1), .eq (.int .i64 cc1), .eq (.bool false), .eq (.bool false)]
          refine region_mono (Held wr (fun j => FS.getD j .any) []) (by kernel_rfl) (by kernel_rfl) (by kernel_rfl) (Held.start _ _ _ (by simp) (by simp)) ?_
          refine Steps.held ?_ ?_
          · intro L v w' hJ
            go_wp2_with fail
            exact ⟨rfl, rfl, hJ.out.same (by rfl) (rfl)⟩
          simp only [Act.put, List.setIfInBounds_toArray, List.set_cons_zero, List.set_cons_succ, Nat.reduceAdd]
          refine Steps.held ?_ ?_
          · intro L v w' hJ
            go_wp2_with fail
            exact ⟨rfl, rfl, hJ.out.same (by rfl) (rfl)⟩
          simp only [Act.put, List.setIfInBounds_toArray, List.set_cons_zero, List.set_cons_succ, Nat.reduceAdd]
          refine Steps.held ?_ ?_
          · intro L v w' hJ
            have hv1 : v 1 = .pointer (some ⟨g7, 0, none⟩) := hJ.out.fact 1 (by kernel_rfl)
            simp only [hv1]
            clear hv1
            have hv0 : v 0 = .int .i64 1 := hJ.out.fact 0 (by kernel_rfl)
            simp only [hv0]
            clear hv0
            go_wp2_with fail
            exact ⟨rfl, rfl, hJ.out.same (by rfl) (rfl)⟩
          simp only [Act.put, List.setIfInBounds_toArray, List.set_cons_zero, List.set_cons_succ, Nat.reduceAdd]
          refine Steps.held ?_ ?_
          · intro L v w' hJ
            have hv2 : v 2 = .pointer (some ⟨g7, 2, none⟩) := hJ.out.fact 2 (by kernel_rfl)
            simp only [hv2]
            clear hv2
            have kb := hJ.out.blk E7.out (by simp [oldsOf])
            have k0 := kb.cell 0
            have k1 := kb.cell 1
            have k2 := kb.cell 2
            have k3 := kb.cell 3
            have k4 := kb.cell 4
            have k5 := kb.cell 5
            have k6 := kb.cell 6
            have k7 := kb.cell 7
            clear kb
            go_wp2_with fail
            exact ⟨rfl, rfl, hJ.out.same (by rfl) (F1.out.keep hJ.out.held.keep)⟩
          simp only [Act.put, List.setIfInBounds_toArray, List.set_cons_zero, List.set_cons_succ, Nat.reduceAdd]
          refine Steps.held ?_ ?_
          · intro L v w' hJ
            go_wp2_with fail
            exact ⟨rfl, rfl, hJ.out.same (by rfl) (rfl)⟩
          simp only [Act.put, List.setIfInBounds_toArray, List.set_cons_zero, List.set_cons_succ, Nat.reduceAdd]
          refine Steps.held ?_ ?_
          · intro L v w' hJ
            have hv4 : v 4 = .int .i64 1 := hJ.out.fact 4 (by kernel_rfl)
            simp only [hv4]
            clear hv4
            go_wp2_with fail
            exact ⟨rfl, rfl, hJ.out.same (by rfl) (rfl)⟩
          simp only [Act.put, List.setIfInBounds_toArray, List.set_cons_zero, List.set_cons_succ, Nat.reduceAdd]
          refine Steps.held ?_ ?_
          · intro L v w' hJ
            have hv5 : v 5 = .pointer (some ⟨g8, 2, none⟩) := hJ.out.fact 5 (by kernel_rfl)
            simp only [hv5]
            clear hv5
            have kb := hJ.out.blk E8.out (by simp [oldsOf])
            have k0 := kb.cell 0
            have k1 := kb.cell 1
            have k2 := kb.cell 2
            have k3 := kb.cell 3
            have k4 := kb.cell 4
            have k5 := kb.cell 5
            have k6 := kb.cell 6
            have k7 := kb.cell 7
            clear kb
            go_wp2_with fail
            exact ⟨rfl, rfl, hJ.out.same (by rfl) (R1.out.keep hJ.out.held.keep)⟩
          simp only [Act.put, List.setIfInBounds_toArray, List.set_cons_zero, List.set_cons_succ, Nat.reduceAdd]
          refine Steps.held ?_ ?_
          · intro L v w' hJ
            have X0 := Lib.hid (show F64 w' (v 3) (d1.1) (d1.2) from hJ.out.fact 3 (by kernel_rfl))
            have X1 := Lib.hid (show RF w' (v 6) (d1.1) (d1.2) from hJ.out.fact 6 (by kernel_rfl))
            go_wp2_with fail
            with_reducible refine (HIS1.out _ _ _ X0.out X1.out).mono ?_
            rintro e w1 ⟨rfl, hb⟩
            go_wp2_with fail
            exact ⟨rfl, rfl, hJ.out.call (by rfl) hb (rfl)⟩
          simp only [Act.put, List.setIfInBounds_toArray, List.set_cons_zero, List.set_cons_succ, Nat.reduceAdd]
          refine Steps.held ?_ ?_
          · intro L v w' hJ
            have hv7 : v 7 = .bool true := hJ.out.fact 7 (by kernel_rfl)
            simp only [hv7]
            clear hv7
            go_wp2_with fail
            exact ⟨rfl, rfl, hJ.out.same (by rfl) (rfl)⟩
          simp only [Act.put, List.setIfInBounds_toArray, List.set_cons_zero, List.set_cons_succ, Nat.reduceAdd]
          refine Steps.held ?_ ?_
          · intro L v w' hJ
            have hv8 : v 8 = .bool false := hJ.out.fact 8 (by kernel_rfl)
            simp only [hv8]
            clear hv8
            go_wp2_with fail
            exact ⟨rfl, rfl, hJ.out.same (by rfl) (rfl)⟩
          simp only [Act.put, List.setIfInBounds_toArray, List.set_cons_zero, List.set_cons_succ, Nat.reduceAdd]
          refine Steps.held ?_ ?_
          · intro L v w' hJ
            have hv9 : v 9 = .bool false := hJ.out.fact 9 (by kernel_rfl)
            simp only [hv9]
            clear hv9
            go_wp2_with fail
            exact ⟨rfl, rfl, hJ.out.same (by rfl) (rfl)⟩
          simp only [Act.put, List.setIfInBounds_toArray, List.set_cons_zero, List.set_cons_succ, Nat.reduceAdd]
          refine Steps.held ?_ ?_
          · intro L v w' hJ
            have hv10 : v 10 = .int .i64 1 := hJ.out.fact 10 (by kernel_rfl)
            simp only [hv10]
            clear hv10
            have hv9 : v 9 = .bool false := hJ.out.fact 9 (by kernel_rfl)
            simp only [hv9]
            clear hv9
            go_wp2_with fail
            exact ⟨rfl, rfl, hJ.out.same (by rfl) (rfl)⟩
          simp only [Act.put, List.setIfInBounds_toArray, List.set_cons_zero, List.set_cons_succ, Nat.reduceAdd]
          refine Steps.held ?_ ?_
          · intro L v w' hJ
            have hv11 : v 11 = .pointer (some ⟨g8, 2, none⟩) := hJ.out.fact 11 (by kernel_rfl)
            simp only [hv11]
            clear hv11
            have hv9 : v 9 = .bool false := hJ.out.fact 9 (by kernel_rfl)
            simp only [hv9]
            clear hv9
            have kb := hJ.out.blk E8.out (by simp [oldsOf])
            have k0 := kb.cell 0
            have k1 := kb.cell 1
            have k2 := kb.cell 2
            have k3 := kb.cell 3
            have k4 := kb.cell 4
            have k5 := kb.cell 5
            have k6 := kb.cell 6
            have k7 := kb.cell 7
            clear kb
            go_wp2_with fail
            exact ⟨rfl, rfl, hJ.out.same (by rfl) (R1.out.keep hJ.out.held.keep)⟩
          simp only [Act.put, List.setIfInBounds_toArray, List.set_cons_zero, List.set_cons_succ, Nat.reduceAdd]
          refine Steps.held ?_ ?_
          · intro L v w' hJ
            have hv9 : v 9 = .bool false := hJ.out.fact 9 (by kernel_rfl)
            simp only [hv9]
            clear hv9
            go_wp2_with fail
            exact ⟨rfl, rfl, hJ.out.same (by rfl) (rfl)⟩
          simp only [Act.put, List.setIfInBounds_toArray, List.set_cons_zero, List.set_cons_succ, Nat.reduceAdd]
          refine Steps.held ?_ ?_
          · intro L v w' hJ
            have hv13 : v 13 = .int .i64 1 := hJ.out.fact 13 (by kernel_rfl)
            simp only [hv13]
            clear hv13
            have hv9 : v 9 = .bool false := hJ.out.fact 9 (by kernel_rfl)
            simp only [hv9]
            clear hv9
            go_wp2_with fail
            with_reducible refine (HXI1.out _).mono ?_
            rintro e w1 ⟨u, rfl, hu, hb⟩
            go_wp2_with fail
            exact ⟨rfl, rfl, hJ.out.call (by rfl) hb (hu)⟩
          simp only [Act.put, List.setIfInBounds_toArray, List.set_cons_zero, List.set_cons_succ, Nat.reduceAdd]
          refine Steps.held ?_ ?_
          · intro L v w' hJ
            have hv9 : v 9 = .bool false := hJ.out.fact 9 (by kernel_rfl)
            simp only [hv9]
            clear hv9
            have X0 := Lib.hid (show RF w' (v 12) (d1.1) (d1.2) from hJ.out.fact 12 (by kernel_rfl))
            have X1 := Lib.hid (show RF w' (v 14) (1) (1) from hJ.out.fact 14 (by kernel_rfl))
            go_wp2_with fail
            with_reducible refine (HXC1.out _ _ _ X0.out X1.out).mono ?_
            rintro e w1 ⟨rfl, hb⟩
            go_wp2_with fail
            exact ⟨rfl, rfl, hJ.out.call (by rfl) hb (rfl)⟩
          simp only [Act.put, List.setIfInBounds_toArray, List.set_cons_zero, List.set_cons_succ, Nat.reduceAdd]
          refine Steps.held ?_ ?_
          · intro L v w' hJ
            have hv15 : v 15 = .int .i64 cc1 := hJ.out.fact 15 (by kernel_rfl)
            simp only [hv15]
            clear hv15
            have hv9 : v 9 = .bool false := hJ.out.fact 9 (by kernel_rfl)
            simp only [hv9]
            clear hv9
            go_wp2_with fail
            exact ⟨rfl, rfl, hJ.out.same (by rfl) (rfl)⟩
          simp only [Act.put, List.setIfInBounds_toArray, List.set_cons_zero, List.set_cons_succ, Nat.reduceAdd]
          refine Steps.held ?_ ?_
          · intro L v w' hJ
            have hv9 : v 9 = .bool false := hJ.out.fact 9 (by kernel_rfl)
            simp only [hv9]
            clear hv9
            have hv16 : v 16 = .bool false := hJ.out.fact 16 (by kernel_rfl)
            simp only [hv16]
            clear hv16
            go_wp2_with fail
            exact ⟨rfl, rfl, hJ.out.same (by rfl) (rfl)⟩
          simp only [Act.put, List.setIfInBounds_toArray, List.set_cons_zero, List.set_cons_succ, Nat.reduceAdd]
          refine Steps.nil ?_
          intro v w' hJ
          have h17 : v 17 = .bool false := hJ.end_fact 17 (by decide)
          have hbr := hJ.but.below
          replace HBY := Lib.hid (cbt HBY.out hbr)
          clear hJ hbr
          simp only [h17]
          clear h17
          go_wp2_with fail
          go_roundw
          case rel => exact ⟨2, 2, .inr (.inr (.inl ⟨rfl, rfl⟩)), rfl, HBY⟩
          case measure => simp [intOf]
        · have hnc := HNC2.out
          go_wp2_with fail
          let FS : List Kept1 := [.eq (.int .i64 2), .eq (.pointer (some ⟨g7, 0, none⟩)), .eq (.pointer (some ⟨g7, 4, none⟩)), .f (d2.1) (d2.2), .eq (.int .i64 2), .eq (.pointer (some ⟨g8, 4, none⟩)), .rf (d2.1) (d2.2), .eq (.bool true), .eq (.bool false), .eq (.bool false), .eq (.int .i64 2), .eq (.pointer (some ⟨g8, 4, none⟩)), .rf (d2.1) (d2.2), .eq (.int .i64 2), .rf (2) (1), .eq (.int .i64 cc2), .eq (.bool false), .eq (.bool false)]
          refine region_mono (Held wr (fun j => FS.getD j .any) []) (by kernel_rfl) (by kernel_rfl) (by kernel_rfl) (Held.start _ _ _ (by simp) (by simp)) ?_
          refine Steps.held ?_ ?_
          · intro L v w' hJ
            go_wp2_with fail
            exact ⟨rfl, rfl, hJ.out.same (by rfl) (rfl)⟩
          simp only [Act.put, List.setIfInBounds_toArray, List.set_cons_zero, List.set_cons_succ, Nat.reduceAdd]
          refine Steps.held ?_ ?_
          · intro L v w' hJ
            go_wp2_with fail
            exact ⟨rfl, rfl, hJ.out.same (by rfl) (rfl)⟩
          simp only [Act.put, List.setIfInBounds_toArray, List.set_cons_zero, List.set_cons_succ, Nat.reduceAdd]
          refine Steps.held ?_ ?_
          · intro L v w' hJ
            have hv1 : v 1 = .pointer (some ⟨g7, 0, none⟩) := hJ.out.fact 1 (by kernel_rfl)
            simp only [hv1]
            clear hv1
            have hv0 : v 0 = .int .i64 2 := hJ.out.fact 0 (by kernel_rfl)
            simp only [hv0]
            clear hv0
            go_wp2_with fail
            exact ⟨rfl, rfl, hJ.out.same (by rfl) (rfl)⟩
          simp only [Act.put, List.setIfInBounds_toArray, List.set_cons_zero, List.set_cons_succ, Nat.reduceAdd]
          refine Steps.held ?_ ?_
          · intro L v w' hJ
            have hv2 : v 2 = .pointer (some ⟨g7, 4, none⟩) := hJ.out.fact 2 (by kernel_rfl)
            simp only [hv2]
            clear hv2
            have kb := hJ.out.blk E7.out (by simp [oldsOf])
            have k0 := kb.cell 0
            have k1 := kb.cell 1
            have k2 := kb.cell 2
            have k3 := kb.cell 3
            have k4 := kb.cell 4
            have k5 := kb.cell 5
            have k6 := kb.cell 6
            have k7 := kb.cell 7
            clear kb
            go_wp2_with fail
            exact ⟨rfl, rfl, hJ.out.same (by rfl) (F2.out.keep hJ.out.held.keep)⟩
          simp only [Act.put, List.setIfInBounds_toArray, List.set_cons_zero, List.set_cons_succ, Nat.reduceAdd]
          refine Steps.held ?_ ?_
          · intro L v w' hJ
            go_wp2_with fail
            exact ⟨rfl, rfl, hJ.out.same (by rfl) (rfl)⟩
          simp only [Act.put, List.setIfInBounds_toArray, List.set_cons_zero, List.set_cons_succ, Nat.reduceAdd]
          refine Steps.held ?_ ?_
          · intro L v w' hJ
            have hv4 : v 4 = .int .i64 2 := hJ.out.fact 4 (by kernel_rfl)
            simp only [hv4]
            clear hv4
            go_wp2_with fail
            exact ⟨rfl, rfl, hJ.out.same (by rfl) (rfl)⟩
          simp only [Act.put, List.setIfInBounds_toArray, List.set_cons_zero, List.set_cons_succ, Nat.reduceAdd]
          refine Steps.held ?_ ?_
          · intro L v w' hJ
            have hv5 : v 5 = .pointer (some ⟨g8, 4, none⟩) := hJ.out.fact 5 (by kernel_rfl)
            simp only [hv5]
            clear hv5
            have kb := hJ.out.blk E8.out (by simp [oldsOf])
            have k0 := kb.cell 0
            have k1 := kb.cell 1
            have k2 := kb.cell 2
            have k3 := kb.cell 3
            have k4 := kb.cell 4
            have k5 := kb.cell 5
            have k6 := kb.cell 6
            have k7 := kb.cell 7
            clear kb
            go_wp2_with fail
            exact ⟨rfl, rfl, hJ.out.same (by rfl) (R2.out.keep hJ.out.held.keep)⟩
          simp only [Act.put, List.setIfInBounds_toArray, List.set_cons_zero, List.set_cons_succ, Nat.reduceAdd]
          refine Steps.held ?_ ?_
          · intro L v w' hJ
            have X0 := Lib.hid (show F64 w' (v 3) (d2.1) (d2.2) from hJ.out.fact 3 (by kernel_rfl))
            have X1 := Lib.hid (show RF w' (v 6) (d2.1) (d2.2) from hJ.out.fact 6 (by kernel_rfl))
            go_wp2_with fail
            with_reducible refine (HIS2.out _ _ _ X0.out X1.out).mono ?_
            rintro e w1 ⟨rfl, hb⟩
            go_wp2_with fail
            exact ⟨rfl, rfl, hJ.out.call (by rfl) hb (rfl)⟩
          simp only [Act.put, List.setIfInBounds_toArray, List.set_cons_zero, List.set_cons_succ, Nat.reduceAdd]
          refine Steps.held ?_ ?_
          · intro L v w' hJ
            have hv7 : v 7 = .bool true := hJ.out.fact 7 (by kernel_rfl)
            simp only [hv7]
            clear hv7
            go_wp2_with fail
            exact ⟨rfl, rfl, hJ.out.same (by rfl) (rfl)⟩
          simp only [Act.put, List.setIfInBounds_toArray, List.set_cons_zero, List.set_cons_succ, Nat.reduceAdd]
          refine Steps.held ?_ ?_
          · intro L v w' hJ
            have hv8 : v 8 = .bool false := hJ.out.fact 8 (by kernel_rfl)
            simp only [hv8]
            clear hv8
            go_wp2_with fail
            exact ⟨rfl, rfl, hJ.out.same (by rfl) (rfl)⟩
          simp only [Act.put, List.setIfInBounds_toArray, List.set_cons_zero, List.set_cons_succ, Nat.reduceAdd]
          refine Steps.held ?_ ?_
          · intro L v w' hJ
            have hv9 : v 9 = .bool false := hJ.out.fact 9 (by kernel_rfl)
            simp only [hv9]
            clear hv9
            go_wp2_with fail
            exact ⟨rfl, rfl, hJ.out.same (by rfl) (rfl)⟩
          simp only [Act.put, List.setIfInBounds_toArray, List.set_cons_zero, List.set_cons_succ, Nat.reduceAdd]
          refine Steps.held ?_ ?_
          · intro L v w' hJ
            have hv10 : v 10 = .int .i64 2 := hJ.out.fact 10 (by kernel_rfl)
            simp only [hv10]
            clear hv10
            have hv9 : v 9 = .bool false := hJ.out.fact 9 (by kernel_rfl)
            simp only [hv9]
            clear hv9
            go_wp2_with fail
            exact ⟨rfl, rfl, hJ.out.same (by rfl) (rfl)⟩
          simp only [Act.put, List.setIfInBounds_toArray, List.set_cons_zero, List.set_cons_succ, Nat.reduceAdd]
          refine Steps.held ?_ ?_
          · intro L v w' hJ
            have hv11 : v 11 = .pointer (some ⟨g8, 4, none⟩) := hJ.out.fact 11 (by kernel_rfl)
            simp only [hv11]
            clear hv11
            have hv9 : v 9 = .bool false := hJ.out.fact 9 (by kernel_rfl)
            simp only [hv9]
            clear hv9
            have kb := hJ.out.blk E8.out (by simp [oldsOf])
            have k0 := kb.cell 0
            have k1 := kb.cell 1
            have k2 := kb.cell 2
            have k3 := kb.cell 3
            have k4 := kb.cell 4
            have k5 := kb.cell 5
            have k6 := kb.cell 6
            have k7 := kb.cell 7
            clear kb
            go_wp2_with fail
            exact ⟨rfl, rfl, hJ.out.same (by rfl) (R2.out.keep hJ.out.held.keep)⟩
          simp only [Act.put, List.setIfInBounds_toArray, List.set_cons_zero, List.set_cons_succ, Nat.reduceAdd]
          refine Steps.held ?_ ?_
          · intro L v w' hJ
            have hv9 : v 9 = .bool false := hJ.out.fact 9 (by kernel_rfl)
            simp only [hv9]
            clear hv9
            go_wp2_with fail
            exact ⟨rfl, rfl, hJ.out.same (by rfl) (rfl)⟩
          simp only [Act.put, List.setIfInBounds_toArray, List.set_cons_zero, List.set_cons_succ, Nat.reduceAdd]
          refine Steps.held ?_ ?_
          · intro L v w' hJ
            have hv13 : v 13 = .int .i64 2 := hJ.out.fact 13 (by kernel_rfl)
            simp only [hv13]
            clear hv13
            have hv9 : v 9 = .bool false := hJ.out.fact 9 (by kernel_rfl)
            simp only [hv9]
            clear hv9
            go_wp2_with fail
            with_reducible refine (HXI2.out _).mono ?_
            rintro e w1 ⟨u, rfl, hu, hb⟩
            go_wp2_with fail
            exact ⟨rfl, rfl, hJ.out.call (by rfl) hb (hu)⟩
          simp only [Act.put, List.setIfInBounds_toArray, List.set_cons_zero, List.set_cons_succ, Nat.reduceAdd]
          refine Steps.held ?_ ?_
          · intro L v w' hJ
            have hv9 : v 9 = .bool false := hJ.out.fact 9 (by kernel_rfl)
            simp only [hv9]
            clear hv9
            have X0 := Lib.hid (show RF w' (v 12) (d2.1) (d2.2) from hJ.out.fact 12 (by kernel_rfl))
            have X1 := Lib.hid (show RF w' (v 14) (2) (1) from hJ.out.fact 14 (by kernel_rfl))
            go_wp2_with fail
            with_reducible refine (HXC2.out _ _ _ X0.out X1.out).mono ?_
            rintro e w1 ⟨rfl, hb⟩
            go_wp2_with fail
            exact ⟨rfl, rfl, hJ.out.call (by rfl) hb (rfl)⟩
          simp only [Act.put, List.setIfInBounds_toArray, List.set_cons_zero, List.set_cons_succ, Nat.reduceAdd]
          refine Steps.held ?_ ?_
          · intro L v w' hJ
            have hv15 : v 15 = .int .i64 cc2 := hJ.out.fact 15 (by kernel_rfl)
            simp only [hv15]
            clear hv15
            have hv9 : v 9 = .bool false := hJ.out.fact 9 (by kernel_rfl)
            simp only [hv9]
            clear hv9
            go_wp2_with fail
            exact ⟨rfl, rfl, hJ.out.same (by rfl) (rfl)⟩
          simp only [Act.put, List.setIfInBounds_toArray, List.set_cons_zero, List.set_cons_succ, Nat.reduceAdd]
          refine Steps.held ?_ ?_
          · intro L v w' hJ
            have hv9 : v 9 = .bool false := hJ.out.fact 9 (by kernel_rfl)
            simp only [hv9]
            clear hv9
            have hv16 : v 16 = .bool false := hJ.out.fact 16 (by kernel_rfl)
            simp only [hv16]
            clear hv16
            go_wp2_with fail
            exact ⟨rfl, rfl, hJ.out.same (by rfl) (rfl)⟩
          simp only [Act.put, List.setIfInBounds_toArray, List.set_cons_zero, List.set_cons_succ, Nat.reduceAdd]
          refine Steps.nil ?_
          intro v w' hJ
          have h17 : v 17 = .bool false := hJ.end_fact 17 (by decide)
          have hbr := hJ.but.below
          replace HBY := Lib.hid (cbt HBY.out hbr)
          clear hJ hbr
          simp only [h17]
          clear h17
          go_wp2_with fail
          go_roundw
          case rel => exact ⟨3, 3, .inr (.inr (.inr (.inl ⟨rfl, rfl⟩))), rfl, HBY⟩
          case measure => simp [intOf]
        · have hnc := HNC3.out
          go_wp2_with fail
          let FS : List Kept1 := [.eq (.int .i64 3), .eq (.pointer (some ⟨g7, 0, none⟩)), .eq (.pointer (some ⟨g7, 6, none⟩)), .f (d3.1) (d3.2), .eq (.int .i64 3), .eq (.pointer (some ⟨g8, 6, none⟩)), .rf (d3.1) (d3.2), .eq (.bool true), .eq (.bool false), .eq (.bool false), .eq (.int .i64 3), .eq (.pointer (some ⟨g8, 6, none⟩)), .rf (d3.1) (d3.2), .eq (.int .i64 3), .rf (3) (1), .eq (.int .i64 cc3), .eq (.bool false), .eq (.bool false)]
          refine region_mono (Held wr (fun j => FS.getD j .any) []) (by kernel_rfl) (by kernel_rfl) (by kernel_rfl) (Held.start _ _ _ (by simp) (by simp)) ?_
          refine Steps.held ?_ ?_
          · intro L v w' hJ
            go_wp2_with fail
            exact ⟨rfl, rfl, hJ.out.same (by rfl) (rfl)⟩
          simp only [Act.put, List.setIfInBounds_toArray, List.set_cons_zero, List.set_cons_succ, Nat.reduceAdd]
          refine Steps.held ?_ ?_
          · intro L v w' hJ
            go_wp2_with fail
            exact ⟨rfl, rfl, hJ.out.same (by rfl) (rfl)⟩
          simp only [Act.put, List.setIfInBounds_toArray, List.set_cons_zero, List.set_cons_succ, Nat.reduceAdd]
          refine Steps.held ?_ ?_
          · intro L v w' hJ
            have hv1 : v 1 = .pointer (some ⟨g7, 0, none⟩) := hJ.out.fact 1 (by kernel_rfl)
            simp only [hv1]
            clear hv1
            have hv0 : v 0 = .int .i64 3 := hJ.out.fact 0 (by kernel_rfl)
            simp only [hv0]
            clear hv0
            go_wp2_with fail
            exact ⟨rfl, rfl, hJ.out.same (by rfl) (rfl)⟩
          simp only [Act.put, List.setIfInBounds_toArray, List.set_cons_zero, List.set_cons_succ, Nat.reduceAdd]
          refine Steps.held ?_ ?_
          · intro L v w' hJ
            have hv2 : v 2 = .pointer (some ⟨g7, 6, none⟩) := hJ.out.fact 2 (by kernel_rfl)
            simp only [hv2]
            clear hv2
            have kb := hJ.out.blk E7.out (by simp [oldsOf])
            have k0 := kb.cell 0
            have k1 := kb.cell 1
            have k2 := kb.cell 2
            have k3 := kb.cell 3
            have k4 := kb.cell 4
            have k5 := kb.cell 5
            have k6 := kb.cell 6
            have k7 := kb.cell 7
            clear kb
            go_wp2_with fail
            exact ⟨rfl, rfl, hJ.out.same (by rfl) (F3.out.keep hJ.out.held.keep)⟩
          simp only [Act.put, List.setIfInBounds_toArray, List.set_cons_zero, List.set_cons_succ, Nat.reduceAdd]
          refine Steps.held ?_ ?_
          · intro L v w' hJ
            go_wp2_with fail
            exact ⟨rfl, rfl, hJ.out.same (by rfl) (rfl)⟩
          simp only [Act.put, List.setIfInBounds_toArray, List.set_cons_zero, List.set_cons_succ, Nat.reduceAdd]
          refine Steps.held ?_ ?_
          · intro L v w' hJ
            have hv4 : v 4 = .int .i64 3 := hJ.out.fact 4 (by kernel_rfl)
            simp only [hv4]
            clear hv4
            go_wp2_with fail
            exact ⟨rfl, rfl, hJ.out.same (by rfl) (rfl)⟩
          simp only [Act.put, List.setIfInBounds_toArray, List.set_cons_zero, List.set_cons_succ, Nat.reduceAdd]
          refine Steps.held ?_ ?_
          · intro L v w' hJ
            have hv5 : v 5 = .pointer (some ⟨g8, 6, none⟩) := hJ.out.fact 5 (by kernel_rfl)
            simp only [hv5]
            clear hv5
            have kb := hJ.out.blk E8.out (by simp [oldsOf])
            have k0 := kb.cell 0
            have k1 := kb.cell 1
            have k2 := kb.cell 2
            have k3 := kb.cell 3
            have k4 := kb.cell 4
            have k5 := kb.cell 5
            have k6 := kb.cell 6
            have k7 := kb.cell 7
            clear kb
            go_wp2_with fail
            exact ⟨rfl, rfl, hJ.out.same (by rfl) (R3.out.keep hJ.out.held.keep)⟩
          simp only [Act.put, List.setIfInBounds_toArray, List.set_cons_zero, List.set_cons_succ, Nat.reduceAdd]
          refine Steps.held ?_ ?_
          · intro L v w' hJ
            have X0 := Lib.hid (show F64 w' (v 3) (d3.1) (d3.2) from hJ.out.fact 3 (by kernel_rfl))
            have X1 := Lib.hid (show RF w' (v 6) (d3.1) (d3.2) from hJ.out.fact 6 (by kernel_rfl))
            go_wp2_with fail
            with_reducible refine (HIS3.out _ _ _ X0.out X1.out).mono ?_
            rintro e w1 ⟨rfl, hb⟩
            go_wp2_with fail
            exact ⟨rfl, rfl, hJ.out.call (by rfl) hb (rfl)⟩
          simp only [Act.put, List.setIfInBounds_toArray, List.set_cons_zero, List.set_cons_succ, Nat.reduceAdd]
          refine Steps.held ?_ ?_
          · intro L v w' hJ
            have hv7 : v 7 = .bool true := hJ.out.fact 7 (by kernel_rfl)
            simp only [hv7]
            clear hv7
            go_wp2_with fail
            exact ⟨rfl, rfl, hJ.out.same (by rfl) (rfl)⟩
          simp only [Act.put, List.setIfInBounds_toArray, List.set_cons_zero, List.set_cons_succ, Nat.reduceAdd]
          refine Steps.held ?_ ?_
          · intro L v w' hJ
            have hv8 : v 8 = .bool false := hJ.out.fact 8 (by kernel_rfl)
            simp only [hv8]
            clear hv8
            go_wp2_with fail
            exact ⟨rfl, rfl, hJ.out.same (by rfl) (rfl)⟩
          simp only [Act.put, List.setIfInBounds_toArray, List.set_cons_zero, List.set_cons_succ, Nat.reduceAdd]
          refine Steps.held ?_ ?_
          · intro L v w' hJ
            have hv9 : v 9 = .bool false := hJ.out.fact 9 (by kernel_rfl)
            simp only [hv9]
            clear hv9
            go_wp2_with fail
            exact ⟨rfl, rfl, hJ.out.same (by rfl) (rfl)⟩
          simp only [Act.put, List.setIfInBounds_toArray, List.set_cons_zero, List.set_cons_succ, Nat.reduceAdd]
          refine Steps.held ?_ ?_
          · intro L v w' hJ
            have hv10 : v 10 = .int .i64 3 := hJ.out.fact 10 (by kernel_rfl)
            simp only [hv10]
            clear hv10
            have hv9 : v 9 = .bool false := hJ.out.fact 9 (by kernel_rfl)
            simp only [hv9]
            clear hv9
            go_wp2_with fail
            exact ⟨rfl, rfl, hJ.out.same (by rfl) (rfl)⟩
          simp only [Act.put, List.setIfInBounds_toArray, List.set_cons_zero, List.set_cons_succ, Nat.reduceAdd]
          refine Steps.held ?_ ?_
          · intro L v w' hJ
            have hv11 : v 11 = .pointer (some ⟨g8, 6, none⟩) := hJ.out.fact 11 (by kernel_rfl)
            simp only [hv11]
            clear hv11
            have hv9 : v 9 = .bool false := hJ.out.fact 9 (by kernel_rfl)
            simp only [hv9]
            clear hv9
            have kb := hJ.out.blk E8.out (by simp [oldsOf])
            have k0 := kb.cell 0
            have k1 := kb.cell 1
            have k2 := kb.cell 2
            have k3 := kb.cell 3
            have k4 := kb.cell 4
            have k5 := kb.cell 5
            have k6 := kb.cell 6
            have k7 := kb.cell 7
            clear kb
            go_wp2_with fail
            exact ⟨rfl, rfl, hJ.out.same (by rfl) (R3.out.keep hJ.out.held.keep)⟩
          simp only [Act.put, List.setIfInBounds_toArray, List.set_cons_zero, List.set_cons_succ, Nat.reduceAdd]
          refine Steps.held ?_ ?_
          · intro L v w' hJ
            have hv9 : v 9 = .bool false := hJ.out.fact 9 (by kernel_rfl)
            simp only [hv9]
            clear hv9
            go_wp2_with fail
            exact ⟨rfl, rfl, hJ.out.same (by rfl) (rfl)⟩
          simp only [Act.put, List.setIfInBounds_toArray, List.set_cons_zero, List.set_cons_succ, Nat.reduceAdd]
          refine Steps.held ?_ ?_
          · intro L v w' hJ
            have hv13 : v 13 = .int .i64 3 := hJ.out.fact 13 (by kernel_rfl)
            simp only [hv13]
            clear hv13
            have hv9 : v 9 = .bool false := hJ.out.fact 9 (by kernel_rfl)
            simp only [hv9]
            clear hv9
            go_wp2_with fail
            with_reducible refine (HXI3.out _).mono ?_
            rintro e w1 ⟨u, rfl, hu, hb⟩
            go_wp2_with fail
            exact ⟨rfl, rfl, hJ.out.call (by rfl) hb (hu)⟩
          simp only [Act.put, List.setIfInBounds_toArray, List.set_cons_zero, List.set_cons_succ, Nat.reduceAdd]
          refine Steps.held ?_ ?_
          · intro L v w' hJ
            have hv9 : v 9 = .bool false := hJ.out.fact 9 (by kernel_rfl)
            simp only [hv9]
            clear hv9
            have X0 := Lib.hid (show RF w' (v 12) (d3.1) (d3.2) from hJ.out.fact 12 (by kernel_rfl))
            have X1 := Lib.hid (show RF w' (v 14) (3) (1) from hJ.out.fact 14 (by kernel_rfl))
            go_wp2_with fail
            with_reducible refine (HXC3.out _ _ _ X0.out X1.out).mono ?_
            rintro e w1 ⟨rfl, hb⟩
            go_wp2_with fail
            exact ⟨rfl, rfl, hJ.out.call (by rfl) hb (rfl)⟩
          simp only [Act.put, List.setIfInBounds_toArray, List.set_cons_zero, List.set_cons_succ, Nat.reduceAdd]
          refine Steps.held ?_ ?_
          · intro L v w' hJ
            have hv15 : v 15 = .int .i64 cc3 := hJ.out.fact 15 (by kernel_rfl)
            simp only [hv15]
            clear hv15
            have hv9 : v 9 = .bool false := hJ.out.fact 9 (by kernel_rfl)
            simp only [hv9]
            clear hv9
            go_wp2_with fail
            exact ⟨rfl, rfl, hJ.out.same (by rfl) (rfl)⟩
          simp only [Act.put, List.setIfInBounds_toArray, List.set_cons_zero, List.set_cons_succ, Nat.reduceAdd]
          refine Steps.held ?_ ?_
          · intro L v w' hJ
            have hv9 : v 9 = .bool false := hJ.out.fact 9 (by kernel_rfl)
            simp only [hv9]
            clear hv9
            have hv16 : v 16 = .bool false := hJ.out.fact 16 (by kernel_rfl)
            simp only [hv16]
            clear hv16
            go_wp2_with fail
            exact ⟨rfl, rfl, hJ.out.same (by rfl) (rfl)⟩
          simp only [Act.put, List.setIfInBounds_toArray, List.set_cons_zero, List.set_cons_succ, Nat.reduceAdd]
          refine Steps.nil ?_
          intro v w' hJ
          have h17 : v 17 = .bool false := hJ.end_fact 17 (by decide)
          have hbr := hJ.but.below
          replace HBY := Lib.hid (cbt HBY.out hbr)
          clear hJ hbr
          simp only [h17]
          clear h17
          go_wp2_with fail
          go_roundw
          case rel => exact ⟨4, 4, .inr (.inr (.inr (.inr (⟨rfl, rfl⟩)))), rfl, HBY⟩
          case measure => simp [intOf]
        · obtain ⟨y, hy⟩ : ∃ y, max k 0 = y := ⟨_, rfl⟩
          have HSV := Lib.hid (show SetF wr (.agg #[.slice A0 p0 c0, .slice B0 q0 u0, .slice A1 p1 c1, .slice B1 q1 u1, .slice A2 p2 c2, .slice B2 q2 u2, .slice A3 p3 c3, .slice B3 q3 u3]) d0 d1 d2 d3 from ⟨_, _, _, _, _, _, _, _, _, _, _, _, _, _, _, _, _, _, _, _, _, _, _, _, rfl, F0.out, F1.out, F2.out, F3.out⟩)
          have HRV := Lib.hid (show SetR wr (.agg #[.slice AR0 pR0 cR0, .slice BR0 qR0 uR0, .slice AR1 pR1 cR1, .slice BR1 qR1 uR1, .slice AR2 pR2 cR2, .slice BR2 qR2 uR2, .slice AR3 pR3 cR3, .slice BR3 qR3 uR3]) d0 d1 d2 d3 from ⟨_, _, _, _, _, _, _, _, _, _, _, _, _, _, _, _, _, _, _, _, _, _, _, _, rfl, R0.out, R1.out, R2.out, R3.out⟩)
          clear F0 F1 F2 F3 R0 R1 R2 R3 HKW
          have hc4 : k < 1 ∨ k = 1 ∨ k = 2 ∨ 3 ≤ k := by omega
          rcases hc4 with hk1 | hk1 | hk1 | hk1
          · have hj : min y 3 = 0 := by omega
            have HAT := Lib.hid (fun v W (h : SetF W v d0 d1 d2 d3) => at0_any d0 d1 d2 d3 v k y W h hy hj)
            have HRA : Hid (∀ v W, SetR W v d0 d1 d2 d3 → Calls Try.prog 84 #[v, .int .i64 k] W (MkR W d0.1 d0.2)) := Lib.hid (fun v W h => by
              have := rat0_any d0 d1 d2 d3 v k W h hk1
              rw [HD0.out]
              exact this)
            clear hy hj hk1
            go_wp2_with fail
            let FS : List Kept1 := [.setF (d0) (d1) (d2) (d3), .eq (.int .i64 k), .f (d0.1) (d0.2), .setR (d0) (d1) (d2) (d3), .eq (.int .i64 k), .rf (d0.1) (d0.2), .eq (.bool true), .eq (.bool true), .eq (.bool true), .eq (.bool true), .eq (.bool true)]
            refine region_mono (Held wr (fun j => FS.getD j .any) []) (by kernel_rfl) (by kernel_rfl) (by kernel_rfl) (Held.start _ _ _ (by simp) (by simp)) ?_
            refine Steps.held ?_ ?_
            · intro L v w' hJ
              have kb := hJ.out.blk E7.out (by simp [oldsOf])
              have k0 := kb.cell 0
              have k1 := kb.cell 1
              have k2 := kb.cell 2
              have k3 := kb.cell 3
              have k4 := kb.cell 4
              have k5 := kb.cell 5
              have k6 := kb.cell 6
              have k7 := kb.cell 7
              clear kb
              go_wp2_with fail
              exact ⟨rfl, rfl, hJ.out.same (by rfl) (setF_keep HSV.out hJ.out.held.keep)⟩
            simp only [Act.put, List.setIfInBounds_toArray, List.set_cons_zero, List.set_cons_succ, Nat.reduceAdd]
            refine Steps.held ?_ ?_
            · intro L v w' hJ
              go_wp2_with fail
              exact ⟨rfl, rfl, hJ.out.same (by rfl) (rfl)⟩
            simp only [Act.put, List.setIfInBounds_toArray, List.set_cons_zero, List.set_cons_succ, Nat.reduceAdd]
            refine Steps.held ?_ ?_
            · intro L v w' hJ
              have hv1 : v 1 = .int .i64 k := hJ.out.fact 1 (by kernel_rfl)
              simp only [hv1]
              clear hv1
              have X0 := Lib.hid (show SetF w' (v 0) (d0) (d1) (d2) (d3) from hJ.out.fact 0 (by kernel_rfl))
              go_wp2_with fail
              with_reducible refine (HAT.out _ _ X0.out).mono ?_
              rintro e w1 ⟨u, rfl, hu, hb⟩
              go_wp2_with fail
              exact ⟨rfl, rfl, hJ.out.call (by rfl) hb (hu)⟩
            simp only [Act.put, List.setIfInBounds_toArray, List.set_cons_zero, List.set_cons_succ, Nat.reduceAdd]
            refine Steps.held ?_ ?_
            · intro L v w' hJ
              have kb := hJ.out.blk E8.out (by simp [oldsOf])
              have k0 := kb.cell 0
              have k1 := kb.cell 1
              have k2 := kb.cell 2
              have k3 := kb.cell 3
              have k4 := kb.cell 4
              have k5 := kb.cell 5
              have k6 := kb.cell 6
              have k7 := kb.cell 7
              clear kb
              go_wp2_with fail
              exact ⟨rfl, rfl, hJ.out.same (by rfl) (setR_keep HRV.out hJ.out.held.keep)⟩
            simp only [Act.put, List.setIfInBounds_toArray, List.set_cons_zero, List.set_cons_succ, Nat.reduceAdd]
            refine Steps.held ?_ ?_
            · intro L v w' hJ
              go_wp2_with fail
              exact ⟨rfl, rfl, hJ.out.same (by rfl) (rfl)⟩
            simp only [Act.put, List.setIfInBounds_toArray, List.set_cons_zero, List.set_cons_succ, Nat.reduceAdd]
            refine Steps.held ?_ ?_
            · intro L v w' hJ
              have hv4 : v 4 = .int .i64 k := hJ.out.fact 4 (by kernel_rfl)
              simp only [hv4]
              clear hv4
              have X0 := Lib.hid (show SetR w' (v 3) (d0) (d1) (d2) (d3) from hJ.out.fact 3 (by kernel_rfl))
              go_wp2_with fail
              with_reducible refine (HRA.out _ _ X0.out).mono ?_
              rintro e w1 ⟨u, rfl, hu, hb⟩
              go_wp2_with fail
              exact ⟨rfl, rfl, hJ.out.call (by rfl) hb (hu)⟩
            simp only [Act.put, List.setIfInBounds_toArray, List.set_cons_zero, List.set_cons_succ, Nat.reduceAdd]
            refine Steps.held ?_ ?_
            · intro L v w' hJ
              have X0 := Lib.hid (show F64 w' (v 2) (d0.1) (d0.2) from hJ.out.fact 2 (by kernel_rfl))
              have X1 := Lib.hid (show RF w' (v 5) (d0.1) (d0.2) from hJ.out.fact 5 (by kernel_rfl))
              go_wp2_with fail
              with_reducible refine (HIS0.out _ _ _ X0.out X1.out).mono ?_
              rintro e w1 ⟨rfl, hb⟩
              go_wp2_with fail
              exact ⟨rfl, rfl, hJ.out.call (by rfl) hb (rfl)⟩
            simp only [Act.put, List.setIfInBounds_toArray, List.set_cons_zero, List.set_cons_succ, Nat.reduceAdd]
            refine Steps.held ?_ ?_
            · intro L v w' hJ
              have hv6 : v 6 = .bool true := hJ.out.fact 6 (by kernel_rfl)
              simp only [hv6]
              clear hv6
              go_wp2_with fail
              exact ⟨rfl, rfl, hJ.out.same (by rfl) (rfl)⟩
            simp only [Act.put, List.setIfInBounds_toArray, List.set_cons_zero, List.set_cons_succ, Nat.reduceAdd]
            refine Steps.held ?_ ?_
            · intro L v w' hJ
              have hv7 : v 7 = .bool true := hJ.out.fact 7 (by kernel_rfl)
              simp only [hv7]
              clear hv7
              go_wp2_with fail
              with_reducible refine (HLV.out _).mono ?_
              rintro e w1 ⟨rfl, hb⟩
              go_wp2_with fail
              exact ⟨rfl, rfl, hJ.out.call (by rfl) hb (rfl)⟩
            simp only [Act.put, List.setIfInBounds_toArray, List.set_cons_zero, List.set_cons_succ, Nat.reduceAdd]
            refine Steps.held ?_ ?_
            · intro L v w' hJ
              have hv7 : v 7 = .bool true := hJ.out.fact 7 (by kernel_rfl)
              simp only [hv7]
              clear hv7
              have hv8 : v 8 = .bool true := hJ.out.fact 8 (by kernel_rfl)
              simp only [hv8]
              clear hv8
              go_wp2_with fail
              exact ⟨rfl, rfl, hJ.out.same (by rfl) (rfl)⟩
            simp only [Act.put, List.setIfInBounds_toArray, List.set_cons_zero, List.set_cons_succ, Nat.reduceAdd]
            refine Steps.held ?_ ?_
            · intro L v w' hJ
              have hv9 : v 9 = .bool true := hJ.out.fact 9 (by kernel_rfl)
              simp only [hv9]
              clear hv9
              go_wp2_with fail
              exact ⟨rfl, rfl, hJ.out.same (by rfl) (rfl)⟩
            simp only [Act.put, List.setIfInBounds_toArray, List.set_cons_zero, List.set_cons_succ, Nat.reduceAdd]
            refine Steps.nil ?_
            intro v w' hJ
            have h10 : v 10 = .bool true := hJ.end_fact 10 (by decide)
            have HF := Lib.hid (cbt (cbt HBW.out HBY.out) hJ.but.below)
            clear hJ
            simp only [h10]
            clear h10
            go_wp2_with fail
            go_ret
            exact ⟨rfl, HF.out⟩
          · have hj : min y 3 = 1 := by omega
            have hj2 : min k 3 = 1 := by omega
            replace hk1 : 1 ≤ k := by omega
            have HAT := Lib.hid (fun v W (h : SetF W v d0 d1 d2 d3) => at1_any d0 d1 d2 d3 v k y W h hy hj)
            have HRA := Lib.hid (fun v W (h : SetR W v d0 d1 d2 d3) => rat1_any d0 d1 d2 d3 v k W h hk1 hj2)
            clear hy hj hk1 hj2
            go_wp2_with fail
            let FS : List Kept1 := [.setF (d0) (d1) (d2) (d3), .eq (.int .i64 k), .f (d1.1) (d1.2), .setR (d0) (d1) (d2) (d3), .eq (.int .i64 k), .rf (d1.1) (d1.2), .eq (.bool true), .eq (.bool true), .eq (.bool true), .eq (.bool true), .eq (.bool true)]
            refine region_mono (Held wr (fun j => FS.getD j .any) []) (by kernel_rfl) (by kernel_rfl) (by kernel_rfl) (Held.start _ _ _ (by simp) (by simp)) ?_
            refine Steps.held ?_ ?_
            · intro L v w' hJ
              have kb := hJ.out.blk E7.out (by simp [oldsOf])
              have k0 := kb.cell 0
              have k1 := kb.cell 1
              have k2 := kb.cell 2
              have k3 := kb.cell 3
              have k4 := kb.cell 4
              have k5 := kb.cell 5
              have k6 := kb.cell 6
              have k7 := kb.cell 7
              clear kb
              go_wp2_with fail
              exact ⟨rfl, rfl, hJ.out.same (by rfl) (setF_keep HSV.out hJ.out.held.keep)⟩
            simp only [Act.put, List.setIfInBounds_toArray, List.set_cons_zero, List.set_cons_succ, Nat.reduceAdd]
            refine Steps.held ?_ ?_
            · intro L v w' hJ
              go_wp2_with fail
              exact ⟨rfl, rfl, hJ.out.same (by rfl) (rfl)⟩
            simp only [Act.put, List.setIfInBounds_toArray, List.set_cons_zero, List.set_cons_succ, Nat.reduceAdd]
            refine Steps.held ?_ ?_
            · intro L v w' hJ
              have hv1 : v 1 = .int .i64 k := hJ.out.fact 1 (by kernel_rfl)
              simp only [hv1]
              clear hv1
              have X0 := Lib.hid (show SetF w' (v 0) (d0) (d1) (d2) (d3) from hJ.out.fact 0 (by kernel_rfl))
              go_wp2_with fail
              with_reducible refine (HAT.out _ _ X0.out).mono ?_
              rintro e w1 ⟨u, rfl, hu, hb⟩
              go_wp2_with fail
              exact ⟨rfl, rfl, hJ.out.call (by rfl) hb (hu)⟩
            simp only [Act.put, List.setIfInBounds_toArray, List.set_cons_zero, List.set_cons_succ, Nat.reduceAdd]
            refine Steps.held ?_ ?_
            · intro L v w' hJ
              have kb := hJ.out.blk E8.out (by simp [oldsOf])
              have k0 := kb.cell 0
              have k1 := kb.cell 1
              have k2 := kb.cell 2
              have k3 := kb.cell 3
              have k4 := kb.cell 4
              have k5 := kb.cell 5
              have k6 := kb.cell 6
              have k7 := kb.cell 7
              clear kb
              go_wp2_with fail
              exact ⟨rfl, rfl, hJ.out.same (by rfl) (setR_keep HRV.out hJ.out.held.keep)⟩
            simp only [Act.put, List.setIfInBounds_toArray, List.set_cons_zero, List.set_cons_succ, Nat.reduceAdd]
            refine Steps.held ?_ ?_
            · intro L v w' hJ
              go_wp2_with fail
              exact ⟨rfl, rfl, hJ.out.same (by rfl) (rfl)⟩
            simp only [Act.put, List.setIfInBounds_toArray, List.set_cons_zero, List.set_cons_succ, Nat.reduceAdd]
            refine Steps.held ?_ ?_
            · intro L v w' hJ
              have hv4 : v 4 = .int .i64 k := hJ.out.fact 4 (by kernel_rfl)
              simp only [hv4]
              clear hv4
              have X0 := Lib.hid (show SetR w' (v 3) (d0) (d1) (d2) (d3) from hJ.out.fact 3 (by kernel_rfl))
              go_wp2_with fail
              with_reducible refine (HRA.out _ _ X0.out).mono ?_
              rintro e w1 ⟨u, rfl, hu, hb⟩
              go_wp2_with fail
              exact ⟨rfl, rfl, hJ.out.call (by rfl) hb (hu)⟩
            simp only [Act.put, List.setIfInBounds_toArray, List.set_cons_zero, List.set_cons_succ, Nat.reduceAdd]
            refine Steps.held ?_ ?_
            · intro L v w' hJ
              have X0 := Lib.hid (show F64 w' (v 2) (d1.1) (d1.2) from hJ.out.fact 2 (by kernel_rfl))
              have X1 := Lib.hid (show RF w' (v 5) (d1.1) (d1.2) from hJ.out.fact 5 (by kernel_rfl))
              go_wp2_with fail
              with_reducible refine (HIS1.out _ _ _ X0.out X1.out).mono ?_
              rintro e w1 ⟨rfl, hb⟩
              go_wp2_with fail
              exact ⟨rfl, rfl, hJ.out.call (by rfl) hb (rfl)⟩
            simp only [Act.put, List.setIfInBounds_toArray, List.set_cons_zero, List.set_cons_succ, Nat.reduceAdd]
            refine Steps.held ?_ ?_
            · intro L v w' hJ
              have hv6 : v 6 = .bool true := hJ.out.fact 6 (by kernel_rfl)
              simp only [hv6]
              clear hv6
              go_wp2_with fail
              exact ⟨rfl, rfl, hJ.out.same (by rfl) (rfl)⟩
            simp only [Act.put, List.setIfInBounds_toArray, List.set_cons_zero, List.set_cons_succ, Nat.reduceAdd]
            refine Steps.held ?_ ?_
            · intro L v w' hJ
              have hv7 : v 7 = .bool true := hJ.out.fact 7 (by kernel_rfl)
              simp only [hv7]
              clear hv7
              go_wp2_with fail
              with_reducible refine (HLV.out _).mono ?_
              rintro e w1 ⟨rfl, hb⟩
              go_wp2_with fail
              exact ⟨rfl, rfl, hJ.out.call (by rfl) hb (rfl)⟩
            simp only [Act.put, List.setIfInBounds_toArray, List.set_cons_zero, List.set_cons_succ, Nat.reduceAdd]
            refine Steps.held ?_ ?_
            · intro L v w' hJ
              have hv7 : v 7 = .bool true := hJ.out.fact 7 (by kernel_rfl)
              simp only [hv7]
              clear hv7
              have hv8 : v 8 = .bool true := hJ.out.fact 8 (by kernel_rfl)
              simp only [hv8]
              clear hv8
              go_wp2_with fail
              exact ⟨rfl, rfl, hJ.out.same (by rfl) (rfl)⟩
            simp only [Act.put, List.setIfInBounds_toArray, List.set_cons_zero, List.set_cons_succ, Nat.reduceAdd]
            refine Steps.held ?_ ?_
            · intro L v w' hJ
              have hv9 : v 9 = .bool true := hJ.out.fact 9 (by kernel_rfl)
              simp only [hv9]
              clear hv9
              go_wp2_with fail
              exact ⟨rfl, rfl, hJ.out.same (by rfl) (rfl)⟩
            simp only [Act.put, List.setIfInBounds_toArray, List.set_cons_zero, List.set_cons_succ, Nat.reduceAdd]
            refine Steps.nil ?_
            intro v w' hJ
            have h10 : v 10 = .bool true := hJ.end_fact 10 (by decide)
            have HF := Lib.hid (cbt (cbt HBW.out HBY.out) hJ.but.below)
            clear hJ
            simp only [h10]
            clear h10
            go_wp2_with fail
            go_ret
            exact ⟨rfl, HF.out⟩
          · have hj : min y 3 = 2 := by omega
            have hj2 : min k 3 = 2 := by omega
            replace hk1 : 1 ≤ k := by omega
            have HAT := Lib.hid (fun v W (h : SetF W v d0 d1 d2 d3) => at2_any d0 d1 d2 d3 v k y W h hy hj)
            have HRA := Lib.hid (fun v W (h : SetR W v d0 d1 d2 d3) => rat2_any d0 d1 d2 d3 v k W h hk1 hj2)
            clear hy hj hk1 hj2
            go_wp2_with fail
            let FS : List Kept1 := [.setF (d0) (d1) (d2) (d3), .eq (.int .i64 k), .f (d2.1) (d2.2), .setR (d0) (d1) (d2) (d3), .eq (.int .i64 k), .rf (d2.1) (d2.2), .eq (.bool true), .eq (.bool true), .eq (.bool true), .eq (.bool true), .eq (.bool true)]
            refine region_mono (Held wr (fun j => FS.getD j .any) []) (by kernel_rfl) (by kernel_rfl) (by kernel_rfl) (Held.start _ _ _ (by simp) (by simp)) ?_
            refine Steps.held ?_ ?_
            · intro L v w' hJ
              have kb := hJ.out.blk E7.out (by simp [oldsOf])
              have k0 := kb.cell 0
              have k1 := kb.cell 1
              have k2 := kb.cell 2
              have k3 := kb.cell 3
              have k4 := kb.cell 4
              have k5 := kb.cell 5
              have k6 := kb.cell 6
              have k7 := kb.cell 7
              clear kb
              go_wp2_with fail
              exact ⟨rfl, rfl, hJ.out.same (by rfl) (setF_keep HSV.out hJ.out.held.keep)⟩
            simp only [Act.put, List.setIfInBounds_toArray, List.set_cons_zero, List.set_cons_succ, Nat.reduceAdd]
            refine Steps.held ?_ ?_
            · intro L v w' hJ
              go_wp2_with fail
              exact ⟨rfl, rfl, hJ.out.same (by rfl) (rfl)⟩
            simp only [Act.put, List.setIfInBounds_toArray, List.set_cons_zero, List.set_cons_succ, Nat.reduceAdd]
            refine Steps.held ?_ ?_
            · intro L v w' hJ
              have hv1 : v 1 = .int .i64 k := hJ.out.fact 1 (by kernel_rfl)
              simp only [hv1]
              clear hv1
              have X0 := Lib.hid (show SetF w' (v 0) (d0) (d1) (d2) (d3) from hJ.out.fact 0 (by kernel_rfl))
              go_wp2_with fail
              with_reducible refine (HAT.out _ _ X0.out).mono ?_
              rintro e w1 ⟨u, rfl, hu, hb⟩
              go_wp2_with fail
              exact ⟨rfl, rfl, hJ.out.call (by rfl) hb (hu)⟩
            simp only [Act.put, List.setIfInBounds_toArray, List.set_cons_zero, List.set_cons_succ, Nat.reduceAdd]
            refine Steps.held ?_ ?_
            · intro L v w' hJ
              have kb := hJ.out.blk E8.out (by simp [oldsOf])
              have k0 := kb.cell 0
              have k1 := kb.cell 1
              have k2 := kb.cell 2
              have k3 := kb.cell 3
              have k4 := kb.cell 4
              have k5 := kb.cell 5
              have k6 := kb.cell 6
              have k7 := kb.cell 7
              clear kb
              go_wp2_with fail
              exact ⟨rfl, rfl, hJ.out.same (by rfl) (setR_keep HRV.out hJ.out.held.keep)⟩
            simp only [Act.put, List.setIfInBounds_toArray, List.set_cons_zero, List.set_cons_succ, Nat.reduceAdd]
            refine Steps.held ?_ ?_
            · intro L v w' hJ
              go_wp2_with fail
              exact ⟨rfl, rfl, hJ.out.same (by rfl) (rfl)⟩
            simp only [Act.put, List.setIfInBounds_toArray, List.set_cons_zero, List.set_cons_succ, Nat.reduceAdd]
            refine Steps.held ?_ ?_
            · intro L v w' hJ
              have hv4 : v 4 = .int .i64 k := hJ.out.fact 4 (by kernel_rfl)
              simp only [hv4]
              clear hv4
              have X0 := Lib.hid (show SetR w' (v 3) (d0) (d1) (d2) (d3) from hJ.out.fact 3 (by kernel_rfl))
              go_wp2_with fail
              with_reducible refine (HRA.out _ _ X0.out).mono ?_
              rintro e w1 ⟨u, rfl, hu, hb⟩
              go_wp2_with fail
              exact ⟨rfl, rfl, hJ.out.call (by rfl) hb (hu)⟩
            simp only [Act.put, List.setIfInBounds_toArray, List.set_cons_zero, List.set_cons_succ, Nat.reduceAdd]
            refine Steps.held ?_ ?_
            · intro L v w' hJ
              have X0 := Lib.hid (show F64 w' (v 2) (d2.1) (d2.2) from hJ.out.fact 2 (by kernel_rfl))
              have X1 := Lib.hid (show RF w' (v 5) (d2.1) (d2.2) from hJ.out.fact 5 (by kernel_rfl))
              go_wp2_with fail
              with_reducible refine (HIS2.out _ _ _ X0.out X1.out).mono ?_
              rintro e w1 ⟨rfl, hb⟩
              go_wp2_with fail
              exact ⟨rfl, rfl, hJ.out.call (by rfl) hb (rfl)⟩
            simp only [Act.put, List.setIfInBounds_toArray, List.set_cons_zero, List.set_cons_succ, Nat.reduceAdd]
            refine Steps.held ?_ ?_
            · intro L v w' hJ
              have hv6 : v 6 = .bool true := hJ.out.fact 6 (by kernel_rfl)
              simp only [hv6]
              clear hv6
              go_wp2_with fail
              exact ⟨rfl, rfl, hJ.out.same (by rfl) (rfl)⟩
            simp only [Act.put, List.setIfInBounds_toArray, List.set_cons_zero, List.set_cons_succ, Nat.reduceAdd]
            refine Steps.held ?_ ?_
            · intro L v w' hJ
              have hv7 : v 7 = .bool true := hJ.out.fact 7 (by kernel_rfl)
              simp only [hv7]
              clear hv7
              go_wp2_with fail
              with_reducible refine (HLV.out _).mono ?_
              rintro e w1 ⟨rfl, hb⟩
              go_wp2_with fail
              exact ⟨rfl, rfl, hJ.out.call (by rfl) hb (rfl)⟩
            simp only [Act.put, List.setIfInBounds_toArray, List.set_cons_zero, List.set_cons_succ, Nat.reduceAdd]
            refine Steps.held ?_ ?_
            · intro L v w' hJ
              have hv7 : v 7 = .bool true := hJ.out.fact 7 (by kernel_rfl)
              simp only [hv7]
              clear hv7
              have hv8 : v 8 = .bool true := hJ.out.fact 8 (by kernel_rfl)
              simp only [hv8]
              clear hv8
              go_wp2_with fail
              exact ⟨rfl, rfl, hJ.out.same (by rfl) (rfl)⟩
            simp only [Act.put, List.setIfInBounds_toArray, List.set_cons_zero, List.set_cons_succ, Nat.reduceAdd]
            refine Steps.held ?_ ?_
            · intro L v w' hJ
              have hv9 : v 9 = .bool true := hJ.out.fact 9 (by kernel_rfl)
              simp only [hv9]
              clear hv9
              go_wp2_with fail
              exact ⟨rfl, rfl, hJ.out.same (by rfl) (rfl)⟩
            simp only [Act.put, List.setIfInBounds_toArray, List.set_cons_zero, List.set_cons_succ, Nat.reduceAdd]
            refine Steps.nil ?_
            intro v w' hJ
            have h10 : v 10 = .bool true := hJ.end_fact 10 (by decide)
            have HF := Lib.hid (cbt (cbt HBW.out HBY.out) hJ.but.below)
            clear hJ
            simp only [h10]
            clear h10
            go_wp2_with fail
            go_ret
            exact ⟨rfl, HF.out⟩
          · have hj : min y 3 = 3 := by omega
            have hj2 : min k 3 = 3 := by omega
            replace hk1 : 1 ≤ k := by omega
            have HAT := Lib.hid (fun v W (h : SetF W v d0 d1 d2 d3) => at3_any d0 d1 d2 d3 v k y W h hy hj)
            have HRA := Lib.hid (fun v W (h : SetR W v d0 d1 d2 d3) => rat3_any d0 d1 d2 d3 v k W h hk1 hj2)
            clear hy hj hk1 hj2
            go_wp2_with fail
            let FS : List Kept1 := [.setF (d0) (d1) (d2) (d3), .eq (.int .i64 k), .f (d3.1) (d3.2), .setR (d0) (d1) (d2) (d3), .eq (.int .i64 k), .rf (d3.1) (d3.2), .eq (.bool true), .eq (.bool true), .eq (.bool true), .eq (.bool true), .eq (.bool true)]
            refine region_mono (Held wr (fun j => FS.getD j .any) []) (by kernel_rfl) (by kernel_rfl) (by kernel_rfl) (Held.start _ _ _ (by simp) (by simp)) ?_
            refine Steps.held ?_ ?_
            · intro L v w' hJ
              have kb := hJ.out.blk E7.out (by simp [oldsOf])
              have k0 := kb.cell 0
              have k1 := kb.cell 1
              have k2 := kb.cell 2
              have k3 := kb.cell 3
              have k4 := kb.cell 4
              have k5 := kb.cell 5
              have k6 := kb.cell 6
              have k7 := kb.cell 7
              clear kb
              go_wp2_with fail
              exact ⟨rfl, rfl, hJ.out.same (by rfl) (setF_keep HSV.out hJ.out.held.keep)⟩
            simp only [Act.put, List.setIfInBounds_toArray, List.set_cons_zero, List.set_cons_succ, Nat.reduceAdd]
            refine Steps.held ?_ ?_
            · intro L v w' hJ
              go_wp2_with fail
              exact ⟨rfl, rfl, hJ.out.same (by rfl) (rfl)⟩
            simp only [Act.put, List.setIfInBounds_toArray, List.set_cons_zero, List.set_cons_succ, Nat.reduceAdd]
            refine Steps.held ?_ ?_
            · intro L v w' hJ
              have hv1 : v 1 = .int .i64 k := hJ.out.fact 1 (by kernel_rfl)
              simp only [hv1]
              clear hv1
              have X0 := Lib.hid (show SetF w' (v 0) (d0) (d1) (d2) (d3) from hJ.out.fact 0 (by kernel_rfl))
              go_wp2_with fail
              with_reducible refine (HAT.out _ _ X0.out).mono ?_
              rintro e w1 ⟨u, rfl, hu, hb⟩
              go_wp2_with fail
              exact ⟨rfl, rfl, hJ.out.call (by rfl) hb (hu)⟩
            simp only [Act.put, List.setIfInBounds_toArray, List.set_cons_zero, List.set_cons_succ, Nat.reduceAdd]
            refine Steps.held ?_ ?_
            · intro L v w' hJ
              have kb := hJ.out.blk E8.out (by simp [oldsOf])
              have k0 := kb.cell 0
              have k1 := kb.cell 1
              have k2 := kb.cell 2
              have k3 := kb.cell 3
              have k4 := kb.cell 4
              have k5 := kb.cell 5
              have k6 := kb.cell 6
              have k7 := kb.cell 7
              clear kb
              go_wp2_with fail
              exact ⟨rfl, rfl, hJ.out.same (by rfl) (setR_keep HRV.out hJ.out.held.keep)⟩
            simp only [Act.put, List.setIfInBounds_toArray, List.set_cons_zero, List.set_cons_succ, Nat.reduceAdd]
            refine Steps.held ?_ ?_
            · intro L v w' hJ
              go_wp2_with fail
              exact ⟨rfl, rfl, hJ.out.same (by rfl) (rfl)⟩
            simp only [Act.put, List.setIfInBounds_toArray, List.set_cons_zero, List.set_cons_succ, Nat.reduceAdd]
            refine Steps.held ?_ ?_
            · intro L v w' hJ
              have hv4 : v 4 = .int .i64 k := hJ.out.fact 4 (by kernel_rfl)
              simp only [hv4]
              clear hv4
              have X0 := Lib.hid (show SetR w' (v 3) (d0) (d1) (d2) (d3) from hJ.out.fact 3 (by kernel_rfl))
              go_wp2_with fail
              with_reducible refine (HRA.out _ _ X0.out).mono ?_
              rintro e w1 ⟨u, rfl, hu, hb⟩
              go_wp2_with fail
              exact ⟨rfl, rfl, hJ.out.call (by rfl) hb (hu)⟩
            simp only [Act.put, List.setIfInBounds_toArray, List.set_cons_zero, List.set_cons_succ, Nat.reduceAdd]
            refine Steps.held ?_ ?_
            · intro L v w' hJ
              have X0 := Lib.hid (show F64 w' (v 2) (d3.1) (d3.2) from hJ.out.fact 2 (by kernel_rfl))
              have X1 := Lib.hid (show RF w' (v 5) (d3.1) (d3.2) from hJ.out.fact 5 (by kernel_rfl))
              go_wp2_with fail
              with_reducible refine (HIS3.out _ _ _ X0.out X1.out).mono ?_
              rintro e w1 ⟨rfl, hb⟩
              go_wp2_with fail
              exact ⟨rfl, rfl, hJ.out.call (by rfl) hb (rfl)⟩
            simp only [Act.put, List.setIfInBounds_toArray, List.set_cons_zero, List.set_cons_succ, Nat.reduceAdd]
            refine Steps.held ?_ ?_
            · intro L v w' hJ
              have hv6 : v 6 = .bool true := hJ.out.fact 6 (by kernel_rfl)
              simp only [hv6]
              clear hv6
              go_wp2_with fail
              exact ⟨rfl, rfl, hJ.out.same (by rfl) (rfl)⟩
            simp only [Act.put, List.setIfInBounds_toArray, List.set_cons_zero, List.set_cons_succ, Nat.reduceAdd]
            refine Steps.held ?_ ?_
            · intro L v w' hJ
              have hv7 : v 7 = .bool true := hJ.out.fact 7 (by kernel_rfl)
              simp only [hv7]
              clear hv7
              go_wp2_with fail
              with_reducible refine (HLV.out _).mono ?_
              rintro e w1 ⟨rfl, hb⟩
              go_wp2_with fail
              exact ⟨rfl, rfl, hJ.out.call (by rfl) hb (rfl)⟩
            simp only [Act.put, List.setIfInBounds_toArray, List.set_cons_zero, List.set_cons_succ, Nat.reduceAdd]
            refine Steps.held ?_ ?_
            · intro L v w' hJ
              have hv7 : v 7 = .bool true := hJ.out.fact 7 (by kernel_rfl)
              simp only [hv7]
              clear hv7
              have hv8 : v 8 = .bool true := hJ.out.fact 8 (by kernel_rfl)
              simp only [hv8]
              clear hv8
              go_wp2_with fail
              exact ⟨rfl, rfl, hJ.out.same (by rfl) (rfl)⟩
            simp only [Act.put, List.setIfInBounds_toArray, List.set_cons_zero, List.set_cons_succ, Nat.reduceAdd]
            refine Steps.held ?_ ?_
            · intro L v w' hJ
              have hv9 : v 9 = .bool true := hJ.out.fact 9 (by kernel_rfl)
              simp only [hv9]
              clear hv9
              go_wp2_with fail
              exact ⟨rfl, rfl, hJ.out.same (by rfl) (rfl)⟩
            simp only [Act.put, List.setIfInBounds_toArray, List.set_cons_zero, List.set_cons_succ, Nat.reduceAdd]
            refine Steps.nil ?_
            intro v w' hJ
            have h10 : v 10 = .bool true := hJ.end_fact 10 (by decide)
            have HF := Lib.hid (cbt (cbt HBW.out HBY.out) hJ.but.below)
            clear hJ
            simp only [h10]
            clear h10
            go_wp2_with fail
            go_ret
            exact ⟨rfl, HF.out⟩
end Go.Proofs.Yteikhnmmkanndaa
namespace Go.Proofs.Yteikhnmmkanndaa
open Go.ChangeShapes Go.WideShapes Go.RowKit Go.Proofs.YteikhnmmkanndaaW.PrintWords
section
variable {H : Type} {enc : TypeId × Value → H} {w : World} {base : Nat} {spare : Nat → Bool} {held : Bool}
set_option maxRecDepth 100000 in
theorem okWide_arr4 {v : Value} {r : Reach} (h : Value.okWide Try.prog w r base 93 v) : ∃ cs, v = .agg cs ∧ cs.size = Try.prog.cellsOf 93 := by
  simp only [Value.okWide, Try.underlying93] at h
  obtain ⟨cs, h1, h2, _⟩ := h
  exact ⟨cs, h1, h2⟩
set_option maxRecDepth 100000 in
/-- an argument that is four numbers. -/
theorem open_arr4_at {fuel : Nat} {cs : Array Value} {x : DataW H × List MemPlace} (h2 : cs.size = 4) (h : DataW.trod enc Try.prog w base spare held fuel 93 cs.toList = some x) : ∃ a b c d : Int, cs = #[.int .i64 a, .int .i64 b, .int .i64 c, .int .i64 d] := by
  obtain ⟨l⟩ := cs
  rcases l with _ | ⟨a, _ | ⟨b, _ | ⟨c, _ | ⟨d, _ | ⟨e, t⟩⟩⟩⟩⟩
  · exact absurd h2 (by simp)
  · exact absurd h2 (by simp)
  · exact absurd h2 (by simp)
  · exact absurd h2 (by simp)
  · obtain ⟨y0, y1, y2, y3, m, _, hy0, hy1, hy2, hy3⟩ := trod_array4 Try.underlying93 (by kernel_rfl) h
    obtain ⟨x0, e0, _, _⟩ := DataW.trod_int Try.underlying3 hy0
    obtain ⟨x1, e1, _, _⟩ := DataW.trod_int Try.underlying3 hy1
    obtain ⟨x2, e2, _, _⟩ := DataW.trod_int Try.underlying3 hy2
    obtain ⟨x3, e3, _, _⟩ := DataW.trod_int Try.underlying3 hy3
    simp at e0 e1 e2 e3
    subst e0 e1 e2 e3
    exact ⟨x0, x1, x2, x3, rfl⟩
  · exact absurd h2 (by simp)
end
end Go.Proofs.Yteikhnmmkanndaa
