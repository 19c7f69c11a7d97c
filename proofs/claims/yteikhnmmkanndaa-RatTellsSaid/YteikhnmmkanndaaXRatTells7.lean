/- Laid together by prune.py out of the texts that the row needs: the declarations that its theorem uses. -/
import Derived.Test.YteikhnmmkanndaaXRatTells6
import Derived.ChangeSlices
import Derived.ChangeSame
import Derived.OpenShut
import Derived.ChangeOld
namespace Go.Proofs.Yteikhnmmkanndaa
open Go.RowKit Go.Proofs.YteikhnmmkanndaaW.PrintWords
set_option linter.unusedSimpArgs false
set_option linter.unusedVariables false
theorem Frc.fst {w : World} {A B : Option Addr} {n c k d : Nat} {l m : List Int} (h : Frc w (.agg #[.slice A n c, .slice B k d]) l m) : ByS w (.slice A n c) l := by
  obtain ⟨_, _, _, _, _, _, hv, h1, _⟩ := h
  cases hv
  exact h1
theorem Dec.le_of {x m : Nat} {l : List Int} (h : Dec x l) (hx : x < 10 ^ m) (hm : 1 ≤ m) : l.length ≤ m := by
  obtain ⟨m, rfl⟩ : ∃ k, m = k + 1 := ⟨m - 1, by omega⟩
  exact h.le hx
theorem two_ten (n : Nat) : 2 ^ (8 * n) ≤ 10 ^ (19 * n) := by
  rw [Nat.pow_mul, Nat.pow_mul]
  exact Nat.pow_le_pow_left (by decide) n
set_option maxRecDepth 100000 in
set_option maxHeartbeats 4000000 in
theorem xtext_of (v : Value) (n d : Nat) (sn sd : ByteArray) (w : World) (ha : RF w v n d) (t1 : ∀ (u : Value) (W : World), R256 W u n → Calls Try.prog 47 #[u] W fun x w' => x = .returned (.string sn) ∧ Below W.heap.size W w') (t2 : ∀ (u : Value) (W : World), R256 W u d → Calls Try.prog 47 #[u] W fun x w' => x = .returned (.string sd) ∧ Below W.heap.size W w') (z1 : sn.size ≤ 100000) (z2 : sd.size ≤ 100000) : Calls Try.prog 75 #[v] w fun x w' => x = .returned (.string (sn ++ ⟨#[47]⟩ ++ sd)) ∧ Below w.heap.size w w' := by
  have Ha := Lib.hid ha
  obtain ⟨Pa, pa, ca, Qa, qa, ea, rfl, _, _⟩ := ha
  have HT1 := Lib.hid t1
  have HT2 := Lib.hid t2
  have q1 : ¬ 9223372036854775807 < sn.size + 1 := by omega
  have q2 : ¬ 9223372036854775807 < sn.size + 1 + sd.size := by omega
  clear t1 t2 z1 z2
  have e0 := Blk.new (w) 52 #[(.slice Pa pa ca), (.slice Qa qa ea)]
  have hb := cba (Below.refl _ w) (.cells #[(.slice Pa pa ca), (.slice Qa qa ea)] 52)
  have hsz : w.heap.size ≤ w.heap.size := Nat.le_refl _
  go_enter Try.func75, Try.ntmps75
  go_upto_region 1 with (fail)
  obtain ⟨S, hS⟩ : ∃ S, (w).alloc (.cells #[(.slice Pa pa ca), (.slice Qa qa ea)] 52) = S := ⟨_, rfl⟩
  rw [hS] at e0 hb ⊢
  replace Ha := Lib.hid (Ha.out.below hb)
  have HB0 := Lib.hid hb
  have E0 := Lib.hid e0
  clear hS hb hsz e0
  have Ha0 := Lib.hid (RF.fst Ha.out)
  have Ha1 := Lib.hid (RF.snd Ha.out)
  go_wp2_with fail
  let FS : List Kept1 := [.eq (.pointer (some ⟨w.heap.size, 0, none⟩)), .r (n), .eq (.string sn), .eq (.string (sn ++ ⟨#[47]⟩)), .eq (.pointer (some ⟨w.heap.size, 1, none⟩)), .r (d), .eq (.string sd), .eq (.string (sn ++ ⟨#[47]⟩ ++ sd)), .eq (.string (sn ++ ⟨#[47]⟩ ++ sd))]
  refine region_mono (Held S (fun j => FS.getD j .any) []) (by kernel_rfl) (by kernel_rfl) (by kernel_rfl) (Held.start _ _ _ (by simp) (by simp)) ?_
  refine Steps.held ?_ ?_
  · intro L v w' hJ
    go_wp2_with fail
    exact ⟨rfl, rfl, hJ.out.same (by rfl) (rfl)⟩
  simp only [Act.put, List.setIfInBounds_toArray, List.set_cons_zero, List.set_cons_succ, Nat.reduceAdd]
  refine Steps.held ?_ ?_
  · intro L v w' hJ
    have hv0 : v 0 = .pointer (some ⟨w.heap.size, 0, none⟩) := hJ.out.fact 0 (by kernel_rfl)
    simp only [hv0]
    clear hv0
    have kb := hJ.out.blk E0.out (by simp [oldsOf])
    have k0 := kb.cell 0
    have k1 := kb.cell 1
    clear kb
    go_wp2_with fail
    exact ⟨rfl, rfl, hJ.out.same (by rfl) (Ha0.out.keep hJ.out.held.keep)⟩
  simp only [Act.put, List.setIfInBounds_toArray, List.set_cons_zero, List.set_cons_succ, Nat.reduceAdd]
  refine Steps.held ?_ ?_
  · intro L v w' hJ
    have X0 := Lib.hid (show R256 w' (v 1) (n) from hJ.out.fact 1 (by kernel_rfl))
    go_wp2_with fail
    with_reducible refine (HT1.out _ _ X0.out).mono ?_
    rintro e w1 ⟨rfl, hb⟩
    go_wp2_with fail
    exact ⟨rfl, rfl, hJ.out.call (by rfl) hb (rfl)⟩
  simp only [Act.put, List.setIfInBounds_toArray, List.set_cons_zero, List.set_cons_succ, Nat.reduceAdd]
  refine Steps.held ?_ ?_
  · intro L v w' hJ
    have hv2 : v 2 = .string sn := hJ.out.fact 2 (by kernel_rfl)
    simp only [hv2]
    clear hv2
    go_wp2_with fail
    exact ⟨rfl, rfl, hJ.out.same (by rfl) (rfl)⟩
  simp only [Act.put, List.setIfInBounds_toArray, List.set_cons_zero, List.set_cons_succ, Nat.reduceAdd]
  refine Steps.held ?_ ?_
  · intro L v w' hJ
    go_wp2_with fail
    exact ⟨rfl, rfl, hJ.out.same (by rfl) (rfl)⟩
  simp only [Act.put, List.setIfInBounds_toArray, List.set_cons_zero, List.set_cons_succ, Nat.reduceAdd]
  refine Steps.held ?_ ?_
  · intro L v w' hJ
    have hv4 : v 4 = .pointer (some ⟨w.heap.size, 1, none⟩) := hJ.out.fact 4 (by kernel_rfl)
    simp only [hv4]
    clear hv4
    have kb := hJ.out.blk E0.out (by simp [oldsOf])
    have k0 := kb.cell 0
    have k1 := kb.cell 1
    clear kb
    go_wp2_with fail
    exact ⟨rfl, rfl, hJ.out.same (by rfl) (Ha1.out.keep hJ.out.held.keep)⟩
  simp only [Act.put, List.setIfInBounds_toArray, List.set_cons_zero, List.set_cons_succ, Nat.reduceAdd]
  refine Steps.held ?_ ?_
  · intro L v w' hJ
    have X0 := Lib.hid (show R256 w' (v 5) (d) from hJ.out.fact 5 (by kernel_rfl))
    go_wp2_with fail
    with_reducible refine (HT2.out _ _ X0.out).mono ?_
    rintro e w1 ⟨rfl, hb⟩
    go_wp2_with fail
    exact ⟨rfl, rfl, hJ.out.call (by rfl) hb (rfl)⟩
  simp only [Act.put, List.setIfInBounds_toArray, List.set_cons_zero, List.set_cons_succ, Nat.reduceAdd]
  refine Steps.held ?_ ?_
  · intro L v w' hJ
    have hv3 : v 3 = .string (sn ++ ⟨#[47]⟩) := hJ.out.fact 3 (by kernel_rfl)
    simp only [hv3]
    clear hv3
    have hv6 : v 6 = .string sd := hJ.out.fact 6 (by kernel_rfl)
    simp only [hv6]
    clear hv6
    go_wp2_with fail
    exact ⟨rfl, rfl, hJ.out.same (by rfl) (rfl)⟩
  simp only [Act.put, List.setIfInBounds_toArray, List.set_cons_zero, List.set_cons_succ, Nat.reduceAdd]
  refine Steps.held ?_ ?_
  · intro L v w' hJ
    have hv7 : v 7 = .string (sn ++ ⟨#[47]⟩ ++ sd) := hJ.out.fact 7 (by kernel_rfl)
    simp only [hv7]
    clear hv7
    go_wp2_with fail
    exact ⟨rfl, rfl, hJ.out.same (by rfl) (rfl)⟩
  simp only [Act.put, List.setIfInBounds_toArray, List.set_cons_zero, List.set_cons_succ, Nat.reduceAdd]
  refine Steps.nil ?_
  intro v w' hJ
  have h8 : v 8 = .string (sn ++ ⟨#[47]⟩ ++ sd) := hJ.end_fact 8 (by decide)
  have HF := Lib.hid (cbt HB0.out hJ.but.below)
  clear hJ
  simp only [h8]
  clear h8
  go_wp2_with fail
  go_ret
  exact ⟨rfl, HF.out⟩
set_option maxRecDepth 100000 in
set_option maxHeartbeats 4000000 in
theorem ratTells_law (vx : Value) (lx mx : List Int) (vy : Value) (ly my : List Int) (w : World) (hx : Frc w vx lx mx) (ylx : Bys lx) (ymx : Bys mx) (hy : Frc w vy ly my) (yly : Bys ly) (ymy : Bys my) : Calls Try.prog 16 #[vx, vy] w fun e w' => e = .returned (.bool true) ∧ Below w.heap.size w w' := by
  have Hx := Lib.hid hx
  obtain ⟨Ux, nx, cx, Vx, kx, dx, rfl, _, _, _, _⟩ := hx
  have Hy := Lib.hid hy
  obtain ⟨Uy, ny, cy, Vy, ky, dy, rfl, _, _, _, _⟩ := hy
  by_cases hzx : lx.length ≤ 24 ∧ mx.length ≤ 24
  · obtain ⟨hxx, hyx⟩ := hzx
    by_cases hzy : ly.length ≤ 24 ∧ my.length ≤ 24
    · obtain ⟨hxy, hyy⟩ := hzy
      have HSx : Hid (∀ v W, Frc W v lx mx → Calls Try.prog 64 #[v, .int .i64 24] W (fun x w' => x = .returned (.bool true) ∧ Below W.heap.size W w')) := Lib.hid (fun v W h => c_small (k := 24) h (by simp [hxx, hyx]))
      have HSy : Hid (∀ v W, Frc W v ly my → Calls Try.prog 64 #[v, .int .i64 24] W (fun x w' => x = .returned (.bool true) ∧ Below W.heap.size W w')) := Lib.hid (fun v W h => c_small (k := 24) h (by simp [hxy, hyy]))
      have ra := frcR_red lx mx
      have sa := frcR_sz ylx ymx hxx hyx
      have HTa := Lib.hid (fun v W h => c_to (v := v) (W := W) (l := lx) (m := mx) h ylx ymx (by omega) (by omega))
      have HRa := Lib.hid (fun v W h => c_ref (v := v) (W := W) (l := lx) (m := mx) h ylx ymx (by omega) (by omega))
      obtain ⟨a, hea⟩ : ∃ a, frcR lx mx = a := ⟨_, rfl⟩
      rw [hea] at ra sa HTa HRa
      clear hea
      have rb := frcR_red ly my
      have sb := frcR_sz yly ymy hxy hyy
      have HTb := Lib.hid (fun v W h => c_to (v := v) (W := W) (l := ly) (m := my) h yly ymy (by omega) (by omega))
      have HRb := Lib.hid (fun v W h => c_ref (v := v) (W := W) (l := ly) (m := my) h yly ymy (by omega) (by omega))
      obtain ⟨b, heb⟩ : ∃ a, frcR ly my = a := ⟨_, rfl⟩
      rw [heb] at rb sb HTb HRb
      clear heb
      have sa' := sa.mono (C := 80) (by decide)
      have sb' := sb.mono (C := 80) (by decide)
      have HRX := Lib.hid (fun v W h => nread_any v lx W h ylx (by omega))
      obtain ⟨bx, hbx⟩ : ∃ b, be lx = b := ⟨_, rfl⟩
      rw [hbx] at HRX
      clear hbx
      have HO0 := Lib.hid (fun W => of_lit 0 (by decide) 0 rfl W)
      have HON := Lib.hid (fun va vb W h1 h2 => rofF_no va vb bx 0 W h1 h2 rfl)
      have HZ0 := Lib.hid (fun v W h => rzero_yes v 0 1 W h rfl)
      have HI7 : Hid (∀ W, Calls Try.prog 74 #[.int .u64 7] W (MkF W 7 1)) := Lib.hid (fun W => rint_any 7 (by decide) W)
      have HX7 : Hid (∀ W, Calls Try.prog 70 #[.int .i64 7] W (MkR W 7 1)) := Lib.hid (fun W => xint_any 7 7 (by decide) (by decide) W)
      have HS7 := Lib.hid (fun va vb W h1 h2 => c_is (a := (7, 1)) (va := va) (vb := vb) (W := W) (B := 80) (by decide) ⟨by decide +kernel, by decide +kernel⟩ h1 h2)
      have w81 : wl 8 a.1 ≤ 2147483648 := Nat.le_trans sa'.1 (by decide)
      have w82 : wl 8 a.2 ≤ 2147483648 := Nat.le_trans sa'.2 (by decide)
      have HDV := Lib.hid (fun W va vb (h1 : R256 W va a.1) (h2 : R256 W vb a.2) => rdiv_any h1 h2 w81 w82 ra.2)
      have HFL := Lib.hid (fun v W h => rfloor_any v a.1 a.2 W h (Nat.le_trans sa'.w1 (by decide)))
      have hq8 : wl 8 (a.1 / a.2) ≤ 1000000000 := Nat.le_trans (wl_mono (by decide) (Nat.div_le_self _ _)) (Nat.le_trans sa'.1 (by decide))
      have hq64 : wl 64 (a.1 / a.2) ≤ 1099511627 := Nat.le_trans (wl64_le _) (Nat.le_trans hq8 (by decide))
      have HIQ := Lib.hid (fun va vb W h1 h2 => is_yes va vb (a.1 / a.2) W h1 h2 hq64 hq8)
      obtain ⟨q, hq⟩ : ∃ q, a.1 / a.2 = q := ⟨_, rfl⟩
      obtain ⟨r, hr⟩ : ∃ r, a.1 % a.2 = r := ⟨_, rfl⟩
      rw [hq, hr] at HDV
      rw [hq] at HFL HIQ
      have x1 : a.1 < 10 ^ (19 * 80) := Nat.lt_of_lt_of_le ((wl_le (k := 8) (by decide) a.1 80).1 sa'.1) (two_ten 80)
      have x2 : a.2 < 10 ^ (19 * 80) := Nat.lt_of_lt_of_le ((wl_le (k := 8) (by decide) a.2 80).1 sa'.2) (two_ten 80)
      obtain ⟨L1, hL1⟩ := Dec.some a.1
      obtain ⟨L2, hL2⟩ := Dec.some a.2
      have z1 : (strOfNums L1).size ≤ 100000 := by rw [hL1.size]; exact Nat.le_trans (Dec.le_of hL1 x1 (by decide)) (by decide)
      have z2 : (strOfNums L2).size ≤ 100000 := by rw [hL2.size]; exact Nat.le_trans (Dec.le_of hL2 x2 (by decide)) (by decide)
      have HTX := Lib.hid (fun v W h => rtext_of v a.1 a.2 (strOfNums L1) (strOfNums L2) W h (fun u W h => ntext_dec h x1 (by decide) hL1) (fun u W h => ntext_dec h x2 (by decide) hL2) z1 z2)
      have HXT := Lib.hid (fun v W h => xtext_of v a.1 a.2 (strOfNums L1) (strOfNums L2) W h (fun u W h => rtext_dec h x1 (by decide) hL1) (fun u W h => rtext_dec h x2 (by decide) hL2) z1 z2)
      obtain ⟨TS, hT⟩ : ∃ T, strOfNums L1 ++ ⟨#[47]⟩ ++ strOfNums L2 = T := ⟨_, rfl⟩
      rw [hT] at HTX HXT
      have HCF := Lib.hid (fun va vb W h1 h2 => c_cmp (va := va) (vb := vb) (W := W) (B := 80) (by decide) sa' sb' h1 h2)
      have e1 := Nat.le_trans sa'.1 (show 80 ≤ 100000000 by decide)
      have e2 := Nat.le_trans sa'.2 (show 80 ≤ 100000000 by decide)
      have e3 := Nat.le_trans sb'.1 (show 80 ≤ 100000000 by decide)
      have e4 := Nat.le_trans sb'.2 (show 80 ≤ 100000000 by decide)
      have HCX := Lib.hid (fun va vb W h1 h2 => xcmp_any va vb a.1 a.2 b.1 b.2 W h1 h2 e1 e2 e3 e4)
      obtain ⟨cc, hcc⟩ : ∃ c, cmpN (a.1 * b.2) (b.1 * a.2) = c := ⟨_, rfl⟩
      rw [hcc] at HCF HCX
      have HIS := Lib.hid (fun va vb W h1 h2 => c_is (va := va) (vb := vb) (W := W) (B := 80) (by decide) sa' h1 h2)
      have HLV := Lib.hid live26_any
      have hz8 := wl_eq_zero (k := 8) (by decide) (x := a.1)
      clear hcc hT z1 z2 hL1 hL2 x1 x2 hq hr hq8 hq64 w81 w82 e1 e2 e3 e4 ra rb sa sb sa' sb' ylx ymx yly ymy hxx hyx hxy hyy
      by_cases ha0 : a.1 = 0
      · have HZA := Lib.hid (fun v W h => rzero_yes v a.1 a.2 W h ha0)
        have HW0 := Lib.hid (hz8.2 ha0)
        clear hz8 ha0
        have e0 := (Blk.new (w) 45 #[(.slice Ux nx cx), (.slice Vx kx dx)]).alloc (.cells #[(.slice Uy ny cy), (.slice Vy ky dy)] 45)
        have e1 := Blk.new ((w).alloc (.cells #[(.slice Ux nx cx), (.slice Vx kx dx)] 45)) 45 #[(.slice Uy ny cy), (.slice Vy ky dy)]
        have hb := cba (cba (Below.refl _ w) (.cells #[(.slice Ux nx cx), (.slice Vx kx dx)] 45)) (.cells #[(.slice Uy ny cy), (.slice Vy ky dy)] 45)
        simp only [World.size_alloc] at e1
        have hsz : w.heap.size ≤ w.heap.size := Nat.le_refl _
        go_enter Try.func16, Try.ntmps16
        go_upto_region 1 with (fail)
        obtain ⟨S, hS⟩ : ∃ S, ((w).alloc (.cells #[(.slice Ux nx cx), (.slice Vx kx dx)] 45)).alloc (.cells #[(.slice Uy ny cy), (.slice Vy ky dy)] 45) = S := ⟨_, rfl⟩
        rw [hS] at e0 e1 hb ⊢
        replace Hx := Lib.hid (Hx.out.below hb)
        replace Hy := Lib.hid (Hy.out.below hb)
        have HB0 := Lib.hid hb
        have E0 := Lib.hid e0
        have E1 := Lib.hid e1
        clear hS hb hsz e0 e1
        have k_E0_0 := E0.out.cell 0
        have k_E0_1 := E0.out.cell 1
        have k_E1_0 := E1.out.cell 0
        have k_E1_1 := E1.out.cell 1
        go_wp2_with fail
        with_reducible refine (HSx.out _ _ Hx.out).mono ?_
        rintro e w1 ⟨rfl, hb⟩
        clear k_E0_0 k_E0_1 k_E1_0 k_E1_1
        replace Hx := Lib.hid (Hx.out.below hb)
        replace Hy := Lib.hid (Hy.out.below hb)
        replace E0 := Lib.hid (blk_below E0.out hb)
        replace E1 := Lib.hid (blk_below E1.out hb)
        replace HB0 := Lib.hid (cbt HB0.out hb)
        clear hb
        have k_E0_0 := E0.out.cell 0
        have k_E0_1 := E0.out.cell 1
        have k_E1_0 := E1.out.cell 0
        have k_E1_1 := E1.out.cell 1
        go_wp2_with fail
        with_reducible refine (HSy.out _ _ Hy.out).mono ?_
        rintro e w1 ⟨rfl, hb⟩
        clear k_E0_0 k_E0_1 k_E1_0 k_E1_1
        replace Hx := Lib.hid (Hx.out.below hb)
        replace Hy := Lib.hid (Hy.out.below hb)
        replace E0 := Lib.hid (blk_below E0.out hb)
        replace E1 := Lib.hid (blk_below E1.out hb)
        replace HB0 := Lib.hid (cbt HB0.out hb)
        clear hb
        have k_E0_0 := E0.out.cell 0
        have k_E0_1 := E0.out.cell 1
        have k_E1_0 := E1.out.cell 0
        have k_E1_1 := E1.out.cell 1
        go_wp2_with fail
        clear k_E0_0 k_E0_1 k_E1_0 k_E1_1
        let FS : List Kept1 := [.frc (lx) (mx), .f (a.1) (a.2), .frc (ly) (my), .f (b.1) (b.2), .any, .any, .any, .any]
        let BS : List Bx := [Bx.rat (.inl 4) 6 #[.slice none 0 0, .slice none 0 0] (a.1) (a.2), Bx.rat (.inl 5) 7 #[.slice none 0 0, .slice none 0 0] (b.1) (b.2)]
        refine region_mono (Held w1 (fun j => FS.getD j .any) BS) (by kernel_rfl) (by kernel_rfl) (by kernel_rfl) (Held.start _ _ _ (by simp [BS, Bx.nat, Bx.rat, Bx.ref]) (by simp [BS, Bx.nat, Bx.rat, Bx.ref])) ?_
        refine Steps.held ?_ ?_
        · intro L v w' hJ
          have kb := hJ.out.blk E0.out (by simp [oldsOf, BS, Bx.nat, Bx.rat, Bx.ref])
          have k0 := kb.cell 0
          have k1 := kb.cell 1
          clear kb
          go_wp2_with fail
          exact ⟨rfl, rfl, hJ.out.same (by rfl) (Hx.out.keep hJ.out.held.keep)⟩
        simp only [Act.put, List.setIfInBounds_toArray, List.set_cons_zero, List.set_cons_succ, Nat.reduceAdd]
        refine Steps.held ?_ ?_
        · intro L v w' hJ
          have X0 := Lib.hid (show Frc w' (v 0) (lx) (mx) from hJ.out.fact 0 (by kernel_rfl))
          go_wp2_with fail
          with_reducible refine (HTa.out _ _ X0.out).mono ?_
          rintro e w1 ⟨u, rfl, hu, hb⟩
          go_wp2_with fail
          exact ⟨rfl, rfl, hJ.out.call (by rfl) hb (hu)⟩
        simp only [Act.put, List.setIfInBounds_toArray, List.set_cons_zero, List.set_cons_succ, Nat.reduceAdd]
        refine Steps.held ?_ ?_
        · intro L v w' hJ
          have kb := hJ.out.blk E1.out (by simp [oldsOf, BS, Bx.nat, Bx.rat, Bx.ref])
          have k0 := kb.cell 0
          have k1 := kb.cell 1
          clear kb
          go_wp2_with fail
          exact ⟨rfl, rfl, hJ.out.same (by rfl) (Hy.out.keep hJ.out.held.keep)⟩
        simp only [Act.put, List.setIfInBounds_toArray, List.set_cons_zero, List.set_cons_succ, Nat.reduceAdd]
        refine Steps.held ?_ ?_
        · intro L v w' hJ
          have X0 := Lib.hid (show Frc w' (v 2) (ly) (my) from hJ.out.fact 2 (by kernel_rfl))
          go_wp2_with fail
          with_reducible refine (HTb.out _ _ X0.out).mono ?_
          rintro e w1 ⟨u, rfl, hu, hb⟩
          go_wp2_with fail
          exact ⟨rfl, rfl, hJ.out.call (by rfl) hb (hu)⟩
        simp only [Act.put, List.setIfInBounds_toArray, List.set_cons_zero, List.set_cons_succ, Nat.reduceAdd]
        refine Steps.held ?_ ?_
        · intro L v w' hJ
          go_wp2_with fail
          exact ⟨rfl, rfl, hJ.out.made 0 _ rfl rfl (by rfl) trivial⟩
        simp only [Act.put, List.setIfInBounds_toArray, List.set_cons_zero, List.set_cons_succ, Nat.reduceAdd]
        refine Steps.held ?_ ?_
        · intro L v w' hJ
          go_wp2_with fail
          exact ⟨rfl, rfl, hJ.out.made 1 _ rfl rfl (by rfl) trivial⟩
        simp only [Act.put, List.setIfInBounds_toArray, List.set_cons_zero, List.set_cons_succ, Nat.reduceAdd]
        refine Steps.held ?_ ?_
        · intro L v w' hJ
          obtain ⟨g, hg, hge, hown, hst⟩ := hJ.out.newbox 0 _ rfl 4 rfl (by kernel_rfl)
          have hN : F64 w' (v 1) (a.1) (a.2) := hJ.out.fact 1 (by kernel_rfl)
          obtain ⟨A1, p1, c1, B1, q1, e1, x1, hv, h1, h2, h3⟩ := hN
          have HN := Lib.hid (show F64 w' (.agg #[.slice A1 p1 c1, .slice B1 q1 e1]) (a.1) (a.2) from ⟨A1, p1, c1, B1, q1, e1, x1, rfl, h1, h2, h3⟩)
          have kb := hJ.out.box 0 _ rfl rfl g hown
          have k0 : w'.cell? ⟨g, 0, none⟩ = some (.slice none 0 0) := kb.cell 0
          have k1 : w'.cell? ⟨g, 1, none⟩ = some (.slice none 0 0) := kb.cell 1
          have f0 := kb.frozen 0
          have f1 := kb.frozen 1
          have HO := Lib.hid hown
          have HS := Lib.hid hst
          clear kb h1 h2 h3 hown hst
          simp only [hg, hv]
          clear hg hv
          go_wp2_with fail
          exact ⟨rfl, rfl, hJ.out.fill2 0 _ rfl rfl (by rfl) g HO.out HS.out _ _ rfl rfl rfl (fun W k => HN.out.keep k) (fun _ => trivial)⟩
        simp only [Act.put, List.setIfInBounds_toArray, List.set_cons_zero, List.set_cons_succ, Nat.reduceAdd]
        refine Steps.held ?_ ?_
        · intro L v w' hJ
          obtain ⟨g, hg, hge, hown, hst⟩ := hJ.out.newbox 1 _ rfl 5 rfl (by kernel_rfl)
          have hN : F64 w' (v 3) (b.1) (b.2) := hJ.out.fact 3 (by kernel_rfl)
          obtain ⟨A1, p1, c1, B1, q1, e1, x1, hv, h1, h2, h3⟩ := hN
          have HN := Lib.hid (show F64 w' (.agg #[.slice A1 p1 c1, .slice B1 q1 e1]) (b.1) (b.2) from ⟨A1, p1, c1, B1, q1, e1, x1, rfl, h1, h2, h3⟩)
          have kb := hJ.out.box 1 _ rfl rfl g hown
          have k0 : w'.cell? ⟨g, 0, none⟩ = some (.slice none 0 0) := kb.cell 0
          have k1 : w'.cell? ⟨g, 1, none⟩ = some (.slice none 0 0) := kb.cell 1
          have f0 := kb.frozen 0
          have f1 := kb.frozen 1
          have HO := Lib.hid hown
          have HS := Lib.hid hst
          clear kb h1 h2 h3 hown hst
          simp only [hg, hv]
          clear hg hv
          go_wp2_with fail
          exact ⟨rfl, rfl, hJ.out.fill2 1 _ rfl rfl (by rfl) g HO.out HS.out _ _ rfl rfl rfl (fun W k => HN.out.keep k) (fun _ => trivial)⟩
        simp only [Act.put, List.setIfInBounds_toArray, List.set_cons_zero, List.set_cons_succ, Nat.reduceAdd]
        refine Steps.nil ?_
        intro v w' hJ
        obtain ⟨g5, cs4, hv4, hge4, hb4, hf4⟩ := hJ.end_new 0 _ rfl 4 rfl (by decide) (Nat.le_of_ble_eq_true rfl)
        have hfx : F64 w' (.agg cs4) a.1 a.2 := hf4
        obtain ⟨A4, p4, c4, B4, q4, e4, x4, hcs4, h1, h2, h3⟩ := hfx
        have hcs4' := Value.agg.inj hcs4
        subst hcs4'
        simp only [hv4]
        have E5 := Lib.hid (show Blk w' g5 47 #[.slice A4 p4 c4, .slice B4 q4 e4] from hb4)
        have NE5 := Lib.hid (show F64 w' (.agg #[.slice A4 p4 c4, .slice B4 q4 e4]) a.1 a.2 from hf4)
        clear hv4 hb4 hf4 hcs4 h1 h2
        obtain ⟨g6, cs5, hv5, hge5, hb5, hf5⟩ := hJ.end_new 1 _ rfl 5 rfl (by decide) (Nat.le_of_ble_eq_true rfl)
        have hfx : F64 w' (.agg cs5) b.1 b.2 := hf5
        obtain ⟨A5, p5, c5, B5, q5, e5, x5, hcs5, h1, h2, h3⟩ := hfx
        have hcs5' := Value.agg.inj hcs5
        subst hcs5'
        simp only [hv5]
        have E6 := Lib.hid (show Blk w' g6 47 #[.slice A5 p5 c5, .slice B5 q5 e5] from hb5)
        have NE6 := Lib.hid (show F64 w' (.agg #[.slice A5 p5 c5, .slice B5 q5 e5]) b.1 b.2 from hf5)
        clear hv5 hb5 hf5 hcs5 h1 h2
        have hbr := hJ.but.below
        replace Hx := Lib.hid (Hx.out.below hbr)
        replace Hy := Lib.hid (Hy.out.below hbr)
        replace E0 := Lib.hid (blk_below E0.out hbr)
        replace E1 := Lib.hid (blk_below E1.out hbr)
        replace HB0 := Lib.hid (cbt HB0.out hbr)
        clear hJ hbr
        go_wp2_with fail
        let FS : List Kept1 := [.frc (lx) (mx), .rf (a.1) (a.2), .frc (ly) (my), .rf (b.1) (b.2), .any, .any, .any, .any]
        let BS : List Bx := [Bx.ref (.inl 4) 6 #[.slice none 0 0, .slice none 0 0] (a.1) (a.2), Bx.ref (.inl 5) 7 #[.slice none 0 0, .slice none 0 0] (b.1) (b.2)]
        refine region_mono (Held w' (fun j => FS.getD j .any) BS) (by kernel_rfl) (by kernel_rfl) (by kernel_rfl) (Held.start _ _ _ (by simp [BS, Bx.nat, Bx.rat, Bx.ref]) (by simp [BS, Bx.nat, Bx.rat, Bx.ref])) ?_
        refine Steps.held ?_ ?_
        · intro L v w' hJ
          have kb := hJ.out.blk E0.out (by simp [oldsOf, BS, Bx.nat, Bx.rat, Bx.ref])
          have k0 := kb.cell 0
          have k1 := kb.cell 1
          clear kb
          go_wp2_with fail
          exact ⟨rfl, rfl, hJ.out.same (by rfl) (Hx.out.keep hJ.out.held.keep)⟩
        simp only [Act.put, List.setIfInBounds_toArray, List.set_cons_zero, List.set_cons_succ, Nat.reduceAdd]
        refine Steps.held ?_ ?_
        · intro L v w' hJ
          have X0 := Lib.hid (show Frc w' (v 0) (lx) (mx) from hJ.out.fact 0 (by kernel_rfl))
          go_wp2_with fail
          with_reducible refine (HRa.out _ _ X0.out).mono ?_
          rintro e w1 ⟨u, rfl, hu, hb⟩
          go_wp2_with fail
          exact ⟨rfl, rfl, hJ.out.call (by rfl) hb (hu)⟩
        simp only [Act.put, List.setIfInBounds_toArray, List.set_cons_zero, List.set_cons_succ, Nat.reduceAdd]
        refine Steps.held ?_ ?_
        · intro L v w' hJ
          have kb := hJ.out.blk E1.out (by simp [oldsOf, BS, Bx.nat, Bx.rat, Bx.ref])
          have k0 := kb.cell 0
          have k1 := kb.cell 1
          clear kb
          go_wp2_with fail
          exact ⟨rfl, rfl, hJ.out.same (by rfl) (Hy.out.keep hJ.out.held.keep)⟩
        simp only [Act.put, List.setIfInBounds_toArray, List.set_cons_zero, List.set_cons_succ, Nat.reduceAdd]
        refine Steps.held ?_ ?_
        · intro L v w' hJ
          have X0 := Lib.hid (show Frc w' (v 2) (ly) (my) from hJ.out.fact 2 (by kernel_rfl))
          go_wp2_with fail
          with_reducible refine (HRb.out _ _ X0.out).mono ?_
          rintro e w1 ⟨u, rfl, hu, hb⟩
          go_wp2_with fail
          exact ⟨rfl, rfl, hJ.out.call (by rfl) hb (hu)⟩
        simp only [Act.put, List.setIfInBounds_toArray, List.set_cons_zero, List.set_cons_succ, Nat.reduceAdd]
        refine Steps.held ?_ ?_
        · intro L v w' hJ
          go_wp2_with fail
          exact ⟨rfl, rfl, hJ.out.made 0 _ rfl rfl (by rfl) trivial⟩
        simp only [Act.put, List.setIfInBounds_toArray, List.set_cons_zero, List.set_cons_succ, Nat.reduceAdd]
        refine Steps.held ?_ ?_
        · intro L v w' hJ
          go_wp2_with fail
          exact ⟨rfl, rfl, hJ.out.made 1 _ rfl rfl (by rfl) trivial⟩
        simp only [Act.put, List.setIfInBounds_toArray, List.set_cons_zero, List.set_cons_succ, Nat.reduceAdd]
        refine Steps.held ?_ ?_
        · intro L v w' hJ
          obtain ⟨g, hg, hge, hown, hst⟩ := hJ.out.newbox 0 _ rfl 4 rfl (by kernel_rfl)
          have hN : RF w' (v 1) (a.1) (a.2) := hJ.out.fact 1 (by kernel_rfl)
          obtain ⟨A1, p1, c1, B1, q1, e1, hv, h1, h2⟩ := hN
          have HN := Lib.hid (show RF w' (.agg #[.slice A1 p1 c1, .slice B1 q1 e1]) (a.1) (a.2) from ⟨A1, p1, c1, B1, q1, e1, rfl, h1, h2⟩)
          have kb := hJ.out.box 0 _ rfl rfl g hown
          have k0 : w'.cell? ⟨g, 0, none⟩ = some (.slice none 0 0) := kb.cell 0
          have k1 : w'.cell? ⟨g, 1, none⟩ = some (.slice none 0 0) := kb.cell 1
          have f0 := kb.frozen 0
          have f1 := kb.frozen 1
          have HO := Lib.hid hown
          have HS := Lib.hid hst
          clear kb h1 h2 hown hst
          simp only [hg, hv]
          clear hg hv
          go_wp2_with fail
          exact ⟨rfl, rfl, hJ.out.fill2 0 _ rfl rfl (by rfl) g HO.out HS.out _ _ rfl rfl rfl (fun W k => HN.out.keep k) (fun _ => trivial)⟩
        simp only [Act.put, List.setIfInBounds_toArray, List.set_cons_zero, List.set_cons_succ, Nat.reduceAdd]
        refine Steps.held ?_ ?_
        · intro L v w' hJ
          obtain ⟨g, hg, hge, hown, hst⟩ := hJ.out.newbox 1 _ rfl 5 rfl (by kernel_rfl)
          have hN : RF w' (v 3) (b.1) (b.2) := hJ.out.fact 3 (by kernel_rfl)
          obtain ⟨A1, p1, c1, B1, q1, e1, hv, h1, h2⟩ := hN
          have HN := Lib.hid (show RF w' (.agg #[.slice A1 p1 c1, .slice B1 q1 e1]) (b.1) (b.2) from ⟨A1, p1, c1, B1, q1, e1, rfl, h1, h2⟩)
          have kb := hJ.out.box 1 _ rfl rfl g hown
          have k0 : w'.cell? ⟨g, 0, none⟩ = some (.slice none 0 0) := kb.cell 0
          have k1 : w'.cell? ⟨g, 1, none⟩ = some (.slice none 0 0) := kb.cell 1
          have f0 := kb.frozen 0
          have f1 := kb.frozen 1
          have HO := Lib.hid hown
          have HS := Lib.hid hst
          clear kb h1 h2 hown hst
          simp only [hg, hv]
          clear hg hv
          go_wp2_with fail
          exact ⟨rfl, rfl, hJ.out.fill2 1 _ rfl rfl (by rfl) g HO.out HS.out _ _ rfl rfl rfl (fun W k => HN.out.keep k) (fun _ => trivial)⟩
        simp only [Act.put, List.setIfInBounds_toArray, List.set_cons_zero, List.set_cons_succ, Nat.reduceAdd]
        refine Steps.nil ?_
        intro v w' hJ
        obtain ⟨g7, cs4, hv4, hge7, hb4, hf4⟩ := hJ.end_new 0 _ rfl 4 rfl (by decide) (Nat.le_of_ble_eq_true rfl)
        have hfx : RF w' (.agg cs4) a.1 a.2 := hf4
        obtain ⟨A7, p7, c7, B7, q7, e7, hcs4, h1, h2⟩ := hfx
        have hcs4' := Value.agg.inj hcs4
        subst hcs4'
        simp only [hv4]
        have E7 := Lib.hid (show Blk w' g7 52 #[.slice A7 p7 c7, .slice B7 q7 e7] from hb4)
        have NE7 := Lib.hid (show RF w' (.agg #[.slice A7 p7 c7, .slice B7 q7 e7]) a.1 a.2 from hf4)
        clear hv4 hb4 hf4 hcs4 h1 h2
        obtain ⟨g8, cs5, hv5, hge8, hb5, hf5⟩ := hJ.end_new 1 _ rfl 5 rfl (by decide) (Nat.le_of_ble_eq_true rfl)
        have hfx : RF w' (.agg cs5) b.1 b.2 := hf5
        obtain ⟨A8, p8, c8, B8, q8, e8, hcs5, h1, h2⟩ := hfx
        have hcs5' := Value.agg.inj hcs5
        subst hcs5'
        simp only [hv5]
        have E8 := Lib.hid (show Blk w' g8 52 #[.slice A8 p8 c8, .slice B8 q8 e8] from hb5)
        have NE8 := Lib.hid (show RF w' (.agg #[.slice A8 p8 c8, .slice B8 q8 e8]) b.1 b.2 from hf5)
        clear hv5 hb5 hf5 hcs5 h1 h2
        have hbr := hJ.but.below
        replace Hx := Lib.hid (Hx.out.below hbr)
        replace E0 := Lib.hid (blk_below E0.out hbr)
        replace NE5 := Lib.hid (NE5.out.below hbr)
        replace NE6 := Lib.hid (NE6.out.below hbr)
        replace E5 := Lib.hid (blk_below E5.out hbr)
        replace E6 := Lib.hid (blk_below E6.out hbr)
        replace HB0 := Lib.hid (cbt HB0.out hbr)
        clear hJ hbr
        have hlen := len_R256 (RF.fst NE7.out)
        have hd1 : ((p7 : Int) == 0) = true := beq_iff_eq.2 (by have := HW0.out; omega)
        clear hlen
        have k_E0_0 := E0.out.cell 0
        have k_E0_1 := E0.out.cell 1
        have k_E5_0 := E5.out.cell 0
        have k_E5_1 := E5.out.cell 1
        have k_E6_0 := E6.out.cell 0
        have k_E6_1 := E6.out.cell 1
        have k_E7_0 := E7.out.cell 0
        have k_E7_1 := E7.out.cell 1
        have k_E8_0 := E8.out.cell 0
        have k_E8_1 := E8.out.cell 1
        go_wp2_with fail
        with_reducible refine (HRX.out _ _ (Frc.fst Hx.out)).mono ?_
        rintro e w3 ⟨u, rfl, hu, hb⟩
        clear k_E0_0 k_E0_1 k_E5_0 k_E5_1 k_E6_0 k_E6_1 k_E7_0 k_E7_1 k_E8_0 k_E8_1
        replace Hx := Lib.hid (Hx.out.below hb)
        replace NE5 := Lib.hid (NE5.out.below hb)
        replace NE6 := Lib.hid (NE6.out.below hb)
        replace NE7 := Lib.hid (NE7.out.below hb)
        replace NE8 := Lib.hid (NE8.out.below hb)
        replace E0 := Lib.hid (blk_below E0.out hb)
        replace E5 := Lib.hid (blk_below E5.out hb)
        replace E6 := Lib.hid (blk_below E6.out hb)
        replace E7 := Lib.hid (blk_below E7.out hb)
        replace E8 := Lib.hid (blk_below E8.out hb)
        replace HB0 := Lib.hid (cbt HB0.out hb)
        have NN := Lib.hid hu
        clear hb hu
        have k_E0_0 := E0.out.cell 0
        have k_E0_1 := E0.out.cell 1
        have k_E5_0 := E5.out.cell 0
        have k_E5_1 := E5.out.cell 1
        have k_E6_0 := E6.out.cell 0
        have k_E6_1 := E6.out.cell 1
        have k_E7_0 := E7.out.cell 0
        have k_E7_1 := E7.out.cell 1
        have k_E8_0 := E8.out.cell 0
        have k_E8_1 := E8.out.cell 1
        go_wp2_with fail
        with_reducible refine (HO0.out _).mono ?_
        rintro e w3 ⟨u, rfl, hu, hb⟩
        clear k_E0_0 k_E0_1 k_E5_0 k_E5_1 k_E6_0 k_E6_1 k_E7_0 k_E7_1 k_E8_0 k_E8_1
        replace Hx := Lib.hid (Hx.out.below hb)
        replace NE5 := Lib.hid (NE5.out.below hb)
        replace NE6 := Lib.hid (NE6.out.below hb)
        replace NE7 := Lib.hid (NE7.out.below hb)
        replace NE8 := Lib.hid (NE8.out.below hb)
        replace NN := Lib.hid (NN.out.below hb)
        replace E0 := Lib.hid (blk_below E0.out hb)
        replace E5 := Lib.hid (blk_below E5.out hb)
        replace E6 := Lib.hid (blk_below E6.out hb)
        replace E7 := Lib.hid (blk_below E7.out hb)
        replace E8 := Lib.hid (blk_below E8.out hb)
        replace HB0 := Lib.hid (cbt HB0.out hb)
        have NO := Lib.hid hu
        clear hb hu
        have k_E0_0 := E0.out.cell 0
        have k_E0_1 := E0.out.cell 1
        have k_E5_0 := E5.out.cell 0
        have k_E5_1 := E5.out.cell 1
        have k_E6_0 := E6.out.cell 0
        have k_E6_1 := E6.out.cell 1
        have k_E7_0 := E7.out.cell 0
        have k_E7_1 := E7.out.cell 1
        have k_E8_0 := E8.out.cell 0
        have k_E8_1 := E8.out.cell 1
        go_wp2_with fail
        with_reducible refine (HON.out _ _ _ NN.out NO.out).mono ?_
        rintro e w4 ⟨u, rfl, hu, hb⟩
        clear k_E0_0 k_E0_1 k_E5_0 k_E5_1 k_E6_0 k_E6_1 k_E7_0 k_E7_1 k_E8_0 k_E8_1
        replace Hx := Lib.hid (Hx.out.below hb)
        replace NE5 := Lib.hid (NE5.out.below hb)
        replace NE6 := Lib.hid (NE6.out.below hb)
        replace NE7 := Lib.hid (NE7.out.below hb)
        replace NE8 := Lib.hid (NE8.out.below hb)
        replace NN := Lib.hid (NN.out.below hb)
        replace NO := Lib.hid (NO.out.below hb)
        replace E0 := Lib.hid (blk_below E0.out hb)
        replace E5 := Lib.hid (blk_below E5.out hb)
        replace E6 := Lib.hid (blk_below E6.out hb)
        replace E7 := Lib.hid (blk_below E7.out hb)
        replace E8 := Lib.hid (blk_below E8.out hb)
        replace HB0 := Lib.hid (cbt HB0.out hb)
        have NZ := Lib.hid hu
        clear hb hu
        have k_E0_0 := E0.out.cell 0
        have k_E0_1 := E0.out.cell 1
        have k_E5_0 := E5.out.cell 0
        have k_E5_1 := E5.out.cell 1
        have k_E6_0 := E6.out.cell 0
        have k_E6_1 := E6.out.cell 1
        have k_E7_0 := E7.out.cell 0
        have k_E7_1 := E7.out.cell 1
        have k_E8_0 := E8.out.cell 0
        have k_E8_1 := E8.out.cell 1
        have Z0 := NZ.out
        obtain ⟨AT0, pT0, cT0, BT0, qT0, eT0, xT0, rfl, _, _, _⟩ := Z0
        have e9 := Blk.new w4 47 #[.slice AT0 pT0 cT0, .slice BT0 qT0 eT0]
        have hb := cba (Below.refl _ w4) (.cells #[.slice AT0 pT0 cT0, .slice BT0 qT0 eT0] 47)
        go_upto_region 6 with (fail)
        obtain ⟨T, hS⟩ : ∃ S, (w4.alloc (.cells #[.slice AT0 pT0 cT0, .slice BT0 qT0 eT0] 47)) = S := ⟨_, rfl⟩
        rw [hS] at e9 hb ⊢
        obtain ⟨g9, hg⟩ : ∃ g, w4.heap.size = g := ⟨_, rfl⟩
        rw [hg] at e9
        simp only [hg]
        replace NE5 := Lib.hid (NE5.out.below hb)
        replace NE6 := Lib.hid (NE6.out.below hb)
        replace NE7 := Lib.hid (NE7.out.below hb)
        replace NE8 := Lib.hid (NE8.out.below hb)
        replace NZ := Lib.hid (NZ.out.below hb)
        replace E5 := Lib.hid (blk_below E5.out hb)
        replace E6 := Lib.hid (blk_below E6.out hb)
        replace E7 := Lib.hid (blk_below E7.out hb)
        replace E8 := Lib.hid (blk_below E8.out hb)
        replace HB0 := Lib.hid (cbt HB0.out hb)
        have E9 := Lib.hid e9
        clear hS hg hb e9 k_E5_0 k_E5_1 k_E6_0 k_E6_1 k_E7_0 k_E7_1 k_E8_0 k_E8_1 k_E0_0 k_E0_1
        have k_E5_0 := E5.out.cell 0
        have k_E5_1 := E5.out.cell 1
        have k_E6_0 := E6.out.cell 0
        have k_E6_1 := E6.out.cell 1
        have k_E7_0 := E7.out.cell 0
        have k_E7_1 := E7.out.cell 1
        have k_E8_0 := E8.out.cell 0
        have k_E8_1 := E8.out.cell 1
        have k_E9_0 := E9.out.cell 0
        have k_E9_1 := E9.out.cell 1
        go_wp2_with fail
        with_reducible refine (HZ0.out _ _ NZ.out).mono ?_
        rintro e w5 ⟨rfl, hb⟩
        clear k_E5_0 k_E5_1 k_E6_0 k_E6_1 k_E7_0 k_E7_1 k_E8_0 k_E8_1 k_E9_0 k_E9_1
        replace NE5 := Lib.hid (NE5.out.below hb)
        replace NE6 := Lib.hid (NE6.out.below hb)
        replace NE7 := Lib.hid (NE7.out.below hb)
        replace NE8 := Lib.hid (NE8.out.below hb)
        replace NZ := Lib.hid (NZ.out.below hb)
        replace E5 := Lib.hid (blk_below E5.out hb)
        replace E6 := Lib.hid (blk_below E6.out hb)
        replace E7 := Lib.hid (blk_below E7.out hb)
        replace E8 := Lib.hid (blk_below E8.out hb)
        replace E9 := Lib.hid (blk_below E9.out hb)
        replace HB0 := Lib.hid (cbt HB0.out hb)
        clear hb
        have k_E5_0 := E5.out.cell 0
        have k_E5_1 := E5.out.cell 1
        have k_E6_0 := E6.out.cell 0
        have k_E6_1 := E6.out.cell 1
        have k_E7_0 := E7.out.cell 0
        have k_E7_1 := E7.out.cell 1
        have k_E8_0 := E8.out.cell 0
        have k_E8_1 := E8.out.cell 1
        have k_E9_0 := E9.out.cell 0
        have k_E9_1 := E9.out.cell 1
        go_wp2_with fail
        with_reducible refine (HI7.out _).mono ?_
        rintro e w5 ⟨u, rfl, hu, hb⟩
        clear k_E5_0 k_E5_1 k_E6_0 k_E6_1 k_E7_0 k_E7_1 k_E8_0 k_E8_1 k_E9_0 k_E9_1
        replace NE5 := Lib.hid (NE5.out.below hb)
        replace NE6 := Lib.hid (NE6.out.below hb)
        replace NE7 := Lib.hid (NE7.out.below hb)
        replace NE8 := Lib.hid (NE8.out.below hb)
        replace NZ := Lib.hid (NZ.out.below hb)
        replace E5 := Lib.hid (blk_below E5.out hb)
        replace E6 := Lib.hid (blk_below E6.out hb)
        replace E7 := Lib.hid (blk_below E7.out hb)
        replace E8 := Lib.hid (blk_below E8.out hb)
        replace E9 := Lib.hid (blk_below E9.out hb)
        replace HB0 := Lib.hid (cbt HB0.out hb)
        have N7 := Lib.hid hu
        clear hb hu
        have k_E5_0 := E5.out.cell 0
        have k_E5_1 := E5.out.cell 1
        have k_E6_0 := E6.out.cell 0
        have k_E6_1 := E6.out.cell 1
        have k_E7_0 := E7.out.cell 0
        have k_E7_1 := E7.out.cell 1
        have k_E8_0 := E8.out.cell 0
        have k_E8_1 := E8.out.cell 1
        have k_E9_0 := E9.out.cell 0
        have k_E9_1 := E9.out.cell 1
        go_wp2_with fail
        with_reducible refine (HX7.out _).mono ?_
        rintro e w5 ⟨u, rfl, hu, hb⟩
        clear k_E5_0 k_E5_1 k_E6_0 k_E6_1 k_E7_0 k_E7_1 k_E8_0 k_E8_1 k_E9_0 k_E9_1
        replace NE5 := Lib.hid (NE5.out.below hb)
        replace NE6 := Lib.hid (NE6.out.below hb)
        replace NE7 := Lib.hid (NE7.out.below hb)
        replace NE8 := Lib.hid (NE8.out.below hb)
        replace NZ := Lib.hid (NZ.out.below hb)
        replace N7 := Lib.hid (N7.out.below hb)
        replace E5 := Lib.hid (blk_below E5.out hb)
        replace E6 := Lib.hid (blk_below E6.out hb)
        replace E7 := Lib.hid (blk_below E7.out hb)
        replace E8 := Lib.hid (blk_below E8.out hb)
        replace E9 := Lib.hid (blk_below E9.out hb)
        replace HB0 := Lib.hid (cbt HB0.out hb)
        have X7 := Lib.hid hu
        clear hb hu
        have k_E5_0 := E5.out.cell 0
        have k_E5_1 := E5.out.cell 1
        have k_E6_0 := E6.out.cell 0
        have k_E6_1 := E6.out.cell 1
        have k_E7_0 := E7.out.cell 0
        have k_E7_1 := E7.out.cell 1
        have k_E8_0 := E8.out.cell 0
        have k_E8_1 := E8.out.cell 1
        have k_E9_0 := E9.out.cell 0
        have k_E9_1 := E9.out.cell 1
        go_wp2_with fail
        with_reducible refine (HS7.out _ _ _ N7.out X7.out).mono ?_
        rintro e w5 ⟨rfl, hb⟩
        clear k_E5_0 k_E5_1 k_E6_0 k_E6_1 k_E7_0 k_E7_1 k_E8_0 k_E8_1 k_E9_0 k_E9_1
        replace NE5 := Lib.hid (NE5.out.below hb)
        replace NE6 := Lib.hid (NE6.out.below hb)
        replace NE7 := Lib.hid (NE7.out.below hb)
        replace NE8 := Lib.hid (NE8.out.below hb)
        replace NZ := Lib.hid (NZ.out.below hb)
        replace N7 := Lib.hid (N7.out.below hb)
        replace X7 := Lib.hid (X7.out.below hb)
        replace E5 := Lib.hid (blk_below E5.out hb)
        replace E6 := Lib.hid (blk_below E6.out hb)
        replace E7 := Lib.hid (blk_below E7.out hb)
        replace E8 := Lib.hid (blk_below E8.out hb)
        replace E9 := Lib.hid (blk_below E9.out hb)
        replace HB0 := Lib.hid (cbt HB0.out hb)
        clear hb
        have k_E5_0 := E5.out.cell 0
        have k_E5_1 := E5.out.cell 1
        have k_E6_0 := E6.out.cell 0
        have k_E6_1 := E6.out.cell 1
        have k_E7_0 := E7.out.cell 0
        have k_E7_1 := E7.out.cell 1
        have k_E8_0 := E8.out.cell 0
        have k_E8_1 := E8.out.cell 1
        have k_E9_0 := E9.out.cell 0
        have k_E9_1 := E9.out.cell 1
        go_wp2_with fail
        with_reducible refine (HDV.out _ _ _ (RF.fst NE7.out) (RF.snd NE7.out)).mono ?_
        rintro e w6 ⟨uq, ur, rfl, hq, hr, hb⟩
        clear k_E5_0 k_E5_1 k_E6_0 k_E6_1 k_E7_0 k_E7_1 k_E8_0 k_E8_1 k_E9_0 k_E9_1
        replace NE5 := Lib.hid (NE5.out.below hb)
        replace NE6 := Lib.hid (NE6.out.below hb)
        replace NE7 := Lib.hid (NE7.out.below hb)
        replace NE8 := Lib.hid (NE8.out.below hb)
        replace NZ := Lib.hid (NZ.out.below hb)
        replace E5 := Lib.hid (blk_below E5.out hb)
        replace E6 := Lib.hid (blk_below E6.out hb)
        replace E7 := Lib.hid (blk_below E7.out hb)
        replace E8 := Lib.hid (blk_below E8.out hb)
        replace E9 := Lib.hid (blk_below E9.out hb)
        replace HB0 := Lib.hid (cbt HB0.out hb)
        have NQ := Lib.hid hq
        have NR := Lib.hid hr
        clear hb hq hr
        have k_E5_0 := E5.out.cell 0
        have k_E5_1 := E5.out.cell 1
        have k_E6_0 := E6.out.cell 0
        have k_E6_1 := E6.out.cell 1
        have k_E7_0 := E7.out.cell 0
        have k_E7_1 := E7.out.cell 1
        have k_E8_0 := E8.out.cell 0
        have k_E8_1 := E8.out.cell 1
        have k_E9_0 := E9.out.cell 0
        have k_E9_1 := E9.out.cell 1
        go_wp2_with fail
        clear k_E5_0 k_E5_1 k_E6_0 k_E6_1 k_E7_0 k_E7_1 k_E8_0 k_E8_1 k_E9_0 k_E9_1
        let FS : List Kept1 := [.f (a.1) (a.2), .rf (a.1) (a.2), .eq (.bool true), .eq (.bool true), .f (a.1) (a.2), .eq (.string TS), .rf (a.1) (a.2), .eq (.string TS), .eq (.bool true), .eq (.bool true), .eq (.bool true), .f (a.1) (a.2), .eq (.bool true), .eq (.pointer (some ⟨g7, 0, none⟩)), .eq (.slice A7 p7 c7), .eq (.int .i64 (p7 : Int)), .eq (.bool true), .eq (.bool true), .eq (.bool true), .eq (.bool true), .f (a.1) (a.2), .f (b.1) (b.2), .eq (.int .i64 cc), .rf (a.1) (a.2), .rf (b.1) (b.2), .eq (.int .i64 cc), .eq (.bool true), .eq (.bool true), .eq (.bool true), .f (a.1) (a.2), .n (q), .r (q), .eq (.bool true), .eq (.bool true), .eq (.bool true), .eq (.bool true), .eq (.bool true), .eq (.bool true)]
        refine region_mono (Held w6 (fun j => FS.getD j .any) []) (by kernel_rfl) (by kernel_rfl) (by kernel_rfl) (Held.start _ _ _ (by simp) (by simp)) ?_
        refine Steps.held ?_ ?_
        · intro L v w' hJ
          have kb := hJ.out.blk E5.out (by simp [oldsOf])
          have k0 := kb.cell 0
          have k1 := kb.cell 1
          clear kb
          go_wp2_with fail
          exact ⟨rfl, rfl, hJ.out.same (by rfl) (NE5.out.keep hJ.out.held.keep)⟩
        simp only [Act.put, List.setIfInBounds_toArray, List.set_cons_zero, List.set_cons_succ, Nat.reduceAdd]
        refine Steps.held ?_ ?_
        · intro L v w' hJ
          have kb := hJ.out.blk E7.out (by simp [oldsOf])
          have k0 := kb.cell 0
          have k1 := kb.cell 1
          clear kb
          go_wp2_with fail
          exact ⟨rfl, rfl, hJ.out.same (by rfl) (NE7.out.keep hJ.out.held.keep)⟩
        simp only [Act.put, List.setIfInBounds_toArray, List.set_cons_zero, List.set_cons_succ, Nat.reduceAdd]
        refine Steps.held ?_ ?_
        · intro L v w' hJ
          have X0 := Lib.hid (show F64 w' (v 0) (a.1) (a.2) from hJ.out.fact 0 (by kernel_rfl))
          have X1 := Lib.hid (show RF w' (v 1) (a.1) (a.2) from hJ.out.fact 1 (by kernel_rfl))
          go_wp2_with fail
          with_reducible refine (HIS.out _ _ _ X0.out X1.out).mono ?_
          rintro e w1 ⟨rfl, hb⟩
          go_wp2_with fail
          exact ⟨rfl, rfl, hJ.out.call (by rfl) hb (rfl)⟩
        simp only [Act.put, List.setIfInBounds_toArray, List.set_cons_zero, List.set_cons_succ, Nat.reduceAdd]
        refine Steps.held ?_ ?_
        · intro L v w' hJ
          have hv2 : v 2 = .bool true := hJ.out.fact 2 (by kernel_rfl)
          simp only [hv2]
          clear hv2
          go_wp2_with fail
          exact ⟨rfl, rfl, hJ.out.same (by rfl) (rfl)⟩
        simp only [Act.put, List.setIfInBounds_toArray, List.set_cons_zero, List.set_cons_succ, Nat.reduceAdd]
        refine Steps.held ?_ ?_
        · intro L v w' hJ
          have hv3 : v 3 = .bool true := hJ.out.fact 3 (by kernel_rfl)
          simp only [hv3]
          clear hv3
          have kb := hJ.out.blk E5.out (by simp [oldsOf])
          have k0 := kb.cell 0
          have k1 := kb.cell 1
          clear kb
          go_wp2_with fail
          exact ⟨rfl, rfl, hJ.out.same (by rfl) (NE5.out.keep hJ.out.held.keep)⟩
        simp only [Act.put, List.setIfInBounds_toArray, List.set_cons_zero, List.set_cons_succ, Nat.reduceAdd]
        refine Steps.held ?_ ?_
        · intro L v w' hJ
          have hv3 : v 3 = .bool true := hJ.out.fact 3 (by kernel_rfl)
          simp only [hv3]
          clear hv3
          have X0 := Lib.hid (show F64 w' (v 4) (a.1) (a.2) from hJ.out.fact 4 (by kernel_rfl))
          go_wp2_with fail
          with_reducible refine (HTX.out _ _ X0.out).mono ?_
          rintro e w1 ⟨rfl, hb⟩
          go_wp2_with fail
          exact ⟨rfl, rfl, hJ.out.call (by rfl) hb (rfl)⟩
        simp only [Act.put, List.setIfInBounds_toArray, List.set_cons_zero, List.set_cons_succ, Nat.reduceAdd]
        refine Steps.held ?_ ?_
        · intro L v w' hJ
          have hv3 : v 3 = .bool true := hJ.out.fact 3 (by kernel_rfl)
          simp only [hv3]
          clear hv3
          have kb := hJ.out.blk E7.out (by simp [oldsOf])
          have k0 := kb.cell 0
          have k1 := kb.cell 1
          clear kb
          go_wp2_with fail
          exact ⟨rfl, rfl, hJ.out.same (by rfl) (NE7.out.keep hJ.out.held.keep)⟩
        simp only [Act.put, List.setIfInBounds_toArray, List.set_cons_zero, List.set_cons_succ, Nat.reduceAdd]
        refine Steps.held ?_ ?_
        · intro L v w' hJ
          have hv3 : v 3 = .bool true := hJ.out.fact 3 (by kernel_rfl)
          simp only [hv3]
          clear hv3
          have X0 := Lib.hid (show RF w' (v 6) (a.1) (a.2) from hJ.out.fact 6 (by kernel_rfl))
          go_wp2_with fail
          with_reducible refine (HXT.out _ _ X0.out).mono ?_
          rintro e w1 ⟨rfl, hb⟩
          go_wp2_with fail
          exact ⟨rfl, rfl, hJ.out.call (by rfl) hb (rfl)⟩
        simp only [Act.put, List.setIfInBounds_toArray, List.set_cons_zero, List.set_cons_succ, Nat.reduceAdd]
        refine Steps.held ?_ ?_
        · intro L v w' hJ
          have hv5 : v 5 = .string TS := hJ.out.fact 5 (by kernel_rfl)
          simp only [hv5]
          clear hv5
          have hv7 : v 7 = .string TS := hJ.out.fact 7 (by kernel_rfl)
          simp only [hv7]
          clear hv7
          have hv3 : v 3 = .bool true := hJ.out.fact 3 (by kernel_rfl)
          simp only [hv3]
          clear hv3
          go_wp2_with fail
          exact ⟨rfl, rfl, hJ.out.same (by rfl) (rfl)⟩
        simp only [Act.put, List.setIfInBounds_toArray, List.set_cons_zero, List.set_cons_succ, Nat.reduceAdd]
        refine Steps.held ?_ ?_
        · intro L v w' hJ
          have hv3 : v 3 = .bool true := hJ.out.fact 3 (by kernel_rfl)
          simp only [hv3]
          clear hv3
          have hv8 : v 8 = .bool true := hJ.out.fact 8 (by kernel_rfl)
          simp only [hv8]
          clear hv8
          go_wp2_with fail
          exact ⟨rfl, rfl, hJ.out.same (by rfl) (rfl)⟩
        simp only [Act.put, List.setIfInBounds_toArray, List.set_cons_zero, List.set_cons_succ, Nat.reduceAdd]
        refine Steps.held ?_ ?_
        · intro L v w' hJ
          have hv9 : v 9 = .bool true := hJ.out.fact 9 (by kernel_rfl)
          simp only [hv9]
          clear hv9
          go_wp2_with fail
          exact ⟨rfl, rfl, hJ.out.same (by rfl) (rfl)⟩
        simp only [Act.put, List.setIfInBounds_toArray, List.set_cons_zero, List.set_cons_succ, Nat.reduceAdd]
        refine Steps.held ?_ ?_
        · intro L v w' hJ
          have hv10 : v 10 = .bool true := hJ.out.fact 10 (by kernel_rfl)
          simp only [hv10]
          clear hv10
          have kb := hJ.out.blk E5.out (by simp [oldsOf])
          have k0 := kb.cell 0
          have k1 := kb.cell 1
          clear kb
          go_wp2_with fail
          exact ⟨rfl, rfl, hJ.out.same (by rfl) (NE5.out.keep hJ.out.held.keep)⟩
        simp only [Act.put, List.setIfInBounds_toArray, List.set_cons_zero, List.set_cons_succ, Nat.reduceAdd]
        refine Steps.held ?_ ?_
        · intro L v w' hJ
          have hv10 : v 10 = .bool true := hJ.out.fact 10 (by kernel_rfl)
          simp only [hv10]
          clear hv10
          have X0 := Lib.hid (show F64 w' (v 11) (a.1) (a.2) from hJ.out.fact 11 (by kernel_rfl))
          go_wp2_with fail
          with_reducible refine (HZA.out _ _ X0.out).mono ?_
          rintro e w1 ⟨rfl, hb⟩
          go_wp2_with fail
          exact ⟨rfl, rfl, hJ.out.call (by rfl) hb (rfl)⟩
        simp only [Act.put, List.setIfInBounds_toArray, List.set_cons_zero, List.set_cons_succ, Nat.reduceAdd]
        refine Steps.held ?_ ?_
        · intro L v w' hJ
          have hv10 : v 10 = .bool true := hJ.out.fact 10 (by kernel_rfl)
          simp only [hv10]
          clear hv10
          go_wp2_with fail
          exact ⟨rfl, rfl, hJ.out.same (by rfl) (rfl)⟩
        simp only [Act.put, List.setIfInBounds_toArray, List.set_cons_zero, List.set_cons_succ, Nat.reduceAdd]
        refine Steps.held ?_ ?_
        · intro L v w' hJ
          have hv13 : v 13 = .pointer (some ⟨g7, 0, none⟩) := hJ.out.fact 13 (by kernel_rfl)
          simp only [hv13]
          clear hv13
          have hv10 : v 10 = .bool true := hJ.out.fact 10 (by kernel_rfl)
          simp only [hv10]
          clear hv10
          have kb := hJ.out.blk E7.out (by simp [oldsOf])
          have k0 := kb.cell 0
          have k1 := kb.cell 1
          clear kb
          go_wp2_with fail
          exact ⟨rfl, rfl, hJ.out.same (by rfl) (rfl)⟩
        simp only [Act.put, List.setIfInBounds_toArray, List.set_cons_zero, List.set_cons_succ, Nat.reduceAdd]
        refine Steps.held ?_ ?_
        · intro L v w' hJ
          have hv14 : v 14 = .slice A7 p7 c7 := hJ.out.fact 14 (by kernel_rfl)
          simp only [hv14]
          clear hv14
          have hv10 : v 10 = .bool true := hJ.out.fact 10 (by kernel_rfl)
          simp only [hv10]
          clear hv10
          go_wp2_with fail
          exact ⟨rfl, rfl, hJ.out.same (by rfl) (rfl)⟩
        simp only [Act.put, List.setIfInBounds_toArray, List.set_cons_zero, List.set_cons_succ, Nat.reduceAdd]
        refine Steps.held ?_ ?_
        · intro L v w' hJ
          have hv15 : v 15 = .int .i64 (p7 : Int) := hJ.out.fact 15 (by kernel_rfl)
          simp only [hv15]
          clear hv15
          have hv10 : v 10 = .bool true := hJ.out.fact 10 (by kernel_rfl)
          simp only [hv10]
          clear hv10
          go_wp2_with fail
          exact ⟨rfl, rfl, hJ.out.same (by rfl) (rfl)⟩
        simp only [Act.put, List.setIfInBounds_toArray, List.set_cons_zero, List.set_cons_succ, Nat.reduceAdd]
        refine Steps.held ?_ ?_
        · intro L v w' hJ
          have hv12 : v 12 = .bool true := hJ.out.fact 12 (by kernel_rfl)
          simp only [hv12]
          clear hv12
          have hv16 : v 16 = .bool true := hJ.out.fact 16 (by kernel_rfl)
          simp only [hv16]
          clear hv16
          have hv10 : v 10 = .bool true := hJ.out.fact 10 (by kernel_rfl)
          simp only [hv10]
          clear hv10
          go_wp2_with fail
          exact ⟨rfl, rfl, hJ.out.same (by rfl) (rfl)⟩
        simp only [Act.put, List.setIfInBounds_toArray, List.set_cons_zero, List.set_cons_succ, Nat.reduceAdd]
        refine Steps.held ?_ ?_
        · intro L v w' hJ
          have hv10 : v 10 = .bool true := hJ.out.fact 10 (by kernel_rfl)
          simp only [hv10]
          clear hv10
          have hv17 : v 17 = .bool true := hJ.out.fact 17 (by kernel_rfl)
          simp only [hv17]
          clear hv17
          go_wp2_with fail
          exact ⟨rfl, rfl, hJ.out.same (by rfl) (rfl)⟩
        simp only [Act.put, List.setIfInBounds_toArray, List.set_cons_zero, List.set_cons_succ, Nat.reduceAdd]
        refine Steps.held ?_ ?_
        · intro L v w' hJ
          have hv18 : v 18 = .bool true := hJ.out.fact 18 (by kernel_rfl)
          simp only [hv18]
          clear hv18
          go_wp2_with fail
          exact ⟨rfl, rfl, hJ.out.same (by rfl) (rfl)⟩
        simp only [Act.put, List.setIfInBounds_toArray, List.set_cons_zero, List.set_cons_succ, Nat.reduceAdd]
        refine Steps.held ?_ ?_
        · intro L v w' hJ
          have hv19 : v 19 = .bool true := hJ.out.fact 19 (by kernel_rfl)
          simp only [hv19]
          clear hv19
          have kb := hJ.out.blk E5.out (by simp [oldsOf])
          have k0 := kb.cell 0
          have k1 := kb.cell 1
          clear kb
          go_wp2_with fail
          exact ⟨rfl, rfl, hJ.out.same (by rfl) (NE5.out.keep hJ.out.held.keep)⟩
        simp only [Act.put, List.setIfInBounds_toArray, List.set_cons_zero, List.set_cons_succ, Nat.reduceAdd]
        refine Steps.held ?_ ?_
        · intro L v w' hJ
          have hv19 : v 19 = .bool true := hJ.out.fact 19 (by kernel_rfl)
          simp only [hv19]
          clear hv19
          have kb := hJ.out.blk E6.out (by simp [oldsOf])
          have k0 := kb.cell 0
          have k1 := kb.cell 1
          clear kb
          go_wp2_with fail
          exact ⟨rfl, rfl, hJ.out.same (by rfl) (NE6.out.keep hJ.out.held.keep)⟩
        simp only [Act.put, List.setIfInBounds_toArray, List.set_cons_zero, List.set_cons_succ, Nat.reduceAdd]
        refine Steps.held ?_ ?_
        · intro L v w' hJ
          have hv19 : v 19 = .bool true := hJ.out.fact 19 (by kernel_rfl)
          simp only [hv19]
          clear hv19
          have X0 := Lib.hid (show F64 w' (v 20) (a.1) (a.2) from hJ.out.fact 20 (by kernel_rfl))
          have X1 := Lib.hid (show F64 w' (v 21) (b.1) (b.2) from hJ.out.fact 21 (by kernel_rfl))
          go_wp2_with fail
          with_reducible refine (HCF.out _ _ _ X0.out X1.out).mono ?_
          rintro e w1 ⟨rfl, hb⟩
          go_wp2_with fail
          exact ⟨rfl, rfl, hJ.out.call (by rfl) hb (rfl)⟩
        simp only [Act.put, List.setIfInBounds_toArray, List.set_cons_zero, List.set_cons_succ, Nat.reduceAdd]
        refine Steps.held ?_ ?_
        · intro L v w' hJ
          have hv19 : v 19 = .bool true := hJ.out.fact 19 (by kernel_rfl)
          simp only [hv19]
          clear hv19
          have kb := hJ.out.blk E7.out (by simp [oldsOf])
          have k0 := kb.cell 0
          have k1 := kb.cell 1
          clear kb
          go_wp2_with fail
          exact ⟨rfl, rfl, hJ.out.same (by rfl) (NE7.out.keep hJ.out.held.keep)⟩
        simp only [Act.put, List.setIfInBounds_toArray, List.set_cons_zero, List.set_cons_succ, Nat.reduceAdd]
        refine Steps.held ?_ ?_
        · intro L v w' hJ
          have hv19 : v 19 = .bool true := hJ.out.fact 19 (by kernel_rfl)
          simp only [hv19]
          clear hv19
          have kb := hJ.out.blk E8.out (by simp [oldsOf])
          have k0 := kb.cell 0
          have k1 := kb.cell 1
          clear kb
          go_wp2_with fail
          exact ⟨rfl, rfl, hJ.out.same (by rfl) (NE8.out.keep hJ.out.held.keep)⟩
        simp only [Act.put, List.setIfInBounds_toArray, List.set_cons_zero, List.set_cons_succ, Nat.reduceAdd]
        refine Steps.held ?_ ?_
        · intro L v w' hJ
          have hv19 : v 19 = .bool true := hJ.out.fact 19 (by kernel_rfl)
          simp only [hv19]
          clear hv19
          have X0 := Lib.hid (show RF w' (v 23) (a.1) (a.2) from hJ.out.fact 23 (by kernel_rfl))
          have X1 := Lib.hid (show RF w' (v 24) (b.1) (b.2) from hJ.out.fact 24 (by kernel_rfl))
          go_wp2_with fail
          with_reducible refine (HCX.out _ _ _ X0.out X1.out).mono ?_
          rintro e w1 ⟨rfl, hb⟩
          go_wp2_with fail
          exact ⟨rfl, rfl, hJ.out.call (by rfl) hb (rfl)⟩
        simp only [Act.put, List.setIfInBounds_toArray, List.set_cons_zero, List.set_cons_succ, Nat.reduceAdd]
        refine Steps.held ?_ ?_
        · intro L v w' hJ
          have hv22 : v 22 = .int .i64 cc := hJ.out.fact 22 (by kernel_rfl)
          simp only [hv22]
          clear hv22
          have hv25 : v 25 = .int .i64 cc := hJ.out.fact 25 (by kernel_rfl)
          simp only [hv25]
          clear hv25
          have hv19 : v 19 = .bool true := hJ.out.fact 19 (by kernel_rfl)
          simp only [hv19]
          clear hv19
          go_wp2_with fail
          exact ⟨rfl, rfl, hJ.out.same (by rfl) (rfl)⟩
        simp only [Act.put, List.setIfInBounds_toArray, List.set_cons_zero, List.set_cons_succ, Nat.reduceAdd]
        refine Steps.held ?_ ?_
        · intro L v w' hJ
          have hv19 : v 19 = .bool true := hJ.out.fact 19 (by kernel_rfl)
          simp only [hv19]
          clear hv19
          have hv26 : v 26 = .bool true := hJ.out.fact 26 (by kernel_rfl)
          simp only [hv26]
          clear hv26
          go_wp2_with fail
          exact ⟨rfl, rfl, hJ.out.same (by rfl) (rfl)⟩
        simp only [Act.put, List.setIfInBounds_toArray, List.set_cons_zero, List.set_cons_succ, Nat.reduceAdd]
        refine Steps.held ?_ ?_
        · intro L v w' hJ
          have hv27 : v 27 = .bool true := hJ.out.fact 27 (by kernel_rfl)
          simp only [hv27]
          clear hv27
          go_wp2_with fail
          exact ⟨rfl, rfl, hJ.out.same (by rfl) (rfl)⟩
        simp only [Act.put, List.setIfInBounds_toArray, List.set_cons_zero, List.set_cons_succ, Nat.reduceAdd]
        refine Steps.held ?_ ?_
        · intro L v w' hJ
          have hv28 : v 28 = .bool true := hJ.out.fact 28 (by kernel_rfl)
          simp only [hv28]
          clear hv28
          have kb := hJ.out.blk E5.out (by simp [oldsOf])
          have k0 := kb.cell 0
          have k1 := kb.cell 1
          clear kb
          go_wp2_with fail
          exact ⟨rfl, rfl, hJ.out.same (by rfl) (NE5.out.keep hJ.out.held.keep)⟩
        simp only [Act.put, List.setIfInBounds_toArray, List.set_cons_zero, List.set_cons_succ, Nat.reduceAdd]
        refine Steps.held ?_ ?_
        · intro L v w' hJ
          have hv28 : v 28 = .bool true := hJ.out.fact 28 (by kernel_rfl)
          simp only [hv28]
          clear hv28
          have X0 := Lib.hid (show F64 w' (v 29) (a.1) (a.2) from hJ.out.fact 29 (by kernel_rfl))
          go_wp2_with fail
          with_reducible refine (HFL.out _ _ X0.out).mono ?_
          rintro e w1 ⟨u, rfl, hu, hb⟩
          go_wp2_with fail
          exact ⟨rfl, rfl, hJ.out.call (by rfl) hb (hu)⟩
        simp only [Act.put, List.setIfInBounds_toArray, List.set_cons_zero, List.set_cons_succ, Nat.reduceAdd]
        refine Steps.held ?_ ?_
        · intro L v w' hJ
          have hv28 : v 28 = .bool true := hJ.out.fact 28 (by kernel_rfl)
          simp only [hv28]
          clear hv28
          go_wp2_with fail
          exact ⟨rfl, rfl, hJ.out.same (by rfl) (NQ.out.keep hJ.out.held.keep)⟩
        simp only [Act.put, List.setIfInBounds_toArray, List.set_cons_zero, List.set_cons_succ, Nat.reduceAdd]
        refine Steps.held ?_ ?_
        · intro L v w' hJ
          have hv28 : v 28 = .bool true := hJ.out.fact 28 (by kernel_rfl)
          simp only [hv28]
          clear hv28
          have X0 := Lib.hid (show N64 w' (v 30) (q) from hJ.out.fact 30 (by kernel_rfl))
          have X1 := Lib.hid (show R256 w' (v 31) (q) from hJ.out.fact 31 (by kernel_rfl))
          go_wp2_with fail
          with_reducible refine (HIQ.out _ _ _ X0.out X1.out).mono ?_
          rintro e w1 ⟨rfl, hb⟩
          go_wp2_with fail
          exact ⟨rfl, rfl, hJ.out.call (by rfl) hb (rfl)⟩
        simp only [Act.put, List.setIfInBounds_toArray, List.set_cons_zero, List.set_cons_succ, Nat.reduceAdd]
        refine Steps.held ?_ ?_
        · intro L v w' hJ
          have hv28 : v 28 = .bool true := hJ.out.fact 28 (by kernel_rfl)
          simp only [hv28]
          clear hv28
          have hv32 : v 32 = .bool true := hJ.out.fact 32 (by kernel_rfl)
          simp only [hv32]
          clear hv32
          go_wp2_with fail
          exact ⟨rfl, rfl, hJ.out.same (by rfl) (rfl)⟩
        simp only [Act.put, List.setIfInBounds_toArray, List.set_cons_zero, List.set_cons_succ, Nat.reduceAdd]
        refine Steps.held ?_ ?_
        · intro L v w' hJ
          have hv33 : v 33 = .bool true := hJ.out.fact 33 (by kernel_rfl)
          simp only [hv33]
          clear hv33
          go_wp2_with fail
          exact ⟨rfl, rfl, hJ.out.same (by rfl) (rfl)⟩
        simp only [Act.put, List.setIfInBounds_toArray, List.set_cons_zero, List.set_cons_succ, Nat.reduceAdd]
        refine Steps.held ?_ ?_
        · intro L v w' hJ
          have hv34 : v 34 = .bool true := hJ.out.fact 34 (by kernel_rfl)
          simp only [hv34]
          clear hv34
          go_wp2_with fail
          with_reducible refine (HLV.out _).mono ?_
          rintro e w1 ⟨rfl, hb⟩
          go_wp2_with fail
          exact ⟨rfl, rfl, hJ.out.call (by rfl) hb (rfl)⟩
        simp only [Act.put, List.setIfInBounds_toArray, List.set_cons_zero, List.set_cons_succ, Nat.reduceAdd]
        refine Steps.held ?_ ?_
        · intro L v w' hJ
          have hv34 : v 34 = .bool true := hJ.out.fact 34 (by kernel_rfl)
          simp only [hv34]
          clear hv34
          have hv35 : v 35 = .bool true := hJ.out.fact 35 (by kernel_rfl)
          simp only [hv35]
          clear hv35
          go_wp2_with fail
          exact ⟨rfl, rfl, hJ.out.same (by rfl) (rfl)⟩
        simp only [Act.put, List.setIfInBounds_toArray, List.set_cons_zero, List.set_cons_succ, Nat.reduceAdd]
        refine Steps.held ?_ ?_
        · intro L v w' hJ
          have hv36 : v 36 = .bool true := hJ.out.fact 36 (by kernel_rfl)
          simp only [hv36]
          clear hv36
          go_wp2_with fail
          exact ⟨rfl, rfl, hJ.out.same (by rfl) (rfl)⟩
        simp only [Act.put, List.setIfInBounds_toArray, List.set_cons_zero, List.set_cons_succ, Nat.reduceAdd]
        refine Steps.nil ?_
        intro v w' hJ
        have h37 : v 37 = .bool true := hJ.end_fact 37 (by decide)
        have HF := Lib.hid (cbt HB0.out hJ.but.below)
        clear hJ
        simp only [h37]
        clear h37
        go_wp2_with fail
        go_ret
        exact ⟨rfl, HF.out⟩
      · have HZA := Lib.hid (fun v W h => rzero_no v a.1 a.2 W h (Nat.pos_of_ne_zero ha0))
        have HW0 := Lib.hid (show ¬ wl 8 a.1 = 0 from fun h => ha0 (hz8.1 h))
        clear hz8 ha0
        have e0 := (Blk.new (w) 45 #[(.slice Ux nx cx), (.slice Vx kx dx)]).alloc (.cells #[(.slice Uy ny cy), (.slice Vy ky dy)] 45)
        have e1 := Blk.new ((w).alloc (.cells #[(.slice Ux nx cx), (.slice Vx kx dx)] 45)) 45 #[(.slice Uy ny cy), (.slice Vy ky dy)]
        have hb := cba (cba (Below.refl _ w) (.cells #[(.slice Ux nx cx), (.slice Vx kx dx)] 45)) (.cells #[(.slice Uy ny cy), (.slice Vy ky dy)] 45)
        simp only [World.size_alloc] at e1
        have hsz : w.heap.size ≤ w.heap.size := Nat.le_refl _
        go_enter Try.func16, Try.ntmps16
        go_upto_region 1 with (fail)
        obtain ⟨S, hS⟩ : ∃ S, ((w).alloc (.cells #[(.slice Ux nx cx), (.slice Vx kx dx)] 45)).alloc (.cells #[(.slice Uy ny cy), (.slice Vy ky dy)] 45) = S := ⟨_, rfl⟩
        rw [hS] at e0 e1 hb ⊢
        replace Hx := Lib.hid (Hx.out.below hb)
        replace Hy := Lib.hid (Hy.out.below hb)
        have HB0 := Lib.hid hb
        have E0 := Lib.hid e0
        have E1 := Lib.hid e1
        clear hS hb hsz e0 e1
        have k_E0_0 := E0.out.cell 0
        have k_E0_1 := E0.out.cell 1
        have k_E1_0 := E1.out.cell 0
        have k_E1_1 := E1.out.cell 1
        go_wp2_with fail
        with_reducible refine (HSx.out _ _ Hx.out).mono ?_
        rintro e w1 ⟨rfl, hb⟩
        clear k_E0_0 k_E0_1 k_E1_0 k_E1_1
        replace Hx := Lib.hid (Hx.out.below hb)
        replace Hy := Lib.hid (Hy.out.below hb)
        replace E0 := Lib.hid (blk_below E0.out hb)
        replace E1 := Lib.hid (blk_below E1.out hb)
        replace HB0 := Lib.hid (cbt HB0.out hb)
        clear hb
        have k_E0_0 := E0.out.cell 0
        have k_E0_1 := E0.out.cell 1
        have k_E1_0 := E1.out.cell 0
        have k_E1_1 := E1.out.cell 1
        go_wp2_with fail
        with_reducible refine (HSy.out _ _ Hy.out).mono ?_
        rintro e w1 ⟨rfl, hb⟩
        clear k_E0_0 k_E0_1 k_E1_0 k_E1_1
        replace Hx := Lib.hid (Hx.out.below hb)
        replace Hy := Lib.hid (Hy.out.below hb)
        replace E0 := Lib.hid (blk_below E0.out hb)
        replace E1 := Lib.hid (blk_below E1.out hb)
        replace HB0 := Lib.hid (cbt HB0.out hb)
        clear hb
        have k_E0_0 := E0.out.cell 0
        have k_E0_1 := E0.out.cell 1
        have k_E1_0 := E1.out.cell 0
        have k_E1_1 := E1.out.cell 1
        go_wp2_with fail
        clear k_E0_0 k_E0_1 k_E1_0 k_E1_1
        let FS : List Kept1 := [.frc (lx) (mx), .f (a.1) (a.2), .frc (ly) (my), .f (b.1) (b.2), .any, .any, .any, .any]
        let BS : List Bx := [Bx.rat (.inl 4) 6 #[.slice none 0 0, .slice none 0 0] (a.1) (a.2), Bx.rat (.inl 5) 7 #[.slice none 0 0, .slice none 0 0] (b.1) (b.2)]
        refine region_mono (Held w1 (fun j => FS.getD j .any) BS) (by kernel_rfl) (by kernel_rfl) (by kernel_rfl) (Held.start _ _ _ (by simp [BS, Bx.nat, Bx.rat, Bx.ref]) (by simp [BS, Bx.nat, Bx.rat, Bx.ref])) ?_
        refine Steps.held ?_ ?_
        · intro L v w' hJ
          have kb := hJ.out.blk E0.out (by simp [oldsOf, BS, Bx.nat, Bx.rat, Bx.ref])
          have k0 := kb.cell 0
          have k1 := kb.cell 1
          clear kb
          go_wp2_with fail
          exact ⟨rfl, rfl, hJ.out.same (by rfl) (Hx.out.keep hJ.out.held.keep)⟩
        simp only [Act.put, List.setIfInBounds_toArray, List.set_cons_zero, List.set_cons_succ, Nat.reduceAdd]
        refine Steps.held ?_ ?_
        · intro L v w' hJ
          have X0 := Lib.hid (show Frc w' (v 0) (lx) (mx) from hJ.out.fact 0 (by kernel_rfl))
          go_wp2_with fail
          with_reducible refine (HTa.out _ _ X0.out).mono ?_
          rintro e w1 ⟨u, rfl, hu, hb⟩
          go_wp2_with fail
          exact ⟨rfl, rfl, hJ.out.call (by rfl) hb (hu)⟩
        simp only [Act.put, List.setIfInBounds_toArray, List.set_cons_zero, List.set_cons_succ, Nat.reduceAdd]
        refine Steps.held ?_ ?_
        · intro L v w' hJ
          have kb := hJ.out.blk E1.out (by simp [oldsOf, BS, Bx.nat, Bx.rat, Bx.ref])
          have k0 := kb.cell 0
          have k1 := kb.cell 1
          clear kb
          go_wp2_with fail
          exact ⟨rfl, rfl, hJ.out.same (by rfl) (Hy.out.keep hJ.out.held.keep)⟩
        simp only [Act.put, List.setIfInBounds_toArray, List.set_cons_zero, List.set_cons_succ, Nat.reduceAdd]
        refine Steps.held ?_ ?_
        · intro L v w' hJ
          have X0 := Lib.hid (show Frc w' (v 2) (ly) (my) from hJ.out.fact 2 (by kernel_rfl))
          go_wp2_with fail
          with_reducible refine (HTb.out _ _ X0.out).mono ?_
          rintro e w1 ⟨u, rfl, hu, hb⟩
          go_wp2_with fail
          exact ⟨rfl, rfl, hJ.out.call (by rfl) hb (hu)⟩
        simp only [Act.put, List.setIfInBounds_toArray, List.set_cons_zero, List.set_cons_succ, Nat.reduceAdd]
        refine Steps.held ?_ ?_
        · intro L v w' hJ
          go_wp2_with fail
          exact ⟨rfl, rfl, hJ.out.made 0 _ rfl rfl (by rfl) trivial⟩
        simp only [Act.put, List.setIfInBounds_toArray, List.set_cons_zero, List.set_cons_succ, Nat.reduceAdd]
        refine Steps.held ?_ ?_
        · intro L v w' hJ
          go_wp2_with fail
          exact ⟨rfl, rfl, hJ.out.made 1 _ rfl rfl (by rfl) trivial⟩
        simp only [Act.put, List.setIfInBounds_toArray, List.set_cons_zero, List.set_cons_succ, Nat.reduceAdd]
        refine Steps.held ?_ ?_
        · intro L v w' hJ
          obtain ⟨g, hg, hge, hown, hst⟩ := hJ.out.newbox 0 _ rfl 4 rfl (by kernel_rfl)
          have hN : F64 w' (v 1) (a.1) (a.2) := hJ.out.fact 1 (by kernel_rfl)
          obtain ⟨A1, p1, c1, B1, q1, e1, x1, hv, h1, h2, h3⟩ := hN
          have HN := Lib.hid (show F64 w' (.agg #[.slice A1 p1 c1, .slice B1 q1 e1]) (a.1) (a.2) from ⟨A1, p1, c1, B1, q1, e1, x1, rfl, h1, h2, h3⟩)
          have kb := hJ.out.box 0 _ rfl rfl g hown
          have k0 : w'.cell? ⟨g, 0, none⟩ = some (.slice none 0 0) := kb.cell 0
          have k1 : w'.cell? ⟨g, 1, none⟩ = some (.slice none 0 0) := kb.cell 1
          have f0 := kb.frozen 0
          have f1 := kb.frozen 1
          have HO := Lib.hid hown
          have HS := Lib.hid hst
          clear kb h1 h2 h3 hown hst
          simp only [hg, hv]
          clear hg hv
          go_wp2_with fail
          exact ⟨rfl, rfl, hJ.out.fill2 0 _ rfl rfl (by rfl) g HO.out HS.out _ _ rfl rfl rfl (fun W k => HN.out.keep k) (fun _ => trivial)⟩
        simp only [Act.put, List.setIfInBounds_toArray, List.set_cons_zero, List.set_cons_succ, Nat.reduceAdd]
        refine Steps.held ?_ ?_
        · intro L v w' hJ
          obtain ⟨g, hg, hge, hown, hst⟩ := hJ.out.newbox 1 _ rfl 5 rfl (by kernel_rfl)
          have hN : F64 w' (v 3) (b.1) (b.2) := hJ.out.fact 3 (by kernel_rfl)
          obtain ⟨A1, p1, c1, B1, q1, e1, x1, hv, h1, h2, h3⟩ := hN
          have HN := Lib.hid (show F64 w' (.agg #[.slice A1 p1 c1, .slice B1 q1 e1]) (b.1) (b.2) from ⟨A1, p1, c1, B1, q1, e1, x1, rfl, h1, h2, h3⟩)
          have kb := hJ.out.box 1 _ rfl rfl g hown
          have k0 : w'.cell? ⟨g, 0, none⟩ = some (.slice none 0 0) := kb.cell 0
          have k1 : w'.cell? ⟨g, 1, none⟩ = some (.slice none 0 0) := kb.cell 1
          have f0 := kb.frozen 0
          have f1 := kb.frozen 1
          have HO := Lib.hid hown
          have HS := Lib.hid hst
          clear kb h1 h2 h3 hown hst
          simp only [hg, hv]
          clear hg hv
          go_wp2_with fail
          exact ⟨rfl, rfl, hJ.out.fill2 1 _ rfl rfl (by rfl) g HO.out HS.out _ _ rfl rfl rfl (fun W k => HN.out.keep k) (fun _ => trivial)⟩
        simp only [Act.put, List.setIfInBounds_toArray, List.set_cons_zero, List.set_cons_succ, Nat.reduceAdd]
        refine Steps.nil ?_
        intro v w' hJ
        obtain ⟨g5, cs4, hv4, hge4, hb4, hf4⟩ := hJ.end_new 0 _ rfl 4 rfl (by decide) (Nat.le_of_ble_eq_true rfl)
        have hfx : F64 w' (.agg cs4) a.1 a.2 := hf4
        obtain ⟨A4, p4, c4, B4, q4, e4, x4, hcs4, h1, h2, h3⟩ := hfx
        have hcs4' := Value.agg.inj hcs4
        subst hcs4'
        simp only [hv4]
        have E5 := Lib.hid (show Blk w' g5 47 #[.slice A4 p4 c4, .slice B4 q4 e4] from hb4)
        have NE5 := Lib.hid (show F64 w' (.agg #[.slice A4 p4 c4, .slice B4 q4 e4]) a.1 a.2 from hf4)
        clear hv4 hb4 hf4 hcs4 h1 h2
        obtain ⟨g6, cs5, hv5, hge5, hb5, hf5⟩ := hJ.end_new 1 _ rfl 5 rfl (by decide) (Nat.le_of_ble_eq_true rfl)
        have hfx : F64 w' (.agg cs5) b.1 b.2 := hf5
        obtain ⟨A5, p5, c5, B5, q5, e5, x5, hcs5, h1, h2, h3⟩ := hfx
        have hcs5' := Value.agg.inj hcs5
        subst hcs5'
        simp only [hv5]
        have E6 := Lib.hid (show Blk w' g6 47 #[.slice A5 p5 c5, .slice B5 q5 e5] from hb5)
        have NE6 := Lib.hid (show F64 w' (.agg #[.slice A5 p5 c5, .slice B5 q5 e5]) b.1 b.2 from hf5)
        clear hv5 hb5 hf5 hcs5 h1 h2
        have hbr := hJ.but.below
        replace Hx := Lib.hid (Hx.out.below hbr)
        replace Hy := Lib.hid (Hy.out.below hbr)
        replace E0 := Lib.hid (blk_below E0.out hbr)
        replace E1 := Lib.hid (blk_below E1.out hbr)
        replace HB0 := Lib.hid (cbt HB0.out hbr)
        clear hJ hbr
        go_wp2_with fail
        let FS : List Kept1 := [.frc (lx) (mx), .rf (a.1) (a.2), .frc (ly) (my), .rf (b.1) (b.2), .any, .any, .any, .any]
        let BS : List Bx := [Bx.ref (.inl 4) 6 #[.slice none 0 0, .slice none 0 0] (a.1) (a.2), Bx.ref (.inl 5) 7 #[.slice none 0 0, .slice none 0 0] (b.1) (b.2)]
        refine region_mono (Held w' (fun j => FS.getD j .any) BS) (by kernel_rfl) (by kernel_rfl) (by kernel_rfl) (Held.start _ _ _ (by simp [BS, Bx.nat, Bx.rat, Bx.ref]) (by simp [BS, Bx.nat, Bx.rat, Bx.ref])) ?_
        refine Steps.held ?_ ?_
        · intro L v w' hJ
          have kb := hJ.out.blk E0.out (by simp [oldsOf, BS, Bx.nat, Bx.rat, Bx.ref])
          have k0 := kb.cell 0
          have k1 := kb.cell 1
          clear kb
          go_wp2_with fail
          exact ⟨rfl, rfl, hJ.out.same (by rfl) (Hx.out.keep hJ.out.held.keep)⟩
        simp only [Act.put, List.setIfInBounds_toArray, List.set_cons_zero, List.set_cons_succ, Nat.reduceAdd]
        refine Steps.held ?_ ?_
        · intro L v w' hJ
          have X0 := Lib.hid (show Frc w' (v 0) (lx) (mx) from hJ.out.fact 0 (by kernel_rfl))
          go_wp2_with fail
          with_reducible refine (HRa.out _ _ X0.out).mono ?_
          rintro e w1 ⟨u, rfl, hu, hb⟩
          go_wp2_with fail
          exact ⟨rfl, rfl, hJ.out.call (by rfl) hb (hu)⟩
        simp only [Act.put, List.setIfInBounds_toArray, List.set_cons_zero, List.set_cons_succ, Nat.reduceAdd]
        refine Steps.held ?_ ?_
        · intro L v w' hJ
          have kb := hJ.out.blk E1.out (by simp [oldsOf, BS, Bx.nat, Bx.rat, Bx.ref])
          have k0 := kb.cell 0
          have k1 := kb.cell 1
          clear kb
          go_wp2_with fail
          exact ⟨rfl, rfl, hJ.out.same (by rfl) (Hy.out.keep hJ.out.held.keep)⟩
        simp only [Act.put, List.setIfInBounds_toArray, List.set_cons_zero, List.set_cons_succ, Nat.reduceAdd]
        refine Steps.held ?_ ?_
        · intro L v w' hJ
          have X0 := Lib.hid (show Frc w' (v 2) (ly) (my) from hJ.out.fact 2 (by kernel_rfl))
          go_wp2_with fail
          with_reducible refine (HRb.out _ _ X0.out).mono ?_
          rintro e w1 ⟨u, rfl, hu, hb⟩
          go_wp2_with fail
          exact ⟨rfl, rfl, hJ.out.call (by rfl) hb (hu)⟩
        simp only [Act.put, List.setIfInBounds_toArray, List.set_cons_zero, List.set_cons_succ, Nat.reduceAdd]
        refine Steps.held ?_ ?_
        · intro L v w' hJ
          go_wp2_with fail
          exact ⟨rfl, rfl, hJ.out.made 0 _ rfl rfl (by rfl) trivial⟩
        simp only [Act.put, List.setIfInBounds_toArray, List.set_cons_zero, List.set_cons_succ, Nat.reduceAdd]
        refine Steps.held ?_ ?_
        · intro L v w' hJ
          go_wp2_with fail
          exact ⟨rfl, rfl, hJ.out.made 1 _ rfl rfl (by rfl) trivial⟩
        simp only [Act.put, List.setIfInBounds_toArray, List.set_cons_zero, List.set_cons_succ, Nat.reduceAdd]
        refine Steps.held ?_ ?_
        · intro L v w' hJ
          obtain ⟨g, hg, hge, hown, hst⟩ := hJ.out.newbox 0 _ rfl 4 rfl (by kernel_rfl)
          have hN : RF w' (v 1) (a.1) (a.2) := hJ.out.fact 1 (by kernel_rfl)
          obtain ⟨A1, p1, c1, B1, q1, e1, hv, h1, h2⟩ := hN
          have HN := Lib.hid (show RF w' (.agg #[.slice A1 p1 c1, .slice B1 q1 e1]) (a.1) (a.2) from ⟨A1, p1, c1, B1, q1, e1, rfl, h1, h2⟩)
          have kb := hJ.out.box 0 _ rfl rfl g hown
          have k0 : w'.cell? ⟨g, 0, none⟩ = some (.slice none 0 0) := kb.cell 0
          have k1 : w'.cell? ⟨g, 1, none⟩ = some (.slice none 0 0) := kb.cell 1
          have f0 := kb.frozen 0
          have f1 := kb.frozen 1
          have HO := Lib.hid hown
          have HS := Lib.hid hst
          clear kb h1 h2 hown hst
          simp only [hg, hv]
          clear hg hv
          go_wp2_with fail
          exact ⟨rfl, rfl, hJ.out.fill2 0 _ rfl rfl (by rfl) g HO.out HS.out _ _ rfl rfl rfl (fun W k => HN.out.keep k) (fun _ => trivial)⟩
        simp only [Act.put, List.setIfInBounds_toArray, List.set_cons_zero, List.set_cons_succ, Nat.reduceAdd]
        refine Steps.held ?_ ?_
        · intro L v w' hJ
          obtain ⟨g, hg, hge, hown, hst⟩ := hJ.out.newbox 1 _ rfl 5 rfl (by kernel_rfl)
          have hN : RF w' (v 3) (b.1) (b.2) := hJ.out.fact 3 (by kernel_rfl)
          obtain ⟨A1, p1, c1, B1, q1, e1, hv, h1, h2⟩ := hN
          have HN := Lib.hid (show RF w' (.agg #[.slice A1 p1 c1, .slice B1 q1 e1]) (b.1) (b.2) from ⟨A1, p1, c1, B1, q1, e1, rfl, h1, h2⟩)
          have kb := hJ.out.box 1 _ rfl rfl g hown
          have k0 : w'.cell? ⟨g, 0, none⟩ = some (.slice none 0 0) := kb.cell 0
          have k1 : w'.cell? ⟨g, 1, none⟩ = some (.slice none 0 0) := kb.cell 1
          have f0 := kb.frozen 0
          have f1 := kb.frozen 1
          have HO := Lib.hid hown
          have HS := Lib.hid hst
          clear kb h1 h2 hown hst
          simp only [hg, hv]
          clear hg hv
          go_wp2_with fail
          exact ⟨rfl, rfl, hJ.out.fill2 1 _ rfl rfl (by rfl) g HO.out HS.out _ _ rfl rfl rfl (fun W k => HN.out.keep k) (fun _ => trivial)⟩
        simp only [Act.put, List.setIfInBounds_toArray, List.set_cons_zero, List.set_cons_succ, Nat.reduceAdd]
        refine Steps.nil ?_
        intro v w' hJ
        obtain ⟨g7, cs4, hv4, hge7, hb4, hf4⟩ := hJ.end_new 0 _ rfl 4 rfl (by decide) (Nat.le_of_ble_eq_true rfl)
        have hfx : RF w' (.agg cs4) a.1 a.2 := hf4
        obtain ⟨A7, p7, c7, B7, q7, e7, hcs4, h1, h2⟩ := hfx
        have hcs4' := Value.agg.inj hcs4
        subst hcs4'
        simp only [hv4]
        have E7 := Lib.hid (show Blk w' g7 52 #[.slice A7 p7 c7, .slice B7 q7 e7] from hb4)
        have NE7 := Lib.hid (show RF w' (.agg #[.slice A7 p7 c7, .slice B7 q7 e7]) a.1 a.2 from hf4)
        clear hv4 hb4 hf4 hcs4 h1 h2
        obtain ⟨g8, cs5, hv5, hge8, hb5, hf5⟩ := hJ.end_new 1 _ rfl 5 rfl (by decide) (Nat.le_of_ble_eq_true rfl)
        have hfx : RF w' (.agg cs5) b.1 b.2 := hf5
        obtain ⟨A8, p8, c8, B8, q8, e8, hcs5, h1, h2⟩ := hfx
        have hcs5' := Value.agg.inj hcs5
        subst hcs5'
        simp only [hv5]
        have E8 := Lib.hid (show Blk w' g8 52 #[.slice A8 p8 c8, .slice B8 q8 e8] from hb5)
        have NE8 := Lib.hid (show RF w' (.agg #[.slice A8 p8 c8, .slice B8 q8 e8]) b.1 b.2 from hf5)
        clear hv5 hb5 hf5 hcs5 h1 h2
        have hbr := hJ.but.below
        replace Hx := Lib.hid (Hx.out.below hbr)
        replace E0 := Lib.hid (blk_below E0.out hbr)
        replace NE5 := Lib.hid (NE5.out.below hbr)
        replace NE6 := Lib.hid (NE6.out.below hbr)
        replace E5 := Lib.hid (blk_below E5.out hbr)
        replace E6 := Lib.hid (blk_below E6.out hbr)
        replace HB0 := Lib.hid (cbt HB0.out hbr)
        clear hJ hbr
        have hlen := len_R256 (RF.fst NE7.out)
        have hd1 : ((p7 : Int) == 0) = false := beq_eq_false_iff_ne.2 (by have := HW0.out; omega)
        clear hlen
        have k_E0_0 := E0.out.cell 0
        have k_E0_1 := E0.out.cell 1
        have k_E5_0 := E5.out.cell 0
        have k_E5_1 := E5.out.cell 1
        have k_E6_0 := E6.out.cell 0
        have k_E6_1 := E6.out.cell 1
        have k_E7_0 := E7.out.cell 0
        have k_E7_1 := E7.out.cell 1
        have k_E8_0 := E8.out.cell 0
        have k_E8_1 := E8.out.cell 1
        go_wp2_with fail
        with_reducible refine (HRX.out _ _ (Frc.fst Hx.out)).mono ?_
        rintro e w3 ⟨u, rfl, hu, hb⟩
        clear k_E0_0 k_E0_1 k_E5_0 k_E5_1 k_E6_0 k_E6_1 k_E7_0 k_E7_1 k_E8_0 k_E8_1
        replace Hx := Lib.hid (Hx.out.below hb)
        replace NE5 := Lib.hid (NE5.out.below hb)
        replace NE6 := Lib.hid (NE6.out.below hb)
        replace NE7 := Lib.hid (NE7.out.below hb)
        replace NE8 := Lib.hid (NE8.out.below hb)
        replace E0 := Lib.hid (blk_below E0.out hb)
        replace E5 := Lib.hid (blk_below E5.out hb)
        replace E6 := Lib.hid (blk_below E6.out hb)
        replace E7 := Lib.hid (blk_below E7.out hb)
        replace E8 := Lib.hid (blk_below E8.out hb)
        replace HB0 := Lib.hid (cbt HB0.out hb)
        have NN := Lib.hid hu
        clear hb hu
        have k_E0_0 := E0.out.cell 0
        have k_E0_1 := E0.out.cell 1
        have k_E5_0 := E5.out.cell 0
        have k_E5_1 := E5.out.cell 1
        have k_E6_0 := E6.out.cell 0
        have k_E6_1 := E6.out.cell 1
        have k_E7_0 := E7.out.cell 0
        have k_E7_1 := E7.out.cell 1
        have k_E8_0 := E8.out.cell 0
        have k_E8_1 := E8.out.cell 1
        go_wp2_with fail
        with_reducible refine (HO0.out _).mono ?_
        rintro e w3 ⟨u, rfl, hu, hb⟩
        clear k_E0_0 k_E0_1 k_E5_0 k_E5_1 k_E6_0 k_E6_1 k_E7_0 k_E7_1 k_E8_0 k_E8_1
        replace Hx := Lib.hid (Hx.out.below hb)
        replace NE5 := Lib.hid (NE5.out.below hb)
        replace NE6 := Lib.hid (NE6.out.below hb)
        replace NE7 := Lib.hid (NE7.out.below hb)
        replace NE8 := Lib.hid (NE8.out.below hb)
        replace NN := Lib.hid (NN.out.below hb)
        replace E0 := Lib.hid (blk_below E0.out hb)
        replace E5 := Lib.hid (blk_below E5.out hb)
        replace E6 := Lib.hid (blk_below E6.out hb)
        replace E7 := Lib.hid (blk_below E7.out hb)
        replace E8 := Lib.hid (blk_below E8.out hb)
        replace HB0 := Lib.hid (cbt HB0.out hb)
        have NO := Lib.hid hu
        clear hb hu
        have k_E0_0 := E0.out.cell 0
        have k_E0_1 := E0.out.cell 1
        have k_E5_0 := E5.out.cell 0
        have k_E5_1 := E5.out.cell 1
        have k_E6_0 := E6.out.cell 0
        have k_E6_1 := E6.out.cell 1
        have k_E7_0 := E7.out.cell 0
        have k_E7_1 := E7.out.cell 1
        have k_E8_0 := E8.out.cell 0
        have k_E8_1 := E8.out.cell 1
        go_wp2_with fail
        with_reducible refine (HON.out _ _ _ NN.out NO.out).mono ?_
        rintro e w4 ⟨u, rfl, hu, hb⟩
        clear k_E0_0 k_E0_1 k_E5_0 k_E5_1 k_E6_0 k_E6_1 k_E7_0 k_E7_1 k_E8_0 k_E8_1
        replace Hx := Lib.hid (Hx.out.below hb)
        replace NE5 := Lib.hid (NE5.out.below hb)
        replace NE6 := Lib.hid (NE6.out.below hb)
        replace NE7 := Lib.hid (NE7.out.below hb)
        replace NE8 := Lib.hid (NE8.out.below hb)
        replace NN := Lib.hid (NN.out.below hb)
        replace NO := Lib.hid (NO.out.below hb)
        replace E0 := Lib.hid (blk_below E0.out hb)
        replace E5 := Lib.hid (blk_below E5.out hb)
        replace E6 := Lib.hid (blk_below E6.out hb)
        replace E7 := Lib.hid (blk_below E7.out hb)
        replace E8 := Lib.hid (blk_below E8.out hb)
        replace HB0 := Lib.hid (cbt HB0.out hb)
        have NZ := Lib.hid hu
        clear hb hu
        have k_E0_0 := E0.out.cell 0
        have k_E0_1 := E0.out.cell 1
        have k_E5_0 := E5.out.cell 0
        have k_E5_1 := E5.out.cell 1
        have k_E6_0 := E6.out.cell 0
        have k_E6_1 := E6.out.cell 1
        have k_E7_0 := E7.out.cell 0
        have k_E7_1 := E7.out.cell 1
        have k_E8_0 := E8.out.cell 0
        have k_E8_1 := E8.out.cell 1
        have Z0 := NZ.out
        obtain ⟨AT0, pT0, cT0, BT0, qT0, eT0, xT0, rfl, _, _, _⟩ := Z0
        have e9 := Blk.new w4 47 #[.slice AT0 pT0 cT0, .slice BT0 qT0 eT0]
        have hb := cba (Below.refl _ w4) (.cells #[.slice AT0 pT0 cT0, .slice BT0 qT0 eT0] 47)
        go_upto_region 6 with (fail)
        obtain ⟨T, hS⟩ : ∃ S, (w4.alloc (.cells #[.slice AT0 pT0 cT0, .slice BT0 qT0 eT0] 47)) = S := ⟨_, rfl⟩
        rw [hS] at e9 hb ⊢
        obtain ⟨g9, hg⟩ : ∃ g, w4.heap.size = g := ⟨_, rfl⟩
        rw [hg] at e9
        simp only [hg]
        replace NE5 := Lib.hid (NE5.out.below hb)
        replace NE6 := Lib.hid (NE6.out.below hb)
        replace NE7 := Lib.hid (NE7.out.below hb)
        replace NE8 := Lib.hid (NE8.out.below hb)
        replace NZ := Lib.hid (NZ.out.below hb)
        replace E5 := Lib.hid (blk_below E5.out hb)
        replace E6 := Lib.hid (blk_below E6.out hb)
        replace E7 := Lib.hid (blk_below E7.out hb)
        replace E8 := Lib.hid (blk_below E8.out hb)
        replace HB0 := Lib.hid (cbt HB0.out hb)
        have E9 := Lib.hid e9
        clear hS hg hb e9 k_E5_0 k_E5_1 k_E6_0 k_E6_1 k_E7_0 k_E7_1 k_E8_0 k_E8_1 k_E0_0 k_E0_1
        have k_E5_0 := E5.out.cell 0
        have k_E5_1 := E5.out.cell 1
        have k_E6_0 := E6.out.cell 0
        have k_E6_1 := E6.out.cell 1
        have k_E7_0 := E7.out.cell 0
        have k_E7_1 := E7.out.cell 1
        have k_E8_0 := E8.out.cell 0
        have k_E8_1 := E8.out.cell 1
        have k_E9_0 := E9.out.cell 0
        have k_E9_1 := E9.out.cell 1
        go_wp2_with fail
        with_reducible refine (HZ0.out _ _ NZ.out).mono ?_
        rintro e w5 ⟨rfl, hb⟩
        clear k_E5_0 k_E5_1 k_E6_0 k_E6_1 k_E7_0 k_E7_1 k_E8_0 k_E8_1 k_E9_0 k_E9_1
        replace NE5 := Lib.hid (NE5.out.below hb)
        replace NE6 := Lib.hid (NE6.out.below hb)
        replace NE7 := Lib.hid (NE7.out.below hb)
        replace NE8 := Lib.hid (NE8.out.below hb)
        replace NZ := Lib.hid (NZ.out.below hb)
        replace E5 := Lib.hid (blk_below E5.out hb)
        replace E6 := Lib.hid (blk_below E6.out hb)
        replace E7 := Lib.hid (blk_below E7.out hb)
        replace E8 := Lib.hid (blk_below E8.out hb)
        replace E9 := Lib.hid (blk_below E9.out hb)
        replace HB0 := Lib.hid (cbt HB0.out hb)
        clear hb
        have k_E5_0 := E5.out.cell 0
        have k_E5_1 := E5.out.cell 1
        have k_E6_0 := E6.out.cell 0
        have k_E6_1 := E6.out.cell 1
        have k_E7_0 := E7.out.cell 0
        have k_E7_1 := E7.out.cell 1
        have k_E8_0 := E8.out.cell 0
        have k_E8_1 := E8.out.cell 1
        have k_E9_0 := E9.out.cell 0
        have k_E9_1 := E9.out.cell 1
        go_wp2_with fail
        with_reducible refine (HI7.out _).mono ?_
        rintro e w5 ⟨u, rfl, hu, hb⟩
        clear k_E5_0 k_E5_1 k_E6_0 k_E6_1 k_E7_0 k_E7_1 k_E8_0 k_E8_1 k_E9_0 k_E9_1
        replace NE5 := Lib.hid (NE5.out.below hb)
        replace NE6 := Lib.hid (NE6.out.below hb)
        replace NE7 := Lib.hid (NE7.out.below hb)
        replace NE8 := Lib.hid (NE8.out.below hb)
        replace NZ := Lib.hid (NZ.out.below hb)
        replace E5 := Lib.hid (blk_below E5.out hb)
        replace E6 := Lib.hid (blk_below E6.out hb)
        replace E7 := Lib.hid (blk_below E7.out hb)
        replace E8 := Lib.hid (blk_below E8.out hb)
        replace E9 := Lib.hid (blk_below E9.out hb)
        replace HB0 := Lib.hid (cbt HB0.out hb)
        have N7 := Lib.hid hu
        clear hb hu
        have k_E5_0 := E5.out.cell 0
        have k_E5_1 := E5.out.cell 1
        have k_E6_0 := E6.out.cell 0
        have k_E6_1 := E6.out.cell 1
        have k_E7_0 := E7.out.cell 0
        have k_E7_1 := E7.out.cell 1
        have k_E8_0 := E8.out.cell 0
        have k_E8_1 := E8.out.cell 1
        have k_E9_0 := E9.out.cell 0
        have k_E9_1 := E9.out.cell 1
        go_wp2_with fail
        with_reducible refine (HX7.out _).mono ?_
        rintro e w5 ⟨u, rfl, hu, hb⟩
        clear k_E5_0 k_E5_1 k_E6_0 k_E6_1 k_E7_0 k_E7_1 k_E8_0 k_E8_1 k_E9_0 k_E9_1
        replace NE5 := Lib.hid (NE5.out.below hb)
        replace NE6 := Lib.hid (NE6.out.below hb)
        replace NE7 := Lib.hid (NE7.out.below hb)
        replace NE8 := Lib.hid (NE8.out.below hb)
        replace NZ := Lib.hid (NZ.out.below hb)
        replace N7 := Lib.hid (N7.out.below hb)
        replace E5 := Lib.hid (blk_below E5.out hb)
        replace E6 := Lib.hid (blk_below E6.out hb)
        replace E7 := Lib.hid (blk_below E7.out hb)
        replace E8 := Lib.hid (blk_below E8.out hb)
        replace E9 := Lib.hid (blk_below E9.out hb)
        replace HB0 := Lib.hid (cbt HB0.out hb)
        have X7 := Lib.hid hu
        clear hb hu
        have k_E5_0 := E5.out.cell 0
        have k_E5_1 := E5.out.cell 1
        have k_E6_0 := E6.out.cell 0
        have k_E6_1 := E6.out.cell 1
        have k_E7_0 := E7.out.cell 0
        have k_E7_1 := E7.out.cell 1
        have k_E8_0 := E8.out.cell 0
        have k_E8_1 := E8.out.cell 1
        have k_E9_0 := E9.out.cell 0
        have k_E9_1 := E9.out.cell 1
        go_wp2_with fail
        with_reducible refine (HS7.out _ _ _ N7.out X7.out).mono ?_
        rintro e w5 ⟨rfl, hb⟩
        clear k_E5_0 k_E5_1 k_E6_0 k_E6_1 k_E7_0 k_E7_1 k_E8_0 k_E8_1 k_E9_0 k_E9_1
        replace NE5 := Lib.hid (NE5.out.below hb)
        replace NE6 := Lib.hid (NE6.out.below hb)
        replace NE7 := Lib.hid (NE7.out.below hb)
        replace NE8 := Lib.hid (NE8.out.below hb)
        replace NZ := Lib.hid (NZ.out.below hb)
        replace N7 := Lib.hid (N7.out.below hb)
        replace X7 := Lib.hid (X7.out.below hb)
        replace E5 := Lib.hid (blk_below E5.out hb)
        replace E6 := Lib.hid (blk_below E6.out hb)
        replace E7 := Lib.hid (blk_below E7.out hb)
        replace E8 := Lib.hid (blk_below E8.out hb)
        replace E9 := Lib.hid (blk_below E9.out hb)
        replace HB0 := Lib.hid (cbt HB0.out hb)
        clear hb
        have k_E5_0 := E5.out.cell 0
        have k_E5_1 := E5.out.cell 1
        have k_E6_0 := E6.out.cell 0
        have k_E6_1 := E6.out.cell 1
        have k_E7_0 := E7.out.cell 0
        have k_E7_1 := E7.out.cell 1
        have k_E8_0 := E8.out.cell 0
        have k_E8_1 := E8.out.cell 1
        have k_E9_0 := E9.out.cell 0
        have k_E9_1 := E9.out.cell 1
        go_wp2_with fail
        with_reducible refine (HDV.out _ _ _ (RF.fst NE7.out) (RF.snd NE7.out)).mono ?_
        rintro e w6 ⟨uq, ur, rfl, hq, hr, hb⟩
        clear k_E5_0 k_E5_1 k_E6_0 k_E6_1 k_E7_0 k_E7_1 k_E8_0 k_E8_1 k_E9_0 k_E9_1
        replace NE5 := Lib.hid (NE5.out.below hb)
        replace NE6 := Lib.hid (NE6.out.below hb)
        replace NE7 := Lib.hid (NE7.out.below hb)
        replace NE8 := Lib.hid (NE8.out.below hb)
        replace NZ := Lib.hid (NZ.out.below hb)
        replace E5 := Lib.hid (blk_below E5.out hb)
        replace E6 := Lib.hid (blk_below E6.out hb)
        replace E7 := Lib.hid (blk_below E7.out hb)
        replace E8 := Lib.hid (blk_below E8.out hb)
        replace E9 := Lib.hid (blk_below E9.out hb)
        replace HB0 := Lib.hid (cbt HB0.out hb)
        have NQ := Lib.hid hq
        have NR := Lib.hid hr
        clear hb hq hr
        have k_E5_0 := E5.out.cell 0
        have k_E5_1 := E5.out.cell 1
        have k_E6_0 := E6.out.cell 0
        have k_E6_1 := E6.out.cell 1
        have k_E7_0 := E7.out.cell 0
        have k_E7_1 := E7.out.cell 1
        have k_E8_0 := E8.out.cell 0
        have k_E8_1 := E8.out.cell 1
        have k_E9_0 := E9.out.cell 0
        have k_E9_1 := E9.out.cell 1
        go_wp2_with fail
        clear k_E5_0 k_E5_1 k_E6_0 k_E6_1 k_E7_0 k_E7_1 k_E8_0 k_E8_1 k_E9_0 k_E9_1
        let FS : List Kept1 := [.f (a.1) (a.2), .rf (a.1) (a.2), .eq (.bool true), .eq (.bool true), .f (a.1) (a.2), .eq (.string TS), .rf (a.1) (a.2), .eq (.string TS), .eq (.bool true), .eq (.bool true), .eq (.bool true), .f (a.1) (a.2), .eq (.bool false), .eq (.pointer (some ⟨g7, 0, none⟩)), .eq (.slice A7 p7 c7), .eq (.int .i64 (p7 : Int)), .eq (.bool false), .eq (.bool true), .eq (.bool true), .eq (.bool true), .f (a.1) (a.2), .f (b.1) (b.2), .eq (.int .i64 cc), .rf (a.1) (a.2), .rf (b.1) (b.2), .eq (.int .i64 cc), .eq (.bool true), .eq (.bool true), .eq (.bool true), .f (a.1) (a.2), .n (q), .r (q), .eq (.bool true), .eq (.bool true), .eq (.bool true), .eq (.bool true), .eq (.bool true), .eq (.bool true)]
        refine region_mono (Held w6 (fun j => FS.getD j .any) []) (by kernel_rfl) (by kernel_rfl) (by kernel_rfl) (Held.start _ _ _ (by simp) (by simp)) ?_
        refine Steps.held ?_ ?_
        · intro L v w' hJ
          have kb := hJ.out.blk E5.out (by simp [oldsOf])
          have k0 := kb.cell 0
          have k1 := kb.cell 1
          clear kb
          go_wp2_with fail
          exact ⟨rfl, rfl, hJ.out.same (by rfl) (NE5.out.keep hJ.out.held.keep)⟩
        simp only [Act.put, List.setIfInBounds_toArray, List.set_cons_zero, List.set_cons_succ, Nat.reduceAdd]
        refine Steps.held ?_ ?_
        · intro L v w' hJ
          have kb := hJ.out.blk E7.out (by simp [oldsOf])
          have k0 := kb.cell 0
          have k1 := kb.cell 1
          clear kb
          go_wp2_with fail
          exact ⟨rfl, rfl, hJ.out.same (by rfl) (NE7.out.keep hJ.out.held.keep)⟩
        simp only [Act.put, List.setIfInBounds_toArray, List.set_cons_zero, List.set_cons_succ, Nat.reduceAdd]
        refine Steps.held ?_ ?_
        · intro L v w' hJ
          have X0 := Lib.hid (show F64 w' (v 0) (a.1) (a.2) from hJ.out.fact 0 (by kernel_rfl))
          have X1 := Lib.hid (show RF w' (v 1) (a.1) (a.2) from hJ.out.fact 1 (by kernel_rfl))
          go_wp2_with fail
          with_reducible refine (HIS.out _ _ _ X0.out X1.out).mono ?_
          rintro e w1 ⟨rfl, hb⟩
          go_wp2_with fail
          exact ⟨rfl, rfl, hJ.out.call (by rfl) hb (rfl)⟩
        simp only [Act.put, List.setIfInBounds_toArray, List.set_cons_zero, List.set_cons_succ, Nat.reduceAdd]
        refine Steps.held ?_ ?_
        · intro L v w' hJ
          have hv2 : v 2 = .bool true := hJ.out.fact 2 (by kernel_rfl)
          simp only [hv2]
          clear hv2
          go_wp2_with fail
          exact ⟨rfl, rfl, hJ.out.same (by rfl) (rfl)⟩
        simp only [Act.put, List.setIfInBounds_toArray, List.set_cons_zero, List.set_cons_succ, Nat.reduceAdd]
        refine Steps.held ?_ ?_
        · intro L v w' hJ
          have hv3 : v 3 = .bool true := hJ.out.fact 3 (by kernel_rfl)
          simp only [hv3]
          clear hv3
          have kb := hJ.out.blk E5.out (by simp [oldsOf])
          have k0 := kb.cell 0
          have k1 := kb.cell 1
          clear kb
          go_wp2_with fail
          exact ⟨rfl, rfl, hJ.out.same (by rfl) (NE5.out.keep hJ.out.held.keep)⟩
        simp only [Act.put, List.setIfInBounds_toArray, List.set_cons_zero, List.set_cons_succ, Nat.reduceAdd]
        refine Steps.held ?_ ?_
        · intro L v w' hJ
          have hv3 : v 3 = .bool true := hJ.out.fact 3 (by kernel_rfl)
          simp only [hv3]
          clear hv3
          have X0 := Lib.hid (show F64 w' (v 4) (a.1) (a.2) from hJ.out.fact 4 (by kernel_rfl))
          go_wp2_with fail
          with_reducible refine (HTX.out _ _ X0.out).mono ?_
          rintro e w1 ⟨rfl, hb⟩
          go_wp2_with fail
          exact ⟨rfl, rfl, hJ.out.call (by rfl) hb (rfl)⟩
        simp only [Act.put, List.setIfInBounds_toArray, List.set_cons_zero, List.set_cons_succ, Nat.reduceAdd]
        refine Steps.held ?_ ?_
        · intro L v w' hJ
          have hv3 : v 3 = .bool true := hJ.out.fact 3 (by kernel_rfl)
          simp only [hv3]
          clear hv3
          have kb := hJ.out.blk E7.out (by simp [oldsOf])
          have k0 := kb.cell 0
          have k1 := kb.cell 1
          clear kb
          go_wp2_with fail
          exact ⟨rfl, rfl, hJ.out.same (by rfl) (NE7.out.keep hJ.out.held.keep)⟩
        simp only [Act.put, List.setIfInBounds_toArray, List.set_cons_zero, List.set_cons_succ, Nat.reduceAdd]
        refine Steps.held ?_ ?_
        · intro L v w' hJ
          have hv3 : v 3 = .bool true := hJ.out.fact 3 (by kernel_rfl)
          simp only [hv3]
          clear hv3
          have X0 := Lib.hid (show RF w' (v 6) (a.1) (a.2) from hJ.out.fact 6 (by kernel_rfl))
          go_wp2_with fail
          with_reducible refine (HXT.out _ _ X0.out).mono ?_
          rintro e w1 ⟨rfl, hb⟩
          go_wp2_with fail
          exact ⟨rfl, rfl, hJ.out.call (by rfl) hb (rfl)⟩
        simp only [Act.put, List.setIfInBounds_toArray, List.set_cons_zero, List.set_cons_succ, Nat.reduceAdd]
        refine Steps.held ?_ ?_
        · intro L v w' hJ
          have hv5 : v 5 = .string TS := hJ.out.fact 5 (by kernel_rfl)
          simp only [hv5]
          clear hv5
          have hv7 : v 7 = .string TS := hJ.out.fact 7 (by kernel_rfl)
          simp only [hv7]
          clear hv7
          have hv3 : v 3 = .bool true := hJ.out.fact 3 (by kernel_rfl)
          simp only [hv3]
          clear hv3
          go_wp2_with fail
          exact ⟨rfl, rfl, hJ.out.same (by rfl) (rfl)⟩
        simp only [Act.put, List.setIfInBounds_toArray, List.set_cons_zero, List.set_cons_succ, Nat.reduceAdd]
        refine Steps.held ?_ ?_
        · intro L v w' hJ
          have hv3 : v 3 = .bool true := hJ.out.fact 3 (by kernel_rfl)
          simp only [hv3]
          clear hv3
          have hv8 : v 8 = .bool true := hJ.out.fact 8 (by kernel_rfl)
          simp only [hv8]
          clear hv8
          go_wp2_with fail
          exact ⟨rfl, rfl, hJ.out.same (by rfl) (rfl)⟩
        simp only [Act.put, List.setIfInBounds_toArray, List.set_cons_zero, List.set_cons_succ, Nat.reduceAdd]
        refine Steps.held ?_ ?_
        · intro L v w' hJ
          have hv9 : v 9 = .bool true := hJ.out.fact 9 (by kernel_rfl)
          simp only [hv9]
          clear hv9
          go_wp2_with fail
          exact ⟨rfl, rfl, hJ.out.same (by rfl) (rfl)⟩
        simp only [Act.put, List.setIfInBounds_toArray, List.set_cons_zero, List.set_cons_succ, Nat.reduceAdd]
        refine Steps.held ?_ ?_
        · intro L v w' hJ
          have hv10 : v 10 = .bool true := hJ.out.fact 10 (by kernel_rfl)
          simp only [hv10]
          clear hv10
          have kb := hJ.out.blk E5.out (by simp [oldsOf])
          have k0 := kb.cell 0
          have k1 := kb.cell 1
          clear kb
          go_wp2_with fail
          exact ⟨rfl, rfl, hJ.out.same (by rfl) (NE5.out.keep hJ.out.held.keep)⟩
        simp only [Act.put, List.setIfInBounds_toArray, List.set_cons_zero, List.set_cons_succ, Nat.reduceAdd]
        refine Steps.held ?_ ?_
        · intro L v w' hJ
          have hv10 : v 10 = .bool true := hJ.out.fact 10 (by kernel_rfl)
          simp only [hv10]
          clear hv10
          have X0 := Lib.hid (show F64 w' (v 11) (a.1) (a.2) from hJ.out.fact 11 (by kernel_rfl))
          go_wp2_with fail
          with_reducible refine (HZA.out _ _ X0.out).mono ?_
          rintro e w1 ⟨rfl, hb⟩
          go_wp2_with fail
          exact ⟨rfl, rfl, hJ.out.call (by rfl) hb (rfl)⟩
        simp only [Act.put, List.setIfInBounds_toArray, List.set_cons_zero, List.set_cons_succ, Nat.reduceAdd]
        refine Steps.held ?_ ?_
        · intro L v w' hJ
          have hv10 : v 10 = .bool true := hJ.out.fact 10 (by kernel_rfl)
          simp only [hv10]
          clear hv10
          go_wp2_with fail
          exact ⟨rfl, rfl, hJ.out.same (by rfl) (rfl)⟩
        simp only [Act.put, List.setIfInBounds_toArray, List.set_cons_zero, List.set_cons_succ, Nat.reduceAdd]
        refine Steps.held ?_ ?_
        · intro L v w' hJ
          have hv13 : v 13 = .pointer (some ⟨g7, 0, none⟩) := hJ.out.fact 13 (by kernel_rfl)
          simp only [hv13]
          clear hv13
          have hv10 : v 10 = .bool true := hJ.out.fact 10 (by kernel_rfl)
          simp only [hv10]
          clear hv10
          have kb := hJ.out.blk E7.out (by simp [oldsOf])
          have k0 := kb.cell 0
          have k1 := kb.cell 1
          clear kb
          go_wp2_with fail
          exact ⟨rfl, rfl, hJ.out.same (by rfl) (rfl)⟩
        simp only [Act.put, List.setIfInBounds_toArray, List.set_cons_zero, List.set_cons_succ, Nat.reduceAdd]
        refine Steps.held ?_ ?_
        · intro L v w' hJ
          have hv14 : v 14 = .slice A7 p7 c7 := hJ.out.fact 14 (by kernel_rfl)
          simp only [hv14]
          clear hv14
          have hv10 : v 10 = .bool true := hJ.out.fact 10 (by kernel_rfl)
          simp only [hv10]
          clear hv10
          go_wp2_with fail
          exact ⟨rfl, rfl, hJ.out.same (by rfl) (rfl)⟩
        simp only [Act.put, List.setIfInBounds_toArray, List.set_cons_zero, List.set_cons_succ, Nat.reduceAdd]
        refine Steps.held ?_ ?_
        · intro L v w' hJ
          have hv15 : v 15 = .int .i64 (p7 : Int) := hJ.out.fact 15 (by kernel_rfl)
          simp only [hv15]
          clear hv15
          have hv10 : v 10 = .bool true := hJ.out.fact 10 (by kernel_rfl)
          simp only [hv10]
          clear hv10
          go_wp2_with fail
          exact ⟨rfl, rfl, hJ.out.same (by rfl) (rfl)⟩
        simp only [Act.put, List.setIfInBounds_toArray, List.set_cons_zero, List.set_cons_succ, Nat.reduceAdd]
        refine Steps.held ?_ ?_
        · intro L v w' hJ
          have hv12 : v 12 = .bool false := hJ.out.fact 12 (by kernel_rfl)
          simp only [hv12]
          clear hv12
          have hv16 : v 16 = .bool false := hJ.out.fact 16 (by kernel_rfl)
          simp only [hv16]
          clear hv16
          have hv10 : v 10 = .bool true := hJ.out.fact 10 (by kernel_rfl)
          simp only [hv10]
          clear hv10
          go_wp2_with fail
          exact ⟨rfl, rfl, hJ.out.same (by rfl) (rfl)⟩
        simp only [Act.put, List.setIfInBounds_toArray, List.set_cons_zero, List.set_cons_succ, Nat.reduceAdd]
        refine Steps.held ?_ ?_
        · intro L v w' hJ
          have hv10 : v 10 = .bool true := hJ.out.fact 10 (by kernel_rfl)
          simp only [hv10]
          clear hv10
          have hv17 : v 17 = .bool true := hJ.out.fact 17 (by kernel_rfl)
          simp only [hv17]
          clear hv17
          go_wp2_with fail
          exact ⟨rfl, rfl, hJ.out.same (by rfl) (rfl)⟩
        simp only [Act.put, List.setIfInBounds_toArray, List.set_cons_zero, List.set_cons_succ, Nat.reduceAdd]
        refine Steps.held ?_ ?_
        · intro L v w' hJ
          have hv18 : v 18 = .bool true := hJ.out.fact 18 (by kernel_rfl)
          simp only [hv18]
          clear hv18
          go_wp2_with fail
          exact ⟨rfl, rfl, hJ.out.same (by rfl) (rfl)⟩
        simp only [Act.put, List.setIfInBounds_toArray, List.set_cons_zero, List.set_cons_succ, Nat.reduceAdd]
        refine Steps.held ?_ ?_
        · intro L v w' hJ
          have hv19 : v 19 = .bool true := hJ.out.fact 19 (by kernel_rfl)
          simp only [hv19]
          clear hv19
          have kb := hJ.out.blk E5.out (by simp [oldsOf])
          have k0 := kb.cell 0
          have k1 := kb.cell 1
          clear kb
          go_wp2_with fail
          exact ⟨rfl, rfl, hJ.out.same (by rfl) (NE5.out.keep hJ.out.held.keep)⟩
        simp only [Act.put, List.setIfInBounds_toArray, List.set_cons_zero, List.set_cons_succ, Nat.reduceAdd]
        refine Steps.held ?_ ?_
        · intro L v w' hJ
          have hv19 : v 19 = .bool true := hJ.out.fact 19 (by kernel_rfl)
          simp only [hv19]
          clear hv19
          have kb := hJ.out.blk E6.out (by simp [oldsOf])
          have k0 := kb.cell 0
          have k1 := kb.cell 1
          clear kb
          go_wp2_with fail
          exact ⟨rfl, rfl, hJ.out.same (by rfl) (NE6.out.keep hJ.out.held.keep)⟩
        simp only [Act.put, List.setIfInBounds_toArray, List.set_cons_zero, List.set_cons_succ, Nat.reduceAdd]
        refine Steps.held ?_ ?_
        · intro L v w' hJ
          have hv19 : v 19 = .bool true := hJ.out.fact 19 (by kernel_rfl)
          simp only [hv19]
          clear hv19
          have X0 := Lib.hid (show F64 w' (v 20) (a.1) (a.2) from hJ.out.fact 20 (by kernel_rfl))
          have X1 := Lib.hid (show F64 w' (v 21) (b.1) (b.2) from hJ.out.fact 21 (by kernel_rfl))
          go_wp2_with fail
          with_reducible refine (HCF.out _ _ _ X0.out X1.out).mono ?_
          rintro e w1 ⟨rfl, hb⟩
          go_wp2_with fail
          exact ⟨rfl, rfl, hJ.out.call (by rfl) hb (rfl)⟩
        simp only [Act.put, List.setIfInBounds_toArray, List.set_cons_zero, List.set_cons_succ, Nat.reduceAdd]
        refine Steps.held ?_ ?_
        · intro L v w' hJ
          have hv19 : v 19 = .bool true := hJ.out.fact 19 (by kernel_rfl)
          simp only [hv19]
          clear hv19
          have kb := hJ.out.blk E7.out (by simp [oldsOf])
          have k0 := kb.cell 0
          have k1 := kb.cell 1
          clear kb
          go_wp2_with fail
          exact ⟨rfl, rfl, hJ.out.same (by rfl) (NE7.out.keep hJ.out.held.keep)⟩
        simp only [Act.put, List.setIfInBounds_toArray, List.set_cons_zero, List.set_cons_succ, Nat.reduceAdd]
        refine Steps.held ?_ ?_
        · intro L v w' hJ
          have hv19 : v 19 = .bool true := hJ.out.fact 19 (by kernel_rfl)
          simp only [hv19]
          clear hv19
          have kb := hJ.out.blk E8.out (by simp [oldsOf])
          have k0 := kb.cell 0
          have k1 := kb.cell 1
          clear kb
          go_wp2_with fail
          exact ⟨rfl, rfl, hJ.out.same (by rfl) (NE8.out.keep hJ.out.held.keep)⟩
        simp only [Act.put, List.setIfInBounds_toArray, List.set_cons_zero, List.set_cons_succ, Nat.reduceAdd]
        refine Steps.held ?_ ?_
        · intro L v w' hJ
          have hv19 : v 19 = .bool true := hJ.out.fact 19 (by kernel_rfl)
          simp only [hv19]
          clear hv19
          have X0 := Lib.hid (show RF w' (v 23) (a.1) (a.2) from hJ.out.fact 23 (by kernel_rfl))
          have X1 := Lib.hid (show RF w' (v 24) (b.1) (b.2) from hJ.out.fact 24 (by kernel_rfl))
          go_wp2_with fail
          with_reducible refine (HCX.out _ _ _ X0.out X1.out).mono ?_
          rintro e w1 ⟨rfl, hb⟩
          go_wp2_with fail
          exact ⟨rfl, rfl, hJ.out.call (by rfl) hb (rfl)⟩
        simp only [Act.put, List.setIfInBounds_toArray, List.set_cons_zero, List.set_cons_succ, Nat.reduceAdd]
        refine Steps.held ?_ ?_
        · intro L v w' hJ
          have hv22 : v 22 = .int .i64 cc := hJ.out.fact 22 (by kernel_rfl)
          simp only [hv22]
          clear hv22
          have hv25 : v 25 = .int .i64 cc := hJ.out.fact 25 (by kernel_rfl)
          simp only [hv25]
          clear hv25
          have hv19 : v 19 = .bool true := hJ.out.fact 19 (by kernel_rfl)
          simp only [hv19]
          clear hv19
          go_wp2_with fail
          exact ⟨rfl, rfl, hJ.out.same (by rfl) (rfl)⟩
        simp only [Act.put, List.setIfInBounds_toArray, List.set_cons_zero, List.set_cons_succ, Nat.reduceAdd]
        refine Steps.held ?_ ?_
        · intro L v w' hJ
          have hv19 : v 19 = .bool true := hJ.out.fact 19 (by kernel_rfl)
          simp only [hv19]
          clear hv19
          have hv26 : v 26 = .bool true := hJ.out.fact 26 (by kernel_rfl)
          simp only [hv26]
          clear hv26
          go_wp2_with fail
          exact ⟨rfl, rfl, hJ.out.same (by rfl) (rfl)⟩
        simp only [Act.put, List.setIfInBounds_toArray, List.set_cons_zero, List.set_cons_succ, Nat.reduceAdd]
        refine Steps.held ?_ ?_
        · intro L v w' hJ
          have hv27 : v 27 = .bool true := hJ.out.fact 27 (by kernel_rfl)
          simp only [hv27]
          clear hv27
          go_wp2_with fail
          exact ⟨rfl, rfl, hJ.out.same (by rfl) (rfl)⟩
        simp only [Act.put, List.setIfInBounds_toArray, List.set_cons_zero, List.set_cons_succ, Nat.reduceAdd]
        refine Steps.held ?_ ?_
        · intro L v w' hJ
          have hv28 : v 28 = .bool true := hJ.out.fact 28 (by kernel_rfl)
          simp only [hv28]
          clear hv28
          have kb := hJ.out.blk E5.out (by simp [oldsOf])
          have k0 := kb.cell 0
          have k1 := kb.cell 1
          clear kb
          go_wp2_with fail
          exact ⟨rfl, rfl, hJ.out.same (by rfl) (NE5.out.keep hJ.out.held.keep)⟩
        simp only [Act.put, List.setIfInBounds_toArray, List.set_cons_zero, List.set_cons_succ, Nat.reduceAdd]
        refine Steps.held ?_ ?_
        · intro L v w' hJ
          have hv28 : v 28 = .bool true := hJ.out.fact 28 (by kernel_rfl)
          simp only [hv28]
          clear hv28
          have X0 := Lib.hid (show F64 w' (v 29) (a.1) (a.2) from hJ.out.fact 29 (by kernel_rfl))
          go_wp2_with fail
          with_reducible refine (HFL.out _ _ X0.out).mono ?_
          rintro e w1 ⟨u, rfl, hu, hb⟩
          go_wp2_with fail
          exact ⟨rfl, rfl, hJ.out.call (by rfl) hb (hu)⟩
        simp only [Act.put, List.setIfInBounds_toArray, List.set_cons_zero, List.set_cons_succ, Nat.reduceAdd]
        refine Steps.held ?_ ?_
        · intro L v w' hJ
          have hv28 : v 28 = .bool true := hJ.out.fact 28 (by kernel_rfl)
          simp only [hv28]
          clear hv28
          go_wp2_with fail
          exact ⟨rfl, rfl, hJ.out.same (by rfl) (NQ.out.keep hJ.out.held.keep)⟩
        simp only [Act.put, List.setIfInBounds_toArray, List.set_cons_zero, List.set_cons_succ, Nat.reduceAdd]
        refine Steps.held ?_ ?_
        · intro L v w' hJ
          have hv28 : v 28 = .bool true := hJ.out.fact 28 (by kernel_rfl)
          simp only [hv28]
          clear hv28
          have X0 := Lib.hid (show N64 w' (v 30) (q) from hJ.out.fact 30 (by kernel_rfl))
          have X1 := Lib.hid (show R256 w' (v 31) (q) from hJ.out.fact 31 (by kernel_rfl))
          go_wp2_with fail
          with_reducible refine (HIQ.out _ _ _ X0.out X1.out).mono ?_
          rintro e w1 ⟨rfl, hb⟩
          go_wp2_with fail
          exact ⟨rfl, rfl, hJ.out.call (by rfl) hb (rfl)⟩
        simp only [Act.put, List.setIfInBounds_toArray, List.set_cons_zero, List.set_cons_succ, Nat.reduceAdd]
        refine Steps.held ?_ ?_
        · intro L v w' hJ
          have hv28 : v 28 = .bool true := hJ.out.fact 28 (by kernel_rfl)
          simp only [hv28]
          clear hv28
          have hv32 : v 32 = .bool true := hJ.out.fact 32 (by kernel_rfl)
          simp only [hv32]
          clear hv32
          go_wp2_with fail
          exact ⟨rfl, rfl, hJ.out.same (by rfl) (rfl)⟩
        simp only [Act.put, List.setIfInBounds_toArray, List.set_cons_zero, List.set_cons_succ, Nat.reduceAdd]
        refine Steps.held ?_ ?_
        · intro L v w' hJ
          have hv33 : v 33 = .bool true := hJ.out.fact 33 (by kernel_rfl)
          simp only [hv33]
          clear hv33
          go_wp2_with fail
          exact ⟨rfl, rfl, hJ.out.same (by rfl) (rfl)⟩
        simp only [Act.put, List.setIfInBounds_toArray, List.set_cons_zero, List.set_cons_succ, Nat.reduceAdd]
        refine Steps.held ?_ ?_
        · intro L v w' hJ
          have hv34 : v 34 = .bool true := hJ.out.fact 34 (by kernel_rfl)
          simp only [hv34]
          clear hv34
          go_wp2_with fail
          with_reducible refine (HLV.out _).mono ?_
          rintro e w1 ⟨rfl, hb⟩
          go_wp2_with fail
          exact ⟨rfl, rfl, hJ.out.call (by rfl) hb (rfl)⟩
        simp only [Act.put, List.setIfInBounds_toArray, List.set_cons_zero, List.set_cons_succ, Nat.reduceAdd]
        refine Steps.held ?_ ?_
        · intro L v w' hJ
          have hv34 : v 34 = .bool true := hJ.out.fact 34 (by kernel_rfl)
          simp only [hv34]
          clear hv34
          have hv35 : v 35 = .bool true := hJ.out.fact 35 (by kernel_rfl)
          simp only [hv35]
          clear hv35
          go_wp2_with fail
          exact ⟨rfl, rfl, hJ.out.same (by rfl) (rfl)⟩
        simp only [Act.put, List.setIfInBounds_toArray, List.set_cons_zero, List.set_cons_succ, Nat.reduceAdd]
        refine Steps.held ?_ ?_
        · intro L v w' hJ
          have hv36 : v 36 = .bool true := hJ.out.fact 36 (by kernel_rfl)
          simp only [hv36]
          clear hv36
          go_wp2_with fail
          exact ⟨rfl, rfl, hJ.out.same (by rfl) (rfl)⟩
        simp only [Act.put, List.setIfInBounds_toArray, List.set_cons_zero, List.set_cons_succ, Nat.reduceAdd]
        refine Steps.nil ?_
        intro v w' hJ
        have h37 : v 37 = .bool true := hJ.end_fact 37 (by decide)
        have HF := Lib.hid (cbt HB0.out hJ.but.below)
        clear hJ
        simp only [h37]
        clear h37
        go_wp2_with fail
        go_ret
        exact ⟨rfl, HF.out⟩
    · have hzy : ly.length ≤ 24 → 24 < my.length := fun h1 => by omega
      have HSx : Hid (∀ v W, Frc W v lx mx → Calls Try.prog 64 #[v, .int .i64 24] W (fun x w' => x = .returned (.bool true) ∧ Below W.heap.size W w')) := Lib.hid (fun v W h => c_small (k := 24) h (by simp [hxx, hyx]))
      have HSy : Hid (∀ v W, Frc W v ly my → Calls Try.prog 64 #[v, .int .i64 24] W (fun x w' => x = .returned (.bool false) ∧ Below W.heap.size W w')) := Lib.hid (fun v W h => c_small (k := 24) h (by simpa using hzy))
      have e0 := (Blk.new (w) 45 #[(.slice Ux nx cx), (.slice Vx kx dx)]).alloc (.cells #[(.slice Uy ny cy), (.slice Vy ky dy)] 45)
      have e1 := Blk.new ((w).alloc (.cells #[(.slice Ux nx cx), (.slice Vx kx dx)] 45)) 45 #[(.slice Uy ny cy), (.slice Vy ky dy)]
      have hb := cba (cba (Below.refl _ w) (.cells #[(.slice Ux nx cx), (.slice Vx kx dx)] 45)) (.cells #[(.slice Uy ny cy), (.slice Vy ky dy)] 45)
      simp only [World.size_alloc] at e1
      have hsz : w.heap.size ≤ w.heap.size := Nat.le_refl _
      go_enter Try.func16, Try.ntmps16
      go_upto_region 1 with (fail)
      obtain ⟨S, hS⟩ : ∃ S, ((w).alloc (.cells #[(.slice Ux nx cx), (.slice Vx kx dx)] 45)).alloc (.cells #[(.slice Uy ny cy), (.slice Vy ky dy)] 45) = S := ⟨_, rfl⟩
      rw [hS] at e0 e1 hb ⊢
      replace Hx := Lib.hid (Hx.out.below hb)
      replace Hy := Lib.hid (Hy.out.below hb)
      have HB0 := Lib.hid hb
      have E0 := Lib.hid e0
      have E1 := Lib.hid e1
      clear hS hb hsz e0 e1
      have k_E0_0 := E0.out.cell 0
      have k_E0_1 := E0.out.cell 1
      have k_E1_0 := E1.out.cell 0
      have k_E1_1 := E1.out.cell 1
      go_wp2_with fail
      with_reducible refine (HSx.out _ _ Hx.out).mono ?_
      rintro e w1 ⟨rfl, hb⟩
      clear k_E0_0 k_E0_1 k_E1_0 k_E1_1
      replace Hx := Lib.hid (Hx.out.below hb)
      replace Hy := Lib.hid (Hy.out.below hb)
      replace E0 := Lib.hid (blk_below E0.out hb)
      replace E1 := Lib.hid (blk_below E1.out hb)
      replace HB0 := Lib.hid (cbt HB0.out hb)
      clear hb
      have k_E0_0 := E0.out.cell 0
      have k_E0_1 := E0.out.cell 1
      have k_E1_0 := E1.out.cell 0
      have k_E1_1 := E1.out.cell 1
      go_wp2_with fail
      with_reducible refine (HSy.out _ _ Hy.out).mono ?_
      rintro e w1 ⟨rfl, hb⟩
      clear k_E0_0 k_E0_1 k_E1_0 k_E1_1
      replace Hx := Lib.hid (Hx.out.below hb)
      replace Hy := Lib.hid (Hy.out.below hb)
      replace E0 := Lib.hid (blk_below E0.out hb)
      replace E1 := Lib.hid (blk_below E1.out hb)
      replace HB0 := Lib.hid (cbt HB0.out hb)
      clear hb
      have k_E0_0 := E0.out.cell 0
      have k_E0_1 := E0.out.cell 1
      have k_E1_0 := E1.out.cell 0
      have k_E1_1 := E1.out.cell 1
      go_wp2_with fail
      with_reducible refine (live26_any _).mono ?_
      rintro e w1 ⟨rfl, hb⟩
      clear k_E0_0 k_E0_1 k_E1_0 k_E1_1
      replace Hx := Lib.hid (Hx.out.below hb)
      replace Hy := Lib.hid (Hy.out.below hb)
      replace E0 := Lib.hid (blk_below E0.out hb)
      replace E1 := Lib.hid (blk_below E1.out hb)
      replace HB0 := Lib.hid (cbt HB0.out hb)
      clear hb
      have k_E0_0 := E0.out.cell 0
      have k_E0_1 := E0.out.cell 1
      have k_E1_0 := E1.out.cell 0
      have k_E1_1 := E1.out.cell 1
      go_wp2_with fail
      go_ret
      exact ⟨rfl, HB0.out⟩
  · have hzx : lx.length ≤ 24 → 24 < mx.length := fun h1 => by omega
    have HSx : Hid (∀ v W, Frc W v lx mx → Calls Try.prog 64 #[v, .int .i64 24] W (fun x w' => x = .returned (.bool false) ∧ Below W.heap.size W w')) := Lib.hid (fun v W h => c_small (k := 24) h (by simpa using hzx))
    have e0 := (Blk.new (w) 45 #[(.slice Ux nx cx), (.slice Vx kx dx)]).alloc (.cells #[(.slice Uy ny cy), (.slice Vy ky dy)] 45)
    have e1 := Blk.new ((w).alloc (.cells #[(.slice Ux nx cx), (.slice Vx kx dx)] 45)) 45 #[(.slice Uy ny cy), (.slice Vy ky dy)]
    have hb := cba (cba (Below.refl _ w) (.cells #[(.slice Ux nx cx), (.slice Vx kx dx)] 45)) (.cells #[(.slice Uy ny cy), (.slice Vy ky dy)] 45)
    simp only [World.size_alloc] at e1
    have hsz : w.heap.size ≤ w.heap.size := Nat.le_refl _
    go_enter Try.func16, Try.ntmps16
    go_upto_region 1 with (fail)
    obtain ⟨S, hS⟩ : ∃ S, ((w).alloc (.cells #[(.slice Ux nx cx), (.slice Vx kx dx)] 45)).alloc (.cells #[(.slice Uy ny cy), (.slice Vy ky dy)] 45) = S := ⟨_, rfl⟩
    rw [hS] at e0 e1 hb ⊢
    replace Hx := Lib.hid (Hx.out.below hb)
    replace Hy := Lib.hid (Hy.out.below hb)
    have HB0 := Lib.hid hb
    have E0 := Lib.hid e0
    have E1 := Lib.hid e1
    clear hS hb hsz e0 e1
    have k_E0_0 := E0.out.cell 0
    have k_E0_1 := E0.out.cell 1
    have k_E1_0 := E1.out.cell 0
    have k_E1_1 := E1.out.cell 1
    go_wp2_with fail
    with_reducible refine (HSx.out _ _ Hx.out).mono ?_
    rintro e w1 ⟨rfl, hb⟩
    clear k_E0_0 k_E0_1 k_E1_0 k_E1_1
    replace Hx := Lib.hid (Hx.out.below hb)
    replace Hy := Lib.hid (Hy.out.below hb)
    replace E0 := Lib.hid (blk_below E0.out hb)
    replace E1 := Lib.hid (blk_below E1.out hb)
    replace HB0 := Lib.hid (cbt HB0.out hb)
    clear hb
    have k_E0_0 := E0.out.cell 0
    have k_E0_1 := E0.out.cell 1
    have k_E1_0 := E1.out.cell 0
    have k_E1_1 := E1.out.cell 1
    go_wp2_with fail
    with_reducible refine (live26_any _).mono ?_
    rintro e w1 ⟨rfl, hb⟩
    clear k_E0_0 k_E0_1 k_E1_0 k_E1_1
    replace Hx := Lib.hid (Hx.out.below hb)
    replace Hy := Lib.hid (Hy.out.below hb)
    replace E0 := Lib.hid (blk_below E0.out hb)
    replace E1 := Lib.hid (blk_below E1.out hb)
    replace HB0 := Lib.hid (cbt HB0.out hb)
    clear hb
    have k_E0_0 := E0.out.cell 0
    have k_E0_1 := E0.out.cell 1
    have k_E1_0 := E1.out.cell 0
    have k_E1_1 := E1.out.cell 1
    go_wp2_with fail
    go_ret
    exact ⟨rfl, HB0.out⟩
end Go.Proofs.Yteikhnmmkanndaa
namespace Go.Proofs.Yteikhnmmkanndaa
open Go.ChangeShapes Go.WideShapes Go.RowKit Go.Proofs.YteikhnmmkanndaaW.PrintWords
section
variable {H : Type} {enc : TypeId × Value → H} {w : World} {base : Nat} {spare : Nat → Bool} {held : Bool}
theorem open_bytes1 {fuel : Nat} {u : Value} {x : DataW H × List MemPlace} (h : DataW.trod enc Try.prog w base spare held fuel 22 [u] = some x) :
    ∃ A n c, ∃ l : List Int, u = .slice A n c ∧ l.length = n ∧ ByS w (.slice A n c) l ∧ Bys l := by
  rcases open_ints Try.underlying22 (e := 5) (k := .u8) (by kernel_rfl) (by kernel_rfl) h with ⟨hcs, _⟩ | ⟨a, l, c, zs, hcs, _⟩
  · obtain rfl : u = .slice none 0 0 := by simpa using hcs
    obtain ⟨l, h1, h2, h3⟩ := open_bytes_at h
    exact ⟨_, _, _, l, rfl, h1, h2, h3⟩
  · obtain rfl : u = .slice (some a) l c := by simpa using hcs
    obtain ⟨l, h1, h2, h3⟩ := open_bytes_at h
    exact ⟨_, _, _, l, rfl, h1, h2, h3⟩
theorem open_frc_at {fuel : Nat} {cs : Array Value} {x : DataW H × List MemPlace} (h2 : cs.size = 2) (h : DataW.trod enc Try.prog w base spare held fuel 45 cs.toList = some x) : ∃ l m : List Int, Frc w (.agg cs) l m ∧ Bys l ∧ Bys m := by
  obtain ⟨y0, y1, n, _, _, h0, h1⟩ := trod_struct2 Try.underlying45 h
  have hc : Try.prog.cellsOf 22 = 1 := by kernel_rfl
  simp only [hc] at h0 h1
  obtain ⟨l⟩ := cs
  rcases l with _ | ⟨a, _ | ⟨b, _ | ⟨c, t⟩⟩⟩
  · exact absurd h2 (by simp)
  · exact absurd h2 (by simp)
  · obtain ⟨A, p, c, l, rfl, hl, hA, yl⟩ := open_bytes1 (u := a) h0
    obtain ⟨B, q, d, m, rfl, hm, hB, ym⟩ := open_bytes1 (u := b) h1
    exact ⟨l, m, ⟨A, p, c, B, q, d, rfl, hA, hB, hl, hm⟩, yl, ym⟩
  · exact absurd h2 (by simp)
end
end Go.Proofs.Yteikhnmmkanndaa
