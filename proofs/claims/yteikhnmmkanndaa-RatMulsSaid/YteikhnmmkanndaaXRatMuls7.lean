/- Laid together by prune.py out of the texts that the row needs: the declarations that its theorem uses. -/
import Derived.Test.YteikhnmmkanndaaXRatMuls6
import Derived.ChangeSlices
import Derived.ChangeSame
import Derived.OpenShut
import Derived.ChangeOld
namespace Go.Proofs.Yteikhnmmkanndaa
open Go.RowKit Go.Proofs.YteikhnmmkanndaaW.PrintWords
set_option linter.unusedSimpArgs false
set_option linter.unusedVariables false
set_option maxRecDepth 100000 in
set_option maxHeartbeats 4000000 in
theorem ratSums_law (vx : Value) (lx mx : List Int) (vy : Value) (ly my : List Int) (w : World) (hx : Frc w vx lx mx) (ylx : Bys lx) (ymx : Bys mx) (hy : Frc w vy ly my) (yly : Bys ly) (ymy : Bys my) : Calls Try.prog 14 #[vx, vy] w fun e w' => e = .returned (.bool true) ∧ Below w.heap.size w w' := by
  have Hx := Lib.hid hx
  obtain ⟨Ux, nx, cx, Vx, kx, dx, rfl, _, _, _, _⟩ := hx
  have Hy := Lib.hid hy
  obtain ⟨Uy, ny, cy, Vy, ky, dy, rfl, _, _, _, _⟩ := hy
  by_cases hzx : lx.length ≤ 16 ∧ mx.length ≤ 16
  · obtain ⟨hxx, hyx⟩ := hzx
    by_cases hzy : ly.length ≤ 16 ∧ my.length ≤ 16
    · obtain ⟨hxy, hyy⟩ := hzy
      have HSx : Hid (∀ v W, Frc W v lx mx → Calls Try.prog 64 #[v, .int .i64 16] W (fun x w' => x = .returned (.bool true) ∧ Below W.heap.size W w')) := Lib.hid (fun v W h => c_small (k := 16) h (by simp [hxx, hyx]))
      have HSy : Hid (∀ v W, Frc W v ly my → Calls Try.prog 64 #[v, .int .i64 16] W (fun x w' => x = .returned (.bool true) ∧ Below W.heap.size W w')) := Lib.hid (fun v W h => c_small (k := 16) h (by simp [hxy, hyy]))
      have ra := frcR_red lx mx
      have sa := frcR_sz ylx ymx hxx hyx
      have HTa := Lib.hid (fun v W h => c_to (v := v) (W := W) (l := lx) (m := mx) h ylx ymx (by omega) (by omega))
      have HRa := Lib.hid (fun v W h => c_ref (v := v) (W := W) (l := lx) (m := mx) h ylx ymx (by omega) (by omega))
      obtain ⟨a, hea⟩ : ∃ a, frcR lx mx = a := ⟨_, rfl⟩
      rw [hea] at ra sa HTa HRa
      clear hea
      have rb := frcR_red ly my
      have sb := frcR_sz yly ymy hxy hyy
      have HTb := Lib.hid (fun v W h => c_to (v := v) (W := W) (l := ly) (m := my) h yly ymy (by omega) (by omega))
      have HRb := Lib.hid (fun v W h => c_ref (v := v) (W := W) (l := ly) (m := my) h yly ymy (by omega) (by omega))
      obtain ⟨b, heb⟩ : ∃ a, frcR ly my = a := ⟨_, rfl⟩
      rw [heb] at rb sb HTb HRb
      clear heb
      have rs := addR_red ra rb
      have ss := (sa.add sb).mono (C := 40) (by decide)
      have sl := (sa.less sb).mono (C := 40) (by decide)
      have hge := addR_ge (b := b) ra
      have heq := lessR_add ra rb
      have su := ss.less sb
      have ra2 := addR_red rs ra
      have sr2 := (ss.add sa).mono (C := 80) (by decide)
      have sa' := sa.mono (C := 80) (by decide)
      have sb' := sb.mono (C := 80) (by decide)
      have ss' := ss.mono (C := 80) (by decide)
      have sl' := sl.mono (C := 80) (by decide)
      have su' := su.mono (C := 80) (by decide)
      have HAD := Lib.hid (fun v W h => c_add2 (v := v) (W := W) (B := 80) (by decide) ra rb sa' sb' h)
      have HA3 := Lib.hid (fun v W h => c_add3 (v := v) (W := W) (B := 80) (by decide) ra rb ra sa' sb' sa' h)
      have HA2 := Lib.hid (fun v W h => c_add2 (v := v) (W := W) (B := 80) (by decide) rs ra ss' sa' h)
      have HXA := Lib.hid (fun va vb W h1 h2 => c_xadd (va := va) (vb := vb) (W := W) (B := 80) (by decide) ra rb sa' sb' h1 h2)
      have HIS := Lib.hid (fun va vb W h1 h2 => c_is (va := va) (vb := vb) (W := W) (B := 80) (by decide) ss' h1 h2)
      have HLE := Lib.hid (fun va vb W h1 h2 => c_less (va := va) (vb := vb) (W := W) (B := 80) (by decide) sa' sb' h1 h2)
      have HXL := Lib.hid (fun va vb W h1 h2 => c_xless (va := va) (vb := vb) (W := W) (B := 80) (by decide) ra rb sa' sb' h1 h2)
      have HIL := Lib.hid (fun va vb W h1 h2 => c_is (va := va) (vb := vb) (W := W) (B := 80) (by decide) sl' h1 h2)
      have HL2 := Lib.hid (fun va vb W h1 h2 => c_less (va := va) (vb := vb) (W := W) (B := 80) (by decide) ss' sb' h1 h2)
      have HC1 := Lib.hid (fun va vb W h1 h2 => c_cmpeq (va := va) (vb := vb) (W := W) (B := 80) (by decide) su' sa' heq h1 h2)
      have HA0 := Lib.hid radd_none
      have HX0 : Hid (∀ W, Calls Try.prog 70 #[.int .i64 0] W (MkR W 0 1)) := Lib.hid (fun W => xint_any 0 0 (by decide) (by decide) W)
      have HI0 := Lib.hid (fun va vb W h1 h2 => c_is (a := (0, 1)) (va := va) (vb := vb) (W := W) (B := 80) (by decide) (Sz.zero.mono (by decide)) h1 h2)
      have HC2 := Lib.hid (fun va vb W h1 h2 => c_cmpeq (va := va) (vb := vb) (W := W) (B := 80) (by decide) sr2 sr2 rfl h1 h2)
      have HLV := Lib.hid live26_any
      generalize addR (addR a b) a = r at *
      generalize addR a b = s at *
      generalize lessR a b = l at *
      generalize lessR s b = u at *
      clear ra rb sa sb rs ss sl hge heq su ra2 sr2 sa' sb' ss' sl' su' ylx ymx yly ymy hxx hyx hxy hyy
      have e0 := (Blk.new (w) 45 #[(.slice Ux nx cx), (.slice Vx kx dx)]).alloc (.cells #[(.slice Uy ny cy), (.slice Vy ky dy)] 45)
      have e1 := Blk.new ((w).alloc (.cells #[(.slice Ux nx cx), (.slice Vx kx dx)] 45)) 45 #[(.slice Uy ny cy), (.slice Vy ky dy)]
      have hb := cba (cba (Below.refl _ w) (.cells #[(.slice Ux nx cx), (.slice Vx kx dx)] 45)) (.cells #[(.slice Uy ny cy), (.slice Vy ky dy)] 45)
      simp only [World.size_alloc] at e1
      have hsz : w.heap.size ≤ w.heap.size := Nat.le_refl _
      go_enter Try.func14, Try.ntmps14
      go_upto_region 1 with (fail)
      obtain ⟨S, hS⟩ : ∃ S, ((w).alloc (.cells #[(.slice Ux nx cx), (.slice Vx kx dx)] 45)).alloc (.cells #[(.slice Uy ny cy), (.slice Vy ky dy)] 45) = S := ⟨_, rfl⟩
      rw [hS] at e0 e1 hb ⊢
      replace Hx := Lib.hid (Hx.out.below hb)
      replace Hy := Lib.hid (Hy.out.below hb)
      have HB0 := Lib.hid hb
      have E0 := Lib.hid e0
      have E1 := Lib.hid e1
      clear hS hb hsz e0 e1
      have k_E0_0 := E0.out.cell 0
      have k_E0_1 := E0.out.cell 1
      have k_E1_0 := E1.out.cell 0
      have k_E1_1 := E1.out.cell 1
      go_wp2_with fail
      with_reducible refine (HSx.out _ _ Hx.out).mono ?_
      rintro e w1 ⟨rfl, hb⟩
      clear k_E0_0 k_E0_1 k_E1_0 k_E1_1
      replace Hx := Lib.hid (Hx.out.below hb)
      replace Hy := Lib.hid (Hy.out.below hb)
      replace E0 := Lib.hid (blk_below E0.out hb)
      replace E1 := Lib.hid (blk_below E1.out hb)
      replace HB0 := Lib.hid (cbt HB0.out hb)
      clear hb
      have k_E0_0 := E0.out.cell 0
      have k_E0_1 := E0.out.cell 1
      have k_E1_0 := E1.out.cell 0
      have k_E1_1 := E1.out.cell 1
      go_wp2_with fail
      with_reducible refine (HSy.out _ _ Hy.out).mono ?_
      rintro e w1 ⟨rfl, hb⟩
      clear k_E0_0 k_E0_1 k_E1_0 k_E1_1
      replace Hx := Lib.hid (Hx.out.below hb)
      replace Hy := Lib.hid (Hy.out.below hb)
      replace E0 := Lib.hid (blk_below E0.out hb)
      replace E1 := Lib.hid (blk_below E1.out hb)
      replace HB0 := Lib.hid (cbt HB0.out hb)
      clear hb
      have k_E0_0 := E0.out.cell 0
      have k_E0_1 := E0.out.cell 1
      have k_E1_0 := E1.out.cell 0
      have k_E1_1 := E1.out.cell 1
      go_wp2_with fail
      clear k_E0_0 k_E0_1 k_E1_0 k_E1_1
      let FS : List Kept1 := [.frc (lx) (mx), .f (a.1) (a.2), .frc (ly) (my), .f (b.1) (b.2), .any, .any, .any, .any]
      let BS : List Bx := [Bx.rat (.inl 4) 6 #[.slice none 0 0, .slice none 0 0] (a.1) (a.2), Bx.rat (.inl 5) 7 #[.slice none 0 0, .slice none 0 0] (b.1) (b.2)]
      refine region_mono (Held w1 (fun j => FS.getD j .any) BS) (by kernel_rfl) (by kernel_rfl) (by kernel_rfl) (Held.start _ _ _ (by simp [BS, Bx.nat, Bx.rat, Bx.ref]) (by simp [BS, Bx.nat, Bx.rat, Bx.ref])) ?_
      refine Steps.held ?_ ?_
      · intro L v w' hJ
        have kb := hJ.out.blk E0.out (by simp [oldsOf, BS, Bx.nat, Bx.rat, Bx.ref])
        have k0 := kb.cell 0
        have k1 := kb.cell 1
        clear kb
        go_wp2_with fail
        exact ⟨rfl, rfl, hJ.out.same (by rfl) (Hx.out.keep hJ.out.held.keep)⟩
      simp only [Act.put, List.setIfInBounds_toArray, List.set_cons_zero, List.set_cons_succ, Nat.reduceAdd]
      refine Steps.held ?_ ?_
      · intro L v w' hJ
        have X0 := Lib.hid (show Frc w' (v 0) (lx) (mx) from hJ.out.fact 0 (by kernel_rfl))
        go_wp2_with fail
        with_reducible refine (HTa.out _ _ X0.out).mono ?_
        rintro e w1 ⟨u, rfl, hu, hb⟩
        go_wp2_with fail
        exact ⟨rfl, rfl, hJ.out.call (by rfl) hb (hu)⟩
      simp only [Act.put, List.setIfInBounds_toArray, List.set_cons_zero, List.set_cons_succ, Nat.reduceAdd]
      refine Steps.held ?_ ?_
      · intro L v w' hJ
        have kb := hJ.out.blk E1.out (by simp [oldsOf, BS, Bx.nat, Bx.rat, Bx.ref])
        have k0 := kb.cell 0
        have k1 := kb.cell 1
        clear kb
        go_wp2_with fail
        exact ⟨rfl, rfl, hJ.out.same (by rfl) (Hy.out.keep hJ.out.held.keep)⟩
      simp only [Act.put, List.setIfInBounds_toArray, List.set_cons_zero, List.set_cons_succ, Nat.reduceAdd]
      refine Steps.held ?_ ?_
      · intro L v w' hJ
        have X0 := Lib.hid (show Frc w' (v 2) (ly) (my) from hJ.out.fact 2 (by kernel_rfl))
        go_wp2_with fail
        with_reducible refine (HTb.out _ _ X0.out).mono ?_
        rintro e w1 ⟨u, rfl, hu, hb⟩
        go_wp2_with fail
        exact ⟨rfl, rfl, hJ.out.call (by rfl) hb (hu)⟩
      simp only [Act.put, List.setIfInBounds_toArray, List.set_cons_zero, List.set_cons_succ, Nat.reduceAdd]
      refine Steps.held ?_ ?_
      · intro L v w' hJ
        go_wp2_with fail
        exact ⟨rfl, rfl, hJ.out.made 0 _ rfl rfl (by rfl) trivial⟩
      simp only [Act.put, List.setIfInBounds_toArray, List.set_cons_zero, List.set_cons_succ, Nat.reduceAdd]
      refine Steps.held ?_ ?_
      · intro L v w' hJ
        go_wp2_with fail
        exact ⟨rfl, rfl, hJ.out.made 1 _ rfl rfl (by rfl) trivial⟩
      simp only [Act.put, List.setIfInBounds_toArray, List.set_cons_zero, List.set_cons_succ, Nat.reduceAdd]
      refine Steps.held ?_ ?_
      · intro L v w' hJ
        obtain ⟨g, hg, hge, hown, hst⟩ := hJ.out.newbox 0 _ rfl 4 rfl (by kernel_rfl)
        have hN : F64 w' (v 1) (a.1) (a.2) := hJ.out.fact 1 (by kernel_rfl)
        obtain ⟨A1, p1, c1, B1, q1, e1, x1, hv, h1, h2, h3⟩ := hN
        have HN := Lib.hid (show F64 w' (.agg #[.slice A1 p1 c1, .slice B1 q1 e1]) (a.1) (a.2) from ⟨A1, p1, c1, B1, q1, e1, x1, rfl, h1, h2, h3⟩)
        have kb := hJ.out.box 0 _ rfl rfl g hown
        have k0 : w'.cell? ⟨g, 0, none⟩ = some (.slice none 0 0) := kb.cell 0
        have k1 : w'.cell? ⟨g, 1, none⟩ = some (.slice none 0 0) := kb.cell 1
        have f0 := kb.frozen 0
        have f1 := kb.frozen 1
        have HO := Lib.hid hown
        have HS := Lib.hid hst
        clear kb h1 h2 h3 hown hst
        simp only [hg, hv]
        clear hg hv
        go_wp2_with fail
        exact ⟨rfl, rfl, hJ.out.fill2 0 _ rfl rfl (by rfl) g HO.out HS.out _ _ rfl rfl rfl (fun W k => HN.out.keep k) (fun _ => trivial)⟩
      simp only [Act.put, List.setIfInBounds_toArray, List.set_cons_zero, List.set_cons_succ, Nat.reduceAdd]
      refine Steps.held ?_ ?_
      · intro L v w' hJ
        obtain ⟨g, hg, hge, hown, hst⟩ := hJ.out.newbox 1 _ rfl 5 rfl (by kernel_rfl)
        have hN : F64 w' (v 3) (b.1) (b.2) := hJ.out.fact 3 (by kernel_rfl)
        obtain ⟨A1, p1, c1, B1, q1, e1, x1, hv, h1, h2, h3⟩ := hN
        have HN := Lib.hid (show F64 w' (.agg #[.slice A1 p1 c1, .slice B1 q1 e1]) (b.1) (b.2) from ⟨A1, p1, c1, B1, q1, e1, x1, rfl, h1, h2, h3⟩)
        have kb := hJ.out.box 1 _ rfl rfl g hown
        have k0 : w'.cell? ⟨g, 0, none⟩ = some (.slice none 0 0) := kb.cell 0
        have k1 : w'.cell? ⟨g, 1, none⟩ = some (.slice none 0 0) := kb.cell 1
        have f0 := kb.frozen 0
        have f1 := kb.frozen 1
        have HO := Lib.hid hown
        have HS := Lib.hid hst
        clear kb h1 h2 h3 hown hst
        simp only [hg, hv]
        clear hg hv
        go_wp2_with fail
        exact ⟨rfl, rfl, hJ.out.fill2 1 _ rfl rfl (by rfl) g HO.out HS.out _ _ rfl rfl rfl (fun W k => HN.out.keep k) (fun _ => trivial)⟩
      simp only [Act.put, List.setIfInBounds_toArray, List.set_cons_zero, List.set_cons_succ, Nat.reduceAdd]
      refine Steps.nil ?_
      intro v w' hJ
      obtain ⟨g5, cs4, hv4, hge4, hb4, hf4⟩ := hJ.end_new 0 _ rfl 4 rfl (by decide) (Nat.le_of_ble_eq_true rfl)
      have hfx : F64 w' (.agg cs4) a.1 a.2 := hf4
      obtain ⟨A4, p4, c4, B4, q4, e4, x4, hcs4, h1, h2, h3⟩ := hfx
      have hcs4' := Value.agg.inj hcs4
      subst hcs4'
      simp only [hv4]
      have E5 := Lib.hid (show Blk w' g5 47 #[.slice A4 p4 c4, .slice B4 q4 e4] from hb4)
      have NE5 := Lib.hid (show F64 w' (.agg #[.slice A4 p4 c4, .slice B4 q4 e4]) a.1 a.2 from hf4)
      clear hv4 hb4 hf4 hcs4 h1 h2
      obtain ⟨g6, cs5, hv5, hge5, hb5, hf5⟩ := hJ.end_new 1 _ rfl 5 rfl (by decide) (Nat.le_of_ble_eq_true rfl)
      have hfx : F64 w' (.agg cs5) b.1 b.2 := hf5
      obtain ⟨A5, p5, c5, B5, q5, e5, x5, hcs5, h1, h2, h3⟩ := hfx
      have hcs5' := Value.agg.inj hcs5
      subst hcs5'
      simp only [hv5]
      have E6 := Lib.hid (show Blk w' g6 47 #[.slice A5 p5 c5, .slice B5 q5 e5] from hb5)
      have NE6 := Lib.hid (show F64 w' (.agg #[.slice A5 p5 c5, .slice B5 q5 e5]) b.1 b.2 from hf5)
      clear hv5 hb5 hf5 hcs5 h1 h2
      have hbr := hJ.but.below
      replace Hx := Lib.hid (Hx.out.below hbr)
      replace Hy := Lib.hid (Hy.out.below hbr)
      replace E0 := Lib.hid (blk_below E0.out hbr)
      replace E1 := Lib.hid (blk_below E1.out hbr)
      replace HB0 := Lib.hid (cbt HB0.out hbr)
      clear hJ hbr
      go_wp2_with fail
      let FS : List Kept1 := [.frc (lx) (mx), .rf (a.1) (a.2), .frc (ly) (my), .rf (b.1) (b.2), .any, .any, .any, .any]
      let BS : List Bx := [Bx.ref (.inl 4) 6 #[.slice none 0 0, .slice none 0 0] (a.1) (a.2), Bx.ref (.inl 5) 7 #[.slice none 0 0, .slice none 0 0] (b.1) (b.2)]
      refine region_mono (Held w' (fun j => FS.getD j .any) BS) (by kernel_rfl) (by kernel_rfl) (by kernel_rfl) (Held.start _ _ _ (by simp [BS, Bx.nat, Bx.rat, Bx.ref]) (by simp [BS, Bx.nat, Bx.rat, Bx.ref])) ?_
      refine Steps.held ?_ ?_
      · intro L v w' hJ
        have kb := hJ.out.blk E0.out (by simp [oldsOf, BS, Bx.nat, Bx.rat, Bx.ref])
        have k0 := kb.cell 0
        have k1 := kb.cell 1
        clear kb
        go_wp2_with fail
        exact ⟨rfl, rfl, hJ.out.same (by rfl) (Hx.out.keep hJ.out.held.keep)⟩
      simp only [Act.put, List.setIfInBounds_toArray, List.set_cons_zero, List.set_cons_succ, Nat.reduceAdd]
      refine Steps.held ?_ ?_
      · intro L v w' hJ
        have X0 := Lib.hid (show Frc w' (v 0) (lx) (mx) from hJ.out.fact 0 (by kernel_rfl))
        go_wp2_with fail
        with_reducible refine (HRa.out _ _ X0.out).mono ?_
        rintro e w1 ⟨u, rfl, hu, hb⟩
        go_wp2_with fail
        exact ⟨rfl, rfl, hJ.out.call (by rfl) hb (hu)⟩
      simp only [Act.put, List.setIfInBounds_toArray, List.set_cons_zero, List.set_cons_succ, Nat.reduceAdd]
      refine Steps.held ?_ ?_
      · intro L v w' hJ
        have kb := hJ.out.blk E1.out (by simp [oldsOf, BS, Bx.nat, Bx.rat, Bx.ref])
        have k0 := kb.cell 0
        have k1 := kb.cell 1
        clear kb
        go_wp2_with fail
        exact ⟨rfl, rfl, hJ.out.same (by rfl) (Hy.out.keep hJ.out.held.keep)⟩
      simp only [Act.put, List.setIfInBounds_toArray, List.set_cons_zero, List.set_cons_succ, Nat.reduceAdd]
      refine Steps.held ?_ ?_
      · intro L v w' hJ
        have X0 := Lib.hid (show Frc w' (v 2) (ly) (my) from hJ.out.fact 2 (by kernel_rfl))
        go_wp2_with fail
        with_reducible refine (HRb.out _ _ X0.out).mono ?_
        rintro e w1 ⟨u, rfl, hu, hb⟩
        go_wp2_with fail
        exact ⟨rfl, rfl, hJ.out.call (by rfl) hb (hu)⟩
      simp only [Act.put, List.setIfInBounds_toArray, List.set_cons_zero, List.set_cons_succ, Nat.reduceAdd]
      refine Steps.held ?_ ?_
      · intro L v w' hJ
        go_wp2_with fail
        exact ⟨rfl, rfl, hJ.out.made 0 _ rfl rfl (by rfl) trivial⟩
      simp only [Act.put, List.setIfInBounds_toArray, List.set_cons_zero, List.set_cons_succ, Nat.reduceAdd]
      refine Steps.held ?_ ?_
      · intro L v w' hJ
        go_wp2_with fail
        exact ⟨rfl, rfl, hJ.out.made 1 _ rfl rfl (by rfl) trivial⟩
      simp only [Act.put, List.setIfInBounds_toArray, List.set_cons_zero, List.set_cons_succ, Nat.reduceAdd]
      refine Steps.held ?_ ?_
      · intro L v w' hJ
        obtain ⟨g, hg, hge, hown, hst⟩ := hJ.out.newbox 0 _ rfl 4 rfl (by kernel_rfl)
        have hN : RF w' (v 1) (a.1) (a.2) := hJ.out.fact 1 (by kernel_rfl)
        obtain ⟨A1, p1, c1, B1, q1, e1, hv, h1, h2⟩ := hN
        have HN := Lib.hid (show RF w' (.agg #[.slice A1 p1 c1, .slice B1 q1 e1]) (a.1) (a.2) from ⟨A1, p1, c1, B1, q1, e1, rfl, h1, h2⟩)
        have kb := hJ.out.box 0 _ rfl rfl g hown
        have k0 : w'.cell? ⟨g, 0, none⟩ = some (.slice none 0 0) := kb.cell 0
        have k1 : w'.cell? ⟨g, 1, none⟩ = some (.slice none 0 0) := kb.cell 1
        have f0 := kb.frozen 0
        have f1 := kb.frozen 1
        have HO := Lib.hid hown
        have HS := Lib.hid hst
        clear kb h1 h2 hown hst
        simp only [hg, hv]
        clear hg hv
        go_wp2_with fail
        exact ⟨rfl, rfl, hJ.out.fill2 0 _ rfl rfl (by rfl) g HO.out HS.out _ _ rfl rfl rfl (fun W k => HN.out.keep k) (fun _ => trivial)⟩
      simp only [Act.put, List.setIfInBounds_toArray, List.set_cons_zero, List.set_cons_succ, Nat.reduceAdd]
      refine Steps.held ?_ ?_
      · intro L v w' hJ
        obtain ⟨g, hg, hge, hown, hst⟩ := hJ.out.newbox 1 _ rfl 5 rfl (by kernel_rfl)
        have hN : RF w' (v 3) (b.1) (b.2) := hJ.out.fact 3 (by kernel_rfl)
        obtain ⟨A1, p1, c1, B1, q1, e1, hv, h1, h2⟩ := hN
        have HN := Lib.hid (show RF w' (.agg #[.slice A1 p1 c1, .slice B1 q1 e1]) (b.1) (b.2) from ⟨A1, p1, c1, B1, q1, e1, rfl, h1, h2⟩)
        have kb := hJ.out.box 1 _ rfl rfl g hown
        have k0 : w'.cell? ⟨g, 0, none⟩ = some (.slice none 0 0) := kb.cell 0
        have k1 : w'.cell? ⟨g, 1, none⟩ = some (.slice none 0 0) := kb.cell 1
        have f0 := kb.frozen 0
        have f1 := kb.frozen 1
        have HO := Lib.hid hown
        have HS := Lib.hid hst
        clear kb h1 h2 hown hst
        simp only [hg, hv]
        clear hg hv
        go_wp2_with fail
        exact ⟨rfl, rfl, hJ.out.fill2 1 _ rfl rfl (by rfl) g HO.out HS.out _ _ rfl rfl rfl (fun W k => HN.out.keep k) (fun _ => trivial)⟩
      simp only [Act.put, List.setIfInBounds_toArray, List.set_cons_zero, List.set_cons_succ, Nat.reduceAdd]
      refine Steps.nil ?_
      intro v w' hJ
      obtain ⟨g7, cs4, hv4, hge7, hb4, hf4⟩ := hJ.end_new 0 _ rfl 4 rfl (by decide) (Nat.le_of_ble_eq_true rfl)
      have hfx : RF w' (.agg cs4) a.1 a.2 := hf4
      obtain ⟨A7, p7, c7, B7, q7, e7, hcs4, h1, h2⟩ := hfx
      have hcs4' := Value.agg.inj hcs4
      subst hcs4'
      simp only [hv4]
      have E7 := Lib.hid (show Blk w' g7 52 #[.slice A7 p7 c7, .slice B7 q7 e7] from hb4)
      have NE7 := Lib.hid (show RF w' (.agg #[.slice A7 p7 c7, .slice B7 q7 e7]) a.1 a.2 from hf4)
      clear hv4 hb4 hf4 hcs4 h1 h2
      obtain ⟨g8, cs5, hv5, hge8, hb5, hf5⟩ := hJ.end_new 1 _ rfl 5 rfl (by decide) (Nat.le_of_ble_eq_true rfl)
      have hfx : RF w' (.agg cs5) b.1 b.2 := hf5
      obtain ⟨A8, p8, c8, B8, q8, e8, hcs5, h1, h2⟩ := hfx
      have hcs5' := Value.agg.inj hcs5
      subst hcs5'
      simp only [hv5]
      have E8 := Lib.hid (show Blk w' g8 52 #[.slice A8 p8 c8, .slice B8 q8 e8] from hb5)
      have NE8 := Lib.hid (show RF w' (.agg #[.slice A8 p8 c8, .slice B8 q8 e8]) b.1 b.2 from hf5)
      clear hv5 hb5 hf5 hcs5 h1 h2
      have hbr := hJ.but.below
      replace NE5 := Lib.hid (NE5.out.below hbr)
      replace NE6 := Lib.hid (NE6.out.below hbr)
      replace E5 := Lib.hid (blk_below E5.out hbr)
      replace E6 := Lib.hid (blk_below E6.out hbr)
      replace HB0 := Lib.hid (cbt HB0.out hbr)
      clear hJ hbr
      have k_E5_0 := E5.out.cell 0
      have k_E5_1 := E5.out.cell 1
      have k_E6_0 := E6.out.cell 0
      have k_E6_1 := E6.out.cell 1
      have k_E7_0 := E7.out.cell 0
      have k_E7_1 := E7.out.cell 1
      have k_E8_0 := E8.out.cell 0
      have k_E8_1 := E8.out.cell 1
      have HROW := Lib.hid (RowF.two (Blk.new w' 47 #[.slice A4 p4 c4, .slice B4 q4 e4, .slice A5 p5 c5, .slice B5 q5 e5]) (NE5.out.below (cba (Below.refl _ w') (.cells #[.slice A4 p4 c4, .slice B4 q4 e4, .slice A5 p5 c5, .slice B5 q5 e5] 47))) (NE6.out.below (cba (Below.refl _ w') (.cells #[.slice A4 p4 c4, .slice B4 q4 e4, .slice A5 p5 c5, .slice B5 q5 e5] 47))))
      go_wp2_with fail
      with_reducible refine (HAD.out _ _ HROW.out).mono ?_
      rintro e w4 ⟨u9, rfl, hu, hb'⟩
      have hb := cbt (cba (Below.refl _ w') (.cells #[.slice A4 p4 c4, .slice B4 q4 e4, .slice A5 p5 c5, .slice B5 q5 e5] 47)) hb'
      clear hb' HROW
      clear k_E5_0 k_E5_1 k_E6_0 k_E6_1 k_E7_0 k_E7_1 k_E8_0 k_E8_1
      replace NE5 := Lib.hid (NE5.out.below hb)
      replace NE6 := Lib.hid (NE6.out.below hb)
      replace NE7 := Lib.hid (NE7.out.below hb)
      replace NE8 := Lib.hid (NE8.out.below hb)
      replace E5 := Lib.hid (blk_below E5.out hb)
      replace E6 := Lib.hid (blk_below E6.out hb)
      replace E7 := Lib.hid (blk_below E7.out hb)
      replace E8 := Lib.hid (blk_below E8.out hb)
      replace HB0 := Lib.hid (cbt HB0.out hb)
      have NS := Lib.hid hu
      clear hb hu
      have k_E5_0 := E5.out.cell 0
      have k_E5_1 := E5.out.cell 1
      have k_E6_0 := E6.out.cell 0
      have k_E6_1 := E6.out.cell 1
      have k_E7_0 := E7.out.cell 0
      have k_E7_1 := E7.out.cell 1
      have k_E8_0 := E8.out.cell 0
      have k_E8_1 := E8.out.cell 1
      have Z0 := NS.out
      obtain ⟨AT0, pT0, cT0, BT0, qT0, eT0, xT0, rfl, _, _, _⟩ := Z0
      have e9 := Blk.new w4 47 #[.slice AT0 pT0 cT0, .slice BT0 qT0 eT0]
      have hb := cba (Below.refl _ w4) (.cells #[.slice AT0 pT0 cT0, .slice BT0 qT0 eT0] 47)
      go_upto_region 6 with (fail)
      obtain ⟨T, hS⟩ : ∃ S, (w4.alloc (.cells #[.slice AT0 pT0 cT0, .slice BT0 qT0 eT0] 47)) = S := ⟨_, rfl⟩
      rw [hS] at e9 hb ⊢
      obtain ⟨g9, hg⟩ : ∃ g, w4.heap.size = g := ⟨_, rfl⟩
      rw [hg] at e9
      simp only [hg]
      replace NE5 := Lib.hid (NE5.out.below hb)
      replace NE6 := Lib.hid (NE6.out.below hb)
      replace NE7 := Lib.hid (NE7.out.below hb)
      replace NE8 := Lib.hid (NE8.out.below hb)
      replace NS := Lib.hid (NS.out.below hb)
      replace E5 := Lib.hid (blk_below E5.out hb)
      replace E6 := Lib.hid (blk_below E6.out hb)
      replace E7 := Lib.hid (blk_below E7.out hb)
      replace E8 := Lib.hid (blk_below E8.out hb)
      replace HB0 := Lib.hid (cbt HB0.out hb)
      have E9 := Lib.hid e9
      clear hS hg hb e9 k_E5_0 k_E5_1 k_E6_0 k_E6_1 k_E7_0 k_E7_1 k_E8_0 k_E8_1
      let FS : List Kept1 := [.f (s.1) (s.2), .rf (a.1) (a.2), .rf (b.1) (b.2), .rf (s.1) (s.2), .eq (.bool true), .eq (.bool true), .f (a.1) (a.2), .f (b.1) (b.2), .f (l.1) (l.2), .rf (a.1) (a.2), .rf (b.1) (b.2), .rf (l.1) (l.2), .eq (.bool true), .eq (.bool true), .eq (.bool true), .f (s.1) (s.2), .f (b.1) (b.2), .f (u.1) (u.2), .f (a.1) (a.2), .eq (.int .i64 0), .eq (.bool true), .eq (.bool true), .eq (.bool true), .f (0) (1), .rf (0) (1), .eq (.bool true), .eq (.bool true), .eq (.bool true), .f (a.1) (a.2), .f (b.1) (b.2), .f (a.1) (a.2), .rats 3 (ofL [a, b, a]), .f (r.1) (r.2), .f (s.1) (s.2), .f (a.1) (a.2), .rats 2 (ofL [s, a]), .f (r.1) (r.2), .eq (.int .i64 0), .eq (.bool true), .eq (.bool true), .eq (.bool true), .eq (.bool true), .eq (.bool true), .eq (.bool true)]
      refine region_mono (Held T (fun j => FS.getD j .any) []) (by kernel_rfl) (by kernel_rfl) (by kernel_rfl) (Held.start _ _ _ (by simp) (by simp)) ?_
      refine Steps.held ?_ ?_
      · intro L v w' hJ
        have kb := hJ.out.blk E9.out (by simp [oldsOf])
        have k0 := kb.cell 0
        have k1 := kb.cell 1
        clear kb
        go_wp2_with fail
        exact ⟨rfl, rfl, hJ.out.same (by rfl) (NS.out.keep hJ.out.held.keep)⟩
      simp only [Act.put, List.setIfInBounds_toArray, List.set_cons_zero, List.set_cons_succ, Nat.reduceAdd]
      refine Steps.held ?_ ?_
      · intro L v w' hJ
        have kb := hJ.out.blk E7.out (by simp [oldsOf])
        have k0 := kb.cell 0
        have k1 := kb.cell 1
        clear kb
        go_wp2_with fail
        exact ⟨rfl, rfl, hJ.out.same (by rfl) (NE7.out.keep hJ.out.held.keep)⟩
      simp only [Act.put, List.setIfInBounds_toArray, List.set_cons_zero, List.set_cons_succ, Nat.reduceAdd]
      refine Steps.held ?_ ?_
      · intro L v w' hJ
        have kb := hJ.out.blk E8.out (by simp [oldsOf])
        have k0 := kb.cell 0
        have k1 := kb.cell 1
        clear kb
        go_wp2_with fail
        exact ⟨rfl, rfl, hJ.out.same (by rfl) (NE8.out.keep hJ.out.held.keep)⟩
      simp only [Act.put, List.setIfInBounds_toArray, List.set_cons_zero, List.set_cons_succ, Nat.reduceAdd]
      refine Steps.held ?_ ?_
      · intro L v w' hJ
        have X0 := Lib.hid (show RF w' (v 1) (a.1) (a.2) from hJ.out.fact 1 (by kernel_rfl))
        have X1 := Lib.hid (show RF w' (v 2) (b.1) (b.2) from hJ.out.fact 2 (by kernel_rfl))
        go_wp2_with fail
        with_reducible refine (HXA.out _ _ _ X0.out X1.out).mono ?_
        rintro e w1 ⟨u, rfl, hu, hb⟩
        go_wp2_with fail
        exact ⟨rfl, rfl, hJ.out.call (by rfl) hb (hu)⟩
      simp only [Act.put, List.setIfInBounds_toArray, List.set_cons_zero, List.set_cons_succ, Nat.reduceAdd]
      refine Steps.held ?_ ?_
      · intro L v w' hJ
        have X0 := Lib.hid (show F64 w' (v 0) (s.1) (s.2) from hJ.out.fact 0 (by kernel_rfl))
        have X1 := Lib.hid (show RF w' (v 3) (s.1) (s.2) from hJ.out.fact 3 (by kernel_rfl))
        go_wp2_with fail
        with_reducible refine (HIS.out _ _ _ X0.out X1.out).mono ?_
        rintro e w1 ⟨rfl, hb⟩
        go_wp2_with fail
        exact ⟨rfl, rfl, hJ.out.call (by rfl) hb (rfl)⟩
      simp only [Act.put, List.setIfInBounds_toArray, List.set_cons_zero, List.set_cons_succ, Nat.reduceAdd]
      refine Steps.held ?_ ?_
      · intro L v w' hJ
        have hv4 : v 4 = .bool true := hJ.out.fact 4 (by kernel_rfl)
        simp only [hv4]
        clear hv4
        go_wp2_with fail
        exact ⟨rfl, rfl, hJ.out.same (by rfl) (rfl)⟩
      simp only [Act.put, List.setIfInBounds_toArray, List.set_cons_zero, List.set_cons_succ, Nat.reduceAdd]
      refine Steps.held ?_ ?_
      · intro L v w' hJ
        have hv5 : v 5 = .bool true := hJ.out.fact 5 (by kernel_rfl)
        simp only [hv5]
        clear hv5
        have kb := hJ.out.blk E5.out (by simp [oldsOf])
        have k0 := kb.cell 0
        have k1 := kb.cell 1
        clear kb
        go_wp2_with fail
        exact ⟨rfl, rfl, hJ.out.same (by rfl) (NE5.out.keep hJ.out.held.keep)⟩
      simp only [Act.put, List.setIfInBounds_toArray, List.set_cons_zero, List.set_cons_succ, Nat.reduceAdd]
      refine Steps.held ?_ ?_
      · intro L v w' hJ
        have hv5 : v 5 = .bool true := hJ.out.fact 5 (by kernel_rfl)
        simp only [hv5]
        clear hv5
        have kb := hJ.out.blk E6.out (by simp [oldsOf])
        have k0 := kb.cell 0
        have k1 := kb.cell 1
        clear kb
        go_wp2_with fail
        exact ⟨rfl, rfl, hJ.out.same (by rfl) (NE6.out.keep hJ.out.held.keep)⟩
      simp only [Act.put, List.setIfInBounds_toArray, List.set_cons_zero, List.set_cons_succ, Nat.reduceAdd]
      refine Steps.held ?_ ?_
      · intro L v w' hJ
        have hv5 : v 5 = .bool true := hJ.out.fact 5 (by kernel_rfl)
        simp only [hv5]
        clear hv5
        have X0 := Lib.hid (show F64 w' (v 6) (a.1) (a.2) from hJ.out.fact 6 (by kernel_rfl))
        have X1 := Lib.hid (show F64 w' (v 7) (b.1) (b.2) from hJ.out.fact 7 (by kernel_rfl))
        go_wp2_with fail
        with_reducible refine (HLE.out _ _ _ X0.out X1.out).mono ?_
        rintro e w1 ⟨u, rfl, hu, hb⟩
        go_wp2_with fail
        exact ⟨rfl, rfl, hJ.out.call (by rfl) hb (hu)⟩
      simp only [Act.put, List.setIfInBounds_toArray, List.set_cons_zero, List.set_cons_succ, Nat.reduceAdd]
      refine Steps.held ?_ ?_
      · intro L v w' hJ
        have hv5 : v 5 = .bool true := hJ.out.fact 5 (by kernel_rfl)
        simp only [hv5]
        clear hv5
        have kb := hJ.out.blk E7.out (by simp [oldsOf])
        have k0 := kb.cell 0
        have k1 := kb.cell 1
        clear kb
        go_wp2_with fail
        exact ⟨rfl, rfl, hJ.out.same (by rfl) (NE7.out.keep hJ.out.held.keep)⟩
      simp only [Act.put, List.setIfInBounds_toArray, List.set_cons_zero, List.set_cons_succ, Nat.reduceAdd]
      refine Steps.held ?_ ?_
      · intro L v w' hJ
        have hv5 : v 5 = .bool true := hJ.out.fact 5 (by kernel_rfl)
        simp only [hv5]
        clear hv5
        have kb := hJ.out.blk E8.out (by simp [oldsOf])
        have k0 := kb.cell 0
        have k1 := kb.cell 1
        clear kb
        go_wp2_with fail
        exact ⟨rfl, rfl, hJ.out.same (by rfl) (NE8.out.keep hJ.out.held.keep)⟩
      simp only [Act.put, List.setIfInBounds_toArray, List.set_cons_zero, List.set_cons_succ, Nat.reduceAdd]
      refine Steps.held ?_ ?_
      · intro L v w' hJ
        have hv5 : v 5 = .bool true := hJ.out.fact 5 (by kernel_rfl)
        simp only [hv5]
        clear hv5
        have X0 := Lib.hid (show RF w' (v 9) (a.1) (a.2) from hJ.out.fact 9 (by kernel_rfl))
        have X1 := Lib.hid (show RF w' (v 10) (b.1) (b.2) from hJ.out.fact 10 (by kernel_rfl))
        go_wp2_with fail
        with_reducible refine (HXL.out _ _ _ X0.out X1.out).mono ?_
        rintro e w1 ⟨u, rfl, hu, hb⟩
        go_wp2_with fail
        exact ⟨rfl, rfl, hJ.out.call (by rfl) hb (hu)⟩
      simp only [Act.put, List.setIfInBounds_toArray, List.set_cons_zero, List.set_cons_succ, Nat.reduceAdd]
      refine Steps.held ?_ ?_
      · intro L v w' hJ
        have hv5 : v 5 = .bool true := hJ.out.fact 5 (by kernel_rfl)
        simp only [hv5]
        clear hv5
        have X0 := Lib.hid (show F64 w' (v 8) (l.1) (l.2) from hJ.out.fact 8 (by kernel_rfl))
        have X1 := Lib.hid (show RF w' (v 11) (l.1) (l.2) from hJ.out.fact 11 (by kernel_rfl))
        go_wp2_with fail
        with_reducible refine (HIL.out _ _ _ X0.out X1.out).mono ?_
        rintro e w1 ⟨rfl, hb⟩
        go_wp2_with fail
        exact ⟨rfl, rfl, hJ.out.call (by rfl) hb (rfl)⟩
      simp only [Act.put, List.setIfInBounds_toArray, List.set_cons_zero, List.set_cons_succ, Nat.reduceAdd]
      refine Steps.held ?_ ?_
      · intro L v w' hJ
        have hv5 : v 5 = .bool true := hJ.out.fact 5 (by kernel_rfl)
        simp only [hv5]
        clear hv5
        have hv12 : v 12 = .bool true := hJ.out.fact 12 (by kernel_rfl)
        simp only [hv12]
        clear hv12
        go_wp2_with fail
        exact ⟨rfl, rfl, hJ.out.same (by rfl) (rfl)⟩
      simp only [Act.put, List.setIfInBounds_toArray, List.set_cons_zero, List.set_cons_succ, Nat.reduceAdd]
      refine Steps.held ?_ ?_
      · intro L v w' hJ
        have hv13 : v 13 = .bool true := hJ.out.fact 13 (by kernel_rfl)
        simp only [hv13]
        clear hv13
        go_wp2_with fail
        exact ⟨rfl, rfl, hJ.out.same (by rfl) (rfl)⟩
      simp only [Act.put, List.setIfInBounds_toArray, List.set_cons_zero, List.set_cons_succ, Nat.reduceAdd]
      refine Steps.held ?_ ?_
      · intro L v w' hJ
        have hv14 : v 14 = .bool true := hJ.out.fact 14 (by kernel_rfl)
        simp only [hv14]
        clear hv14
        have kb := hJ.out.blk E9.out (by simp [oldsOf])
        have k0 := kb.cell 0
        have k1 := kb.cell 1
        clear kb
        go_wp2_with fail
        exact ⟨rfl, rfl, hJ.out.same (by rfl) (NS.out.keep hJ.out.held.keep)⟩
      simp only [Act.put, List.setIfInBounds_toArray, List.set_cons_zero, List.set_cons_succ, Nat.reduceAdd]
      refine Steps.held ?_ ?_
      · intro L v w' hJ
        have hv14 : v 14 = .bool true := hJ.out.fact 14 (by kernel_rfl)
        simp only [hv14]
        clear hv14
        have kb := hJ.out.blk E6.out (by simp [oldsOf])
        have k0 := kb.cell 0
        have k1 := kb.cell 1
        clear kb
        go_wp2_with fail
        exact ⟨rfl, rfl, hJ.out.same (by rfl) (NE6.out.keep hJ.out.held.keep)⟩
      simp only [Act.put, List.setIfInBounds_toArray, List.set_cons_zero, List.set_cons_succ, Nat.reduceAdd]
      refine Steps.held ?_ ?_
      · intro L v w' hJ
        have hv14 : v 14 = .bool true := hJ.out.fact 14 (by kernel_rfl)
        simp only [hv14]
        clear hv14
        have X0 := Lib.hid (show F64 w' (v 15) (s.1) (s.2) from hJ.out.fact 15 (by kernel_rfl))
        have X1 := Lib.hid (show F64 w' (v 16) (b.1) (b.2) from hJ.out.fact 16 (by kernel_rfl))
        go_wp2_with fail
        with_reducible refine (HL2.out _ _ _ X0.out X1.out).mono ?_
        rintro e w1 ⟨u, rfl, hu, hb⟩
        go_wp2_with fail
        exact ⟨rfl, rfl, hJ.out.call (by rfl) hb (hu)⟩
      simp only [Act.put, List.setIfInBounds_toArray, List.set_cons_zero, List.set_cons_succ, Nat.reduceAdd]
      refine Steps.held ?_ ?_
      · intro L v w' hJ
        have hv14 : v 14 = .bool true := hJ.out.fact 14 (by kernel_rfl)
        simp only [hv14]
        clear hv14
        have kb := hJ.out.blk E5.out (by simp [oldsOf])
        have k0 := kb.cell 0
        have k1 := kb.cell 1
        clear kb
        go_wp2_with fail
        exact ⟨rfl, rfl, hJ.out.same (by rfl) (NE5.out.keep hJ.out.held.keep)⟩
      simp only [Act.put, List.setIfInBounds_toArray, List.set_cons_zero, List.set_cons_succ, Nat.reduceAdd]
      refine Steps.held ?_ ?_
      · intro L v w' hJ
        have hv14 : v 14 = .bool true := hJ.out.fact 14 (by kernel_rfl)
        simp only [hv14]
        clear hv14
        have X0 := Lib.hid (show F64 w' (v 17) (u.1) (u.2) from hJ.out.fact 17 (by kernel_rfl))
        have X1 := Lib.hid (show F64 w' (v 18) (a.1) (a.2) from hJ.out.fact 18 (by kernel_rfl))
        go_wp2_with fail
        with_reducible refine (HC1.out _ _ _ X0.out X1.out).mono ?_
        rintro e w1 ⟨rfl, hb⟩
        go_wp2_with fail
        exact ⟨rfl, rfl, hJ.out.call (by rfl) hb (rfl)⟩
      simp only [Act.put, List.setIfInBounds_toArray, List.set_cons_zero, List.set_cons_succ, Nat.reduceAdd]
      refine Steps.held ?_ ?_
      · intro L v w' hJ
        have hv19 : v 19 = .int .i64 0 := hJ.out.fact 19 (by kernel_rfl)
        simp only [hv19]
        clear hv19
        have hv14 : v 14 = .bool true := hJ.out.fact 14 (by kernel_rfl)
        simp only [hv14]
        clear hv14
        go_wp2_with fail
        exact ⟨rfl, rfl, hJ.out.same (by rfl) (rfl)⟩
      simp only [Act.put, List.setIfInBounds_toArray, List.set_cons_zero, List.set_cons_succ, Nat.reduceAdd]
      refine Steps.held ?_ ?_
      · intro L v w' hJ
        have hv14 : v 14 = .bool true := hJ.out.fact 14 (by kernel_rfl)
        simp only [hv14]
        clear hv14
        have hv20 : v 20 = .bool true := hJ.out.fact 20 (by kernel_rfl)
        simp only [hv20]
        clear hv20
        go_wp2_with fail
        exact ⟨rfl, rfl, hJ.out.same (by rfl) (rfl)⟩
      simp only [Act.put, List.setIfInBounds_toArray, List.set_cons_zero, List.set_cons_succ, Nat.reduceAdd]
      refine Steps.held ?_ ?_
      · intro L v w' hJ
        have hv21 : v 21 = .bool true := hJ.out.fact 21 (by kernel_rfl)
        simp only [hv21]
        clear hv21
        go_wp2_with fail
        exact ⟨rfl, rfl, hJ.out.same (by rfl) (rfl)⟩
      simp only [Act.put, List.setIfInBounds_toArray, List.set_cons_zero, List.set_cons_succ, Nat.reduceAdd]
      refine Steps.held ?_ ?_
      · intro L v w' hJ
        have hv22 : v 22 = .bool true := hJ.out.fact 22 (by kernel_rfl)
        simp only [hv22]
        clear hv22
        go_wp2_with fail
        with_reducible refine (HA0.out _).mono ?_
        rintro e w1 ⟨u, rfl, hu, hb⟩
        go_wp2_with fail
        exact ⟨rfl, rfl, hJ.out.call (by rfl) hb (hu)⟩
      simp only [Act.put, List.setIfInBounds_toArray, List.set_cons_zero, List.set_cons_succ, Nat.reduceAdd]
      refine Steps.held ?_ ?_
      · intro L v w' hJ
        have hv22 : v 22 = .bool true := hJ.out.fact 22 (by kernel_rfl)
        simp only [hv22]
        clear hv22
        go_wp2_with fail
        with_reducible refine (HX0.out _).mono ?_
        rintro e w1 ⟨u, rfl, hu, hb⟩
        go_wp2_with fail
        exact ⟨rfl, rfl, hJ.out.call (by rfl) hb (hu)⟩
      simp only [Act.put, List.setIfInBounds_toArray, List.set_cons_zero, List.set_cons_succ, Nat.reduceAdd]
      refine Steps.held ?_ ?_
      · intro L v w' hJ
        have hv22 : v 22 = .bool true := hJ.out.fact 22 (by kernel_rfl)
        simp only [hv22]
        clear hv22
        have X0 := Lib.hid (show F64 w' (v 23) (0) (1) from hJ.out.fact 23 (by kernel_rfl))
        have X1 := Lib.hid (show RF w' (v 24) (0) (1) from hJ.out.fact 24 (by kernel_rfl))
        go_wp2_with fail
        with_reducible refine (HI0.out _ _ _ X0.out X1.out).mono ?_
        rintro e w1 ⟨rfl, hb⟩
        go_wp2_with fail
        exact ⟨rfl, rfl, hJ.out.call (by rfl) hb (rfl)⟩
      simp only [Act.put, List.setIfInBounds_toArray, List.set_cons_zero, List.set_cons_succ, Nat.reduceAdd]
      refine Steps.held ?_ ?_
      · intro L v w' hJ
        have hv22 : v 22 = .bool true := hJ.out.fact 22 (by kernel_rfl)
        simp only [hv22]
        clear hv22
        have hv25 : v 25 = .bool true := hJ.out.fact 25 (by kernel_rfl)
        simp only [hv25]
        clear hv25
        go_wp2_with fail
        exact ⟨rfl, rfl, hJ.out.same (by rfl) (rfl)⟩
      simp only [Act.put, List.setIfInBounds_toArray, List.set_cons_zero, List.set_cons_succ, Nat.reduceAdd]
      refine Steps.held ?_ ?_
      · intro L v w' hJ
        have hv26 : v 26 = .bool true := hJ.out.fact 26 (by kernel_rfl)
        simp only [hv26]
        clear hv26
        go_wp2_with fail
        exact ⟨rfl, rfl, hJ.out.same (by rfl) (rfl)⟩
      simp only [Act.put, List.setIfInBounds_toArray, List.set_cons_zero, List.set_cons_succ, Nat.reduceAdd]
      refine Steps.held ?_ ?_
      · intro L v w' hJ
        have hv27 : v 27 = .bool true := hJ.out.fact 27 (by kernel_rfl)
        simp only [hv27]
        clear hv27
        have kb := hJ.out.blk E5.out (by simp [oldsOf])
        have k0 := kb.cell 0
        have k1 := kb.cell 1
        clear kb
        go_wp2_with fail
        exact ⟨rfl, rfl, hJ.out.same (by rfl) (NE5.out.keep hJ.out.held.keep)⟩
      simp only [Act.put, List.setIfInBounds_toArray, List.set_cons_zero, List.set_cons_succ, Nat.reduceAdd]
      refine Steps.held ?_ ?_
      · intro L v w' hJ
        have hv27 : v 27 = .bool true := hJ.out.fact 27 (by kernel_rfl)
        simp only [hv27]
        clear hv27
        have kb := hJ.out.blk E6.out (by simp [oldsOf])
        have k0 := kb.cell 0
        have k1 := kb.cell 1
        clear kb
        go_wp2_with fail
        exact ⟨rfl, rfl, hJ.out.same (by rfl) (NE6.out.keep hJ.out.held.keep)⟩
      simp only [Act.put, List.setIfInBounds_toArray, List.set_cons_zero, List.set_cons_succ, Nat.reduceAdd]
      refine Steps.held ?_ ?_
      · intro L v w' hJ
        have hv27 : v 27 = .bool true := hJ.out.fact 27 (by kernel_rfl)
        simp only [hv27]
        clear hv27
        have kb := hJ.out.blk E5.out (by simp [oldsOf])
        have k0 := kb.cell 0
        have k1 := kb.cell 1
        clear kb
        go_wp2_with fail
        exact ⟨rfl, rfl, hJ.out.same (by rfl) (NE5.out.keep hJ.out.held.keep)⟩
      simp only [Act.put, List.setIfInBounds_toArray, List.set_cons_zero, List.set_cons_succ, Nat.reduceAdd]
      refine Steps.held ?_ ?_
      · intro L v w' hJ
        have hv27 : v 27 = .bool true := hJ.out.fact 27 (by kernel_rfl)
        simp only [hv27]
        clear hv27
        have hN0 : F64 w' (v 28) (a.1) (a.2) := hJ.out.fact 28 (by kernel_rfl)
        obtain ⟨A0, p0, c0, B0, q0, e0, x0, hv0, h1, h2, h3⟩ := hN0
        have HN0 := Lib.hid (show F64 w' (.agg #[.slice A0 p0 c0, .slice B0 q0 e0]) (a.1) (a.2) from ⟨A0, p0, c0, B0, q0, e0, x0, rfl, h1, h2, h3⟩)
        clear h1 h2 h3
        have hN1 : F64 w' (v 29) (b.1) (b.2) := hJ.out.fact 29 (by kernel_rfl)
        obtain ⟨A1, p1, c1, B1, q1, e1, x1, hv1, h1, h2, h3⟩ := hN1
        have HN1 := Lib.hid (show F64 w' (.agg #[.slice A1 p1 c1, .slice B1 q1 e1]) (b.1) (b.2) from ⟨A1, p1, c1, B1, q1, e1, x1, rfl, h1, h2, h3⟩)
        clear h1 h2 h3
        have hN2 : F64 w' (v 30) (a.1) (a.2) := hJ.out.fact 30 (by kernel_rfl)
        obtain ⟨A2, p2, c2, B2, q2, e2, x2, hv2, h1, h2, h3⟩ := hN2
        have HN2 := Lib.hid (show F64 w' (.agg #[.slice A2 p2 c2, .slice B2 q2 e2]) (a.1) (a.2) from ⟨A2, p2, c2, B2, q2, e2, x2, rfl, h1, h2, h3⟩)
        clear h1 h2 h3
        simp only [hv0, hv1, hv2]
        clear hv0 hv1 hv2
        go_wp2_with fail
        exact ⟨rfl, rfl, hJ.out.call (by rfl) (cba (Below.refl _ w') _) (RowF.three (Blk.new w' 47 #[.slice A0 p0 c0, .slice B0 q0 e0, .slice A1 p1 c1, .slice B1 q1 e1, .slice A2 p2 c2, .slice B2 q2 e2]) (HN0.out.below (cba (Below.refl _ w') _)) (HN1.out.below (cba (Below.refl _ w') _)) (HN2.out.below (cba (Below.refl _ w') _)))⟩
      simp only [Act.put, List.setIfInBounds_toArray, List.set_cons_zero, List.set_cons_succ, Nat.reduceAdd]
      refine Steps.held ?_ ?_
      · intro L v w' hJ
        have hv27 : v 27 = .bool true := hJ.out.fact 27 (by kernel_rfl)
        simp only [hv27]
        clear hv27
        have X0 := Lib.hid (show RowF w' (v 31) 3 (ofL [a, b, a]) from hJ.out.fact 31 (by kernel_rfl))
        go_wp2_with fail
        with_reducible refine (HA3.out _ _ X0.out).mono ?_
        rintro e w1 ⟨u, rfl, hu, hb⟩
        go_wp2_with fail
        exact ⟨rfl, rfl, hJ.out.call (by rfl) hb (hu)⟩
      simp only [Act.put, List.setIfInBounds_toArray, List.set_cons_zero, List.set_cons_succ, Nat.reduceAdd]
      refine Steps.held ?_ ?_
      · intro L v w' hJ
        have hv27 : v 27 = .bool true := hJ.out.fact 27 (by kernel_rfl)
        simp only [hv27]
        clear hv27
        have kb := hJ.out.blk E9.out (by simp [oldsOf])
        have k0 := kb.cell 0
        have k1 := kb.cell 1
        clear kb
        go_wp2_with fail
        exact ⟨rfl, rfl, hJ.out.same (by rfl) (NS.out.keep hJ.out.held.keep)⟩
      simp only [Act.put, List.setIfInBounds_toArray, List.set_cons_zero, List.set_cons_succ, Nat.reduceAdd]
      refine Steps.held ?_ ?_
      · intro L v w' hJ
        have hv27 : v 27 = .bool true := hJ.out.fact 27 (by kernel_rfl)
        simp only [hv27]
        clear hv27
        have kb := hJ.out.blk E5.out (by simp [oldsOf])
        have k0 := kb.cell 0
        have k1 := kb.cell 1
        clear kb
        go_wp2_with fail
        exact ⟨rfl, rfl, hJ.out.same (by rfl) (NE5.out.keep hJ.out.held.keep)⟩
      simp only [Act.put, List.setIfInBounds_toArray, List.set_cons_zero, List.set_cons_succ, Nat.reduceAdd]
      refine Steps.held ?_ ?_
      · intro L v w' hJ
        have hv27 : v 27 = .bool true := hJ.out.fact 27 (by kernel_rfl)
        simp only [hv27]
        clear hv27
        have hN0 : F64 w' (v 33) (s.1) (s.2) := hJ.out.fact 33 (by kernel_rfl)
        obtain ⟨A0, p0, c0, B0, q0, e0, x0, hv0, h1, h2, h3⟩ := hN0
        have HN0 := Lib.hid (show F64 w' (.agg #[.slice A0 p0 c0, .slice B0 q0 e0]) (s.1) (s.2) from ⟨A0, p0, c0, B0, q0, e0, x0, rfl, h1, h2, h3⟩)
        clear h1 h2 h3
        have hN1 : F64 w' (v 34) (a.1) (a.2) := hJ.out.fact 34 (by kernel_rfl)
        obtain ⟨A1, p1, c1, B1, q1, e1, x1, hv1, h1, h2, h3⟩ := hN1
        have HN1 := Lib.hid (show F64 w' (.agg #[.slice A1 p1 c1, .slice B1 q1 e1]) (a.1) (a.2) from ⟨A1, p1, c1, B1, q1, e1, x1, rfl, h1, h2, h3⟩)
        clear h1 h2 h3
        simp only [hv0, hv1]
        clear hv0 hv1
        go_wp2_with fail
        exact ⟨rfl, rfl, hJ.out.call (by rfl) (cba (Below.refl _ w') _) (RowF.two (Blk.new w' 47 #[.slice A0 p0 c0, .slice B0 q0 e0, .slice A1 p1 c1, .slice B1 q1 e1]) (HN0.out.below (cba (Below.refl _ w') _)) (HN1.out.below (cba (Below.refl _ w') _)))⟩
      simp only [Act.put, List.setIfInBounds_toArray, List.set_cons_zero, List.set_cons_succ, Nat.reduceAdd]
      refine Steps.held ?_ ?_
      · intro L v w' hJ
        have hv27 : v 27 = .bool true := hJ.out.fact 27 (by kernel_rfl)
        simp only [hv27]
        clear hv27
        have X0 := Lib.hid (show RowF w' (v 35) 2 (ofL [s, a]) from hJ.out.fact 35 (by kernel_rfl))
        go_wp2_with fail
        with_reducible refine (HA2.out _ _ X0.out).mono ?_
        rintro e w1 ⟨u, rfl, hu, hb⟩
        go_wp2_with fail
        exact ⟨rfl, rfl, hJ.out.call (by rfl) hb (hu)⟩
      simp only [Act.put, List.setIfInBounds_toArray, List.set_cons_zero, List.set_cons_succ, Nat.reduceAdd]
      refine Steps.held ?_ ?_
      · intro L v w' hJ
        have hv27 : v 27 = .bool true := hJ.out.fact 27 (by kernel_rfl)
        simp only [hv27]
        clear hv27
        have X0 := Lib.hid (show F64 w' (v 32) (r.1) (r.2) from hJ.out.fact 32 (by kernel_rfl))
        have X1 := Lib.hid (show F64 w' (v 36) (r.1) (r.2) from hJ.out.fact 36 (by kernel_rfl))
        go_wp2_with fail
        with_reducible refine (HC2.out _ _ _ X0.out X1.out).mono ?_
        rintro e w1 ⟨rfl, hb⟩
        go_wp2_with fail
        exact ⟨rfl, rfl, hJ.out.call (by rfl) hb (rfl)⟩
      simp only [Act.put, List.setIfInBounds_toArray, List.set_cons_zero, List.set_cons_succ, Nat.reduceAdd]
      refine Steps.held ?_ ?_
      · intro L v w' hJ
        have hv37 : v 37 = .int .i64 0 := hJ.out.fact 37 (by kernel_rfl)
        simp only [hv37]
        clear hv37
        have hv27 : v 27 = .bool true := hJ.out.fact 27 (by kernel_rfl)
        simp only [hv27]
        clear hv27
        go_wp2_with fail
        exact ⟨rfl, rfl, hJ.out.same (by rfl) (rfl)⟩
      simp only [Act.put, List.setIfInBounds_toArray, List.set_cons_zero, List.set_cons_succ, Nat.reduceAdd]
      refine Steps.held ?_ ?_
      · intro L v w' hJ
        have hv27 : v 27 = .bool true := hJ.out.fact 27 (by kernel_rfl)
        simp only [hv27]
        clear hv27
        have hv38 : v 38 = .bool true := hJ.out.fact 38 (by kernel_rfl)
        simp only [hv38]
        clear hv38
        go_wp2_with fail
        exact ⟨rfl, rfl, hJ.out.same (by rfl) (rfl)⟩
      simp only [Act.put, List.setIfInBounds_toArray, List.set_cons_zero, List.set_cons_succ, Nat.reduceAdd]
      refine Steps.held ?_ ?_
      · intro L v w' hJ
        have hv39 : v 39 = .bool true := hJ.out.fact 39 (by kernel_rfl)
        simp only [hv39]
        clear hv39
        go_wp2_with fail
        exact ⟨rfl, rfl, hJ.out.same (by rfl) (rfl)⟩
      simp only [Act.put, List.setIfInBounds_toArray, List.set_cons_zero, List.set_cons_succ, Nat.reduceAdd]
      refine Steps.held ?_ ?_
      · intro L v w' hJ
        have hv40 : v 40 = .bool true := hJ.out.fact 40 (by kernel_rfl)
        simp only [hv40]
        clear hv40
        go_wp2_with fail
        with_reducible refine (HLV.out _).mono ?_
        rintro e w1 ⟨rfl, hb⟩
        go_wp2_with fail
        exact ⟨rfl, rfl, hJ.out.call (by rfl) hb (rfl)⟩
      simp only [Act.put, List.setIfInBounds_toArray, List.set_cons_zero, List.set_cons_succ, Nat.reduceAdd]
      refine Steps.held ?_ ?_
      · intro L v w' hJ
        have hv40 : v 40 = .bool true := hJ.out.fact 40 (by kernel_rfl)
        simp only [hv40]
        clear hv40
        have hv41 : v 41 = .bool true := hJ.out.fact 41 (by kernel_rfl)
        simp only [hv41]
        clear hv41
        go_wp2_with fail
        exact ⟨rfl, rfl, hJ.out.same (by rfl) (rfl)⟩
      simp only [Act.put, List.setIfInBounds_toArray, List.set_cons_zero, List.set_cons_succ, Nat.reduceAdd]
      refine Steps.held ?_ ?_
      · intro L v w' hJ
        have hv42 : v 42 = .bool true := hJ.out.fact 42 (by kernel_rfl)
        simp only [hv42]
        clear hv42
        go_wp2_with fail
        exact ⟨rfl, rfl, hJ.out.same (by rfl) (rfl)⟩
      simp only [Act.put, List.setIfInBounds_toArray, List.set_cons_zero, List.set_cons_succ, Nat.reduceAdd]
      refine Steps.nil ?_
      intro v w' hJ
      have h43 : v 43 = .bool true := hJ.end_fact 43 (by decide)
      have HF := Lib.hid (cbt HB0.out hJ.but.below)
      clear hJ
      simp only [h43]
      clear h43
      go_wp2_with fail
      go_ret
      exact ⟨rfl, HF.out⟩
    · have hzy : ly.length ≤ 16 → 16 < my.length := fun h1 => by omega
      have HSx : Hid (∀ v W, Frc W v lx mx → Calls Try.prog 64 #[v, .int .i64 16] W (fun x w' => x = .returned (.bool true) ∧ Below W.heap.size W w')) := Lib.hid (fun v W h => c_small (k := 16) h (by simp [hxx, hyx]))
      have HSy : Hid (∀ v W, Frc W v ly my → Calls Try.prog 64 #[v, .int .i64 16] W (fun x w' => x = .returned (.bool false) ∧ Below W.heap.size W w')) := Lib.hid (fun v W h => c_small (k := 16) h (by simpa using hzy))
      have e0 := (Blk.new (w) 45 #[(.slice Ux nx cx), (.slice Vx kx dx)]).alloc (.cells #[(.slice Uy ny cy), (.slice Vy ky dy)] 45)
      have e1 := Blk.new ((w).alloc (.cells #[(.slice Ux nx cx), (.slice Vx kx dx)] 45)) 45 #[(.slice Uy ny cy), (.slice Vy ky dy)]
      have hb := cba (cba (Below.refl _ w) (.cells #[(.slice Ux nx cx), (.slice Vx kx dx)] 45)) (.cells #[(.slice Uy ny cy), (.slice Vy ky dy)] 45)
      simp only [World.size_alloc] at e1
      have hsz : w.heap.size ≤ w.heap.size := Nat.le_refl _
      go_enter Try.func14, Try.ntmps14
      go_upto_region 1 with (fail)
      obtain ⟨S, hS⟩ : ∃ S, ((w).alloc (.cells #[(.slice Ux nx cx), (.slice Vx kx dx)] 45)).alloc (.cells #[(.slice Uy ny cy), (.slice Vy ky dy)] 45) = S := ⟨_, rfl⟩
      rw [hS] at e0 e1 hb ⊢
      replace Hx := Lib.hid (Hx.out.below hb)
      replace Hy := Lib.hid (Hy.out.below hb)
      have HB0 := Lib.hid hb
      have E0 := Lib.hid e0
      have E1 := Lib.hid e1
      clear hS hb hsz e0 e1
      have k_E0_0 := E0.out.cell 0
      have k_E0_1 := E0.out.cell 1
      have k_E1_0 := E1.out.cell 0
      have k_E1_1 := E1.out.cell 1
      go_wp2_with fail
      with_reducible refine (HSx.out _ _ Hx.out).mono ?_
      rintro e w1 ⟨rfl, hb⟩
      clear k_E0_0 k_E0_1 k_E1_0 k_E1_1
      replace Hx := Lib.hid (Hx.out.below hb)
      replace Hy := Lib.hid (Hy.out.below hb)
      replace E0 := Lib.hid (blk_below E0.out hb)
      replace E1 := Lib.hid (blk_below E1.out hb)
      replace HB0 := Lib.hid (cbt HB0.out hb)
      clear hb
      have k_E0_0 := E0.out.cell 0
      have k_E0_1 := E0.out.cell 1
      have k_E1_0 := E1.out.cell 0
      have k_E1_1 := E1.out.cell 1
      go_wp2_with fail
      with_reducible refine (HSy.out _ _ Hy.out).mono ?_
      rintro e w1 ⟨rfl, hb⟩
      clear k_E0_0 k_E0_1 k_E1_0 k_E1_1
      replace Hx := Lib.hid (Hx.out.below hb)
      replace Hy := Lib.hid (Hy.out.below hb)
      replace E0 := Lib.hid (blk_below E0.out hb)
      replace E1 := Lib.hid (blk_below E1.out hb)
      replace HB0 := Lib.hid (cbt HB0.out hb)
      clear hb
      have k_E0_0 := E0.out.cell 0
      have k_E0_1 := E0.out.cell 1
      have k_E1_0 := E1.out.cell 0
      have k_E1_1 := E1.out.cell 1
      go_wp2_with fail
      with_reducible refine (live26_any _).mono ?_
      rintro e w1 ⟨rfl, hb⟩
      clear k_E0_0 k_E0_1 k_E1_0 k_E1_1
      replace Hx := Lib.hid (Hx.out.below hb)
      replace Hy := Lib.hid (Hy.out.below hb)
      replace E0 := Lib.hid (blk_below E0.out hb)
      replace E1 := Lib.hid (blk_below E1.out hb)
      replace HB0 := Lib.hid (cbt HB0.out hb)
      clear hb
      have k_E0_0 := E0.out.cell 0
      have k_E0_1 := E0.out.cell 1
      have k_E1_0 := E1.out.cell 0
      have k_E1_1 := E1.out.cell 1
      go_wp2_with fail
      go_ret
      exact ⟨rfl, HB0.out⟩
  · have hzx : lx.length ≤ 16 → 16 < mx.length := fun h1 => by omega
    have HSx : Hid (∀ v W, Frc W v lx mx → Calls Try.prog 64 #[v, .int .i64 16] W (fun x w' => x = .returned (.bool false) ∧ Below W.heap.size W w')) := Lib.hid (fun v W h => c_small (k := 16) h (by simpa using hzx))
    have e0 := (Blk.new (w) 45 #[(.slice Ux nx cx), (.slice Vx kx dx)]).alloc (.cells #[(.slice Uy ny cy), (.slice Vy ky dy)] 45)
    have e1 := Blk.new ((w).alloc (.cells #[(.slice Ux nx cx), (.slice Vx kx dx)] 45)) 45 #[(.slice Uy ny cy), (.slice Vy ky dy)]
    have hb := cba (cba (Below.refl _ w) (.cells #[(.slice Ux nx cx), (.slice Vx kx dx)] 45)) (.cells #[(.slice Uy ny cy), (.slice Vy ky dy)] 45)
    simp only [World.size_alloc] at e1
    have hsz : w.heap.size ≤ w.heap.size := Nat.le_refl _
    go_enter Try.func14, Try.ntmps14
    go_upto_region 1 with (fail)
    obtain ⟨S, hS⟩ : ∃ S, ((w).alloc (.cells #[(.slice Ux nx cx), (.slice Vx kx dx)] 45)).alloc (.cells #[(.slice Uy ny cy), (.slice Vy ky dy)] 45) = S := ⟨_, rfl⟩
    rw [hS] at e0 e1 hb ⊢
    replace Hx := Lib.hid (Hx.out.below hb)
    replace Hy := Lib.hid (Hy.out.below hb)
    have HB0 := Lib.hid hb
    have E0 := Lib.hid e0
    have E1 := Lib.hid e1
    clear hS hb hsz e0 e1
    have k_E0_0 := E0.out.cell 0
    have k_E0_1 := E0.out.cell 1
    have k_E1_0 := E1.out.cell 0
    have k_E1_1 := E1.out.cell 1
    go_wp2_with fail
    with_reducible refine (HSx.out _ _ Hx.out).mono ?_
    rintro e w1 ⟨rfl, hb⟩
    clear k_E0_0 k_E0_1 k_E1_0 k_E1_1
    replace Hx := Lib.hid (Hx.out.below hb)
    replace Hy := Lib.hid (Hy.out.below hb)
    replace E0 := Lib.hid (blk_below E0.out hb)
    replace E1 := Lib.hid (blk_below E1.out hb)
    replace HB0 := Lib.hid (cbt HB0.out hb)
    clear hb
    have k_E0_0 := E0.out.cell 0
    have k_E0_1 := E0.out.cell 1
    have k_E1_0 := E1.out.cell 0
    have k_E1_1 := E1.out.cell 1
    go_wp2_with fail
    with_reducible refine (live26_any _).mono ?_
    rintro e w1 ⟨rfl, hb⟩
    clear k_E0_0 k_E0_1 k_E1_0 k_E1_1
    replace Hx := Lib.hid (Hx.out.below hb)
    replace Hy := Lib.hid (Hy.out.below hb)
    replace E0 := Lib.hid (blk_below E0.out hb)
    replace E1 := Lib.hid (blk_below E1.out hb)
    replace HB0 := Lib.hid (cbt HB0.out hb)
    clear hb
    have k_E0_0 := E0.out.cell 0
    have k_E0_1 := E0.out.cell 1
    have k_E1_0 := E1.out.cell 0
    have k_E1_1 := E1.out.cell 1
    go_wp2_with fail
    go_ret
    exact ⟨rfl, HB0.out⟩
set_option maxRecDepth 100000 in
set_option maxHeartbeats 4000000 in
theorem ratMuls_law (vx : Value) (lx mx : List Int) (vy : Value) (ly my : List Int) (w : World) (hx : Frc w vx lx mx) (ylx : Bys lx) (ymx : Bys mx) (hy : Frc w vy ly my) (yly : Bys ly) (ymy : Bys my) : Calls Try.prog 17 #[vx, vy] w fun e w' => e = .returned (.bool true) ∧ Below w.heap.size w w' := by
  have Hx := Lib.hid hx
  obtain ⟨Ux, nx, cx, Vx, kx, dx, rfl, _, _, _, _⟩ := hx
  have Hy := Lib.hid hy
  obtain ⟨Uy, ny, cy, Vy, ky, dy, rfl, _, _, _, _⟩ := hy
  by_cases hzx : lx.length ≤ 16 ∧ mx.length ≤ 16
  · obtain ⟨hxx, hyx⟩ := hzx
    by_cases hzy : ly.length ≤ 16 ∧ my.length ≤ 16
    · obtain ⟨hxy, hyy⟩ := hzy
      have HSx : Hid (∀ v W, Frc W v lx mx → Calls Try.prog 64 #[v, .int .i64 16] W (fun x w' => x = .returned (.bool true) ∧ Below W.heap.size W w')) := Lib.hid (fun v W h => c_small (k := 16) h (by simp [hxx, hyx]))
      have HSy : Hid (∀ v W, Frc W v ly my → Calls Try.prog 64 #[v, .int .i64 16] W (fun x w' => x = .returned (.bool true) ∧ Below W.heap.size W w')) := Lib.hid (fun v W h => c_small (k := 16) h (by simp [hxy, hyy]))
      have ra := frcR_red lx mx
      have sa := frcR_sz ylx ymx hxx hyx
      have HTa := Lib.hid (fun v W h => c_to (v := v) (W := W) (l := lx) (m := mx) h ylx ymx (by omega) (by omega))
      have HRa := Lib.hid (fun v W h => c_ref (v := v) (W := W) (l := lx) (m := mx) h ylx ymx (by omega) (by omega))
      obtain ⟨a, hea⟩ : ∃ a, frcR lx mx = a := ⟨_, rfl⟩
      rw [hea] at ra sa HTa HRa
      clear hea
      have rb := frcR_red ly my
      have sb := frcR_sz yly ymy hxy hyy
      have HTb := Lib.hid (fun v W h => c_to (v := v) (W := W) (l := ly) (m := my) h yly ymy (by omega) (by omega))
      have HRb := Lib.hid (fun v W h => c_ref (v := v) (W := W) (l := ly) (m := my) h yly ymy (by omega) (by omega))
      obtain ⟨b, heb⟩ : ∃ a, frcR ly my = a := ⟨_, rfl⟩
      rw [heb] at rb sb HTb HRb
      clear heb
      have sa' := sa.mono (C := 80) (by decide)
      have sb' := sb.mono (C := 80) (by decide)
      by_cases hb0 : b.1 = 0
      · have HDV := Lib.hid (fun va vb W h1 h2 => c_divno (a := a) (va := va) (vb := vb) (W := W) hb0 h1 h2)
        have HZ0 := Lib.hid (fun v W h => rzero_yes v 0 1 W h rfl)
        have hwb : wl 8 b.1 = 0 := (wl_eq_zero (by decide)).2 hb0
        have HMU := Lib.hid (fun va vb W h1 h2 => c_mul (va := va) (vb := vb) (W := W) (B := 80) (by decide) sa' sb' h1 h2)
        have HXM := Lib.hid (fun va vb W h1 h2 => c_xmul (va := va) (vb := vb) (W := W) (B := 80) (by decide) ra rb sa' sb' h1 h2)
        have sm := (sa.mul sb).mono (C := 80) (by decide)
        have HIM := Lib.hid (fun va vb W h1 h2 => c_is (va := va) (vb := vb) (W := W) (B := 80) (by decide) sm h1 h2)
        have HLV := Lib.hid live26_any
        generalize mulR a b = p at *
        clear ra rb sa sb sa' sb' sm ylx ymx yly ymy hxx hyx hxy hyy hb0
        have e0 := (Blk.new (w) 45 #[(.slice Ux nx cx), (.slice Vx kx dx)]).alloc (.cells #[(.slice Uy ny cy), (.slice Vy ky dy)] 45)
        have e1 := Blk.new ((w).alloc (.cells #[(.slice Ux nx cx), (.slice Vx kx dx)] 45)) 45 #[(.slice Uy ny cy), (.slice Vy ky dy)]
        have hb := cba (cba (Below.refl _ w) (.cells #[(.slice Ux nx cx), (.slice Vx kx dx)] 45)) (.cells #[(.slice Uy ny cy), (.slice Vy ky dy)] 45)
        simp only [World.size_alloc] at e1
        have hsz : w.heap.size ≤ w.heap.size := Nat.le_refl _
        go_enter Try.func17, Try.ntmps17
        go_upto_region 1 with (fail)
        obtain ⟨S, hS⟩ : ∃ S, ((w).alloc (.cells #[(.slice Ux nx cx), (.slice Vx kx dx)] 45)).alloc (.cells #[(.slice Uy ny cy), (.slice Vy ky dy)] 45) = S := ⟨_, rfl⟩
        rw [hS] at e0 e1 hb ⊢
        replace Hx := Lib.hid (Hx.out.below hb)
        replace Hy := Lib.hid (Hy.out.below hb)
        have HB0 := Lib.hid hb
        have E0 := Lib.hid e0
        have E1 := Lib.hid e1
        clear hS hb hsz e0 e1
        have k_E0_0 := E0.out.cell 0
        have k_E0_1 := E0.out.cell 1
        have k_E1_0 := E1.out.cell 0
        have k_E1_1 := E1.out.cell 1
        go_wp2_with fail
        with_reducible refine (HSx.out _ _ Hx.out).mono ?_
        rintro e w1 ⟨rfl, hb⟩
        clear k_E0_0 k_E0_1 k_E1_0 k_E1_1
        replace Hx := Lib.hid (Hx.out.below hb)
        replace Hy := Lib.hid (Hy.out.below hb)
        replace E0 := Lib.hid (blk_below E0.out hb)
        replace E1 := Lib.hid (blk_below E1.out hb)
        replace HB0 := Lib.hid (cbt HB0.out hb)
        clear hb
        have k_E0_0 := E0.out.cell 0
        have k_E0_1 := E0.out.cell 1
        have k_E1_0 := E1.out.cell 0
        have k_E1_1 := E1.out.cell 1
        go_wp2_with fail
        with_reducible refine (HSy.out _ _ Hy.out).mono ?_
        rintro e w1 ⟨rfl, hb⟩
        clear k_E0_0 k_E0_1 k_E1_0 k_E1_1
        replace Hx := Lib.hid (Hx.out.below hb)
        replace Hy := Lib.hid (Hy.out.below hb)
        replace E0 := Lib.hid (blk_below E0.out hb)
        replace E1 := Lib.hid (blk_below E1.out hb)
        replace HB0 := Lib.hid (cbt HB0.out hb)
        clear hb
        have k_E0_0 := E0.out.cell 0
        have k_E0_1 := E0.out.cell 1
        have k_E1_0 := E1.out.cell 0
        have k_E1_1 := E1.out.cell 1
        go_wp2_with fail
        clear k_E0_0 k_E0_1 k_E1_0 k_E1_1
        let FS : List Kept1 := [.frc (lx) (mx), .f (a.1) (a.2), .frc (ly) (my), .f (b.1) (b.2), .any, .any, .any, .any]
        let BS : List Bx := [Bx.rat (.inl 4) 6 #[.slice none 0 0, .slice none 0 0] (a.1) (a.2), Bx.rat (.inl 5) 7 #[.slice none 0 0, .slice none 0 0] (b.1) (b.2)]
        refine region_mono (Held w1 (fun j => FS.getD j .any) BS) (by kernel_rfl) (by kernel_rfl) (by kernel_rfl) (Held.start _ _ _ (by simp [BS, Bx.nat, Bx.rat, Bx.ref]) (by simp [BS, Bx.nat, Bx.rat, Bx.ref])) ?_
        refine Steps.held ?_ ?_
        · intro L v w' hJ
          have kb := hJ.out.blk E0.out (by simp [oldsOf, BS, Bx.nat, Bx.rat, Bx.ref])
          have k0 := kb.cell 0
          have k1 := kb.cell 1
          clear kb
          go_wp2_with fail
          exact ⟨rfl, rfl, hJ.out.same (by rfl) (Hx.out.keep hJ.out.held.keep)⟩
        simp only [Act.put, List.setIfInBounds_toArray, List.set_cons_zero, List.set_cons_succ, Nat.reduceAdd]
        refine Steps.held ?_ ?_
        · intro L v w' hJ
          have X0 := Lib.hid (show Frc w' (v 0) (lx) (mx) from hJ.out.fact 0 (by kernel_rfl))
          go_wp2_with fail
          with_reducible refine (HTa.out _ _ X0.out).mono ?_
          rintro e w1 ⟨u, rfl, hu, hb⟩
          go_wp2_with fail
          exact ⟨rfl, rfl, hJ.out.call (by rfl) hb (hu)⟩
        simp only [Act.put, List.setIfInBounds_toArray, List.set_cons_zero, List.set_cons_succ, Nat.reduceAdd]
        refine Steps.held ?_ ?_
        · intro L v w' hJ
          have kb := hJ.out.blk E1.out (by simp [oldsOf, BS, Bx.nat, Bx.rat, Bx.ref])
          have k0 := kb.cell 0
          have k1 := kb.cell 1
          clear kb
          go_wp2_with fail
          exact ⟨rfl, rfl, hJ.out.same (by rfl) (Hy.out.keep hJ.out.held.keep)⟩
        simp only [Act.put, List.setIfInBounds_toArray, List.set_cons_zero, List.set_cons_succ, Nat.reduceAdd]
        refine Steps.held ?_ ?_
        · intro L v w' hJ
          have X0 := Lib.hid (show Frc w' (v 2) (ly) (my) from hJ.out.fact 2 (by kernel_rfl))
          go_wp2_with fail
          with_reducible refine (HTb.out _ _ X0.out).mono ?_
          rintro e w1 ⟨u, rfl, hu, hb⟩
          go_wp2_with fail
          exact ⟨rfl, rfl, hJ.out.call (by rfl) hb (hu)⟩
        simp only [Act.put, List.setIfInBounds_toArray, List.set_cons_zero, List.set_cons_succ, Nat.reduceAdd]
        refine Steps.held ?_ ?_
        · intro L v w' hJ
          go_wp2_with fail
          exact ⟨rfl, rfl, hJ.out.made 0 _ rfl rfl (by rfl) trivial⟩
        simp only [Act.put, List.setIfInBounds_toArray, List.set_cons_zero, List.set_cons_succ, Nat.reduceAdd]
        refine Steps.held ?_ ?_
        · intro L v w' hJ
          go_wp2_with fail
          exact ⟨rfl, rfl, hJ.out.made 1 _ rfl rfl (by rfl) trivial⟩
        simp only [Act.put, List.setIfInBounds_toArray, List.set_cons_zero, List.set_cons_succ, Nat.reduceAdd]
        refine Steps.held ?_ ?_
        · intro L v w' hJ
          obtain ⟨g, hg, hge, hown, hst⟩ := hJ.out.newbox 0 _ rfl 4 rfl (by kernel_rfl)
          have hN : F64 w' (v 1) (a.1) (a.2) := hJ.out.fact 1 (by kernel_rfl)
          obtain ⟨A1, p1, c1, B1, q1, e1, x1, hv, h1, h2, h3⟩ := hN
          have HN := Lib.hid (show F64 w' (.agg #[.slice A1 p1 c1, .slice B1 q1 e1]) (a.1) (a.2) from ⟨A1, p1, c1, B1, q1, e1, x1, rfl, h1, h2, h3⟩)
          have kb := hJ.out.box 0 _ rfl rfl g hown
          have k0 : w'.cell? ⟨g, 0, none⟩ = some (.slice none 0 0) := kb.cell 0
          have k1 : w'.cell? ⟨g, 1, none⟩ = some (.slice none 0 0) := kb.cell 1
          have f0 := kb.frozen 0
          have f1 := kb.frozen 1
          have HO := Lib.hid hown
          have HS := Lib.hid hst
          clear kb h1 h2 h3 hown hst
          simp only [hg, hv]
          clear hg hv
          go_wp2_with fail
          exact ⟨rfl, rfl, hJ.out.fill2 0 _ rfl rfl (by rfl) g HO.out HS.out _ _ rfl rfl rfl (fun W k => HN.out.keep k) (fun _ => trivial)⟩
        simp only [Act.put, List.setIfInBounds_toArray, List.set_cons_zero, List.set_cons_succ, Nat.reduceAdd]
        refine Steps.held ?_ ?_
        · intro L v w' hJ
          obtain ⟨g, hg, hge, hown, hst⟩ := hJ.out.newbox 1 _ rfl 5 rfl (by kernel_rfl)
          have hN : F64 w' (v 3) (b.1) (b.2) := hJ.out.fact 3 (by kernel_rfl)
          obtain ⟨A1, p1, c1, B1, q1, e1, x1, hv, h1, h2, h3⟩ := hN
          have HN := Lib.hid (show F64 w' (.agg #[.slice A1 p1 c1, .slice B1 q1 e1]) (b.1) (b.2) from ⟨A1, p1, c1, B1, q1, e1, x1, rfl, h1, h2, h3⟩)
          have kb := hJ.out.box 1 _ rfl rfl g hown
          have k0 : w'.cell? ⟨g, 0, none⟩ = some (.slice none 0 0) := kb.cell 0
          have k1 : w'.cell? ⟨g, 1, none⟩ = some (.slice none 0 0) := kb.cell 1
          have f0 := kb.frozen 0
          have f1 := kb.frozen 1
          have HO := Lib.hid hown
          have HS := Lib.hid hst
          clear kb h1 h2 h3 hown hst
          simp only [hg, hv]
          clear hg hv
          go_wp2_with fail
          exact ⟨rfl, rfl, hJ.out.fill2 1 _ rfl rfl (by rfl) g HO.out HS.out _ _ rfl rfl rfl (fun W k => HN.out.keep k) (fun _ => trivial)⟩
        simp only [Act.put, List.setIfInBounds_toArray, List.set_cons_zero, List.set_cons_succ, Nat.reduceAdd]
        refine Steps.nil ?_
        intro v w' hJ
        obtain ⟨g5, cs4, hv4, hge4, hb4, hf4⟩ := hJ.end_new 0 _ rfl 4 rfl (by decide) (Nat.le_of_ble_eq_true rfl)
        have hfx : F64 w' (.agg cs4) a.1 a.2 := hf4
        obtain ⟨A4, p4, c4, B4, q4, e4, x4, hcs4, h1, h2, h3⟩ := hfx
        have hcs4' := Value.agg.inj hcs4
        subst hcs4'
        simp only [hv4]
        have E5 := Lib.hid (show Blk w' g5 47 #[.slice A4 p4 c4, .slice B4 q4 e4] from hb4)
        have NE5 := Lib.hid (show F64 w' (.agg #[.slice A4 p4 c4, .slice B4 q4 e4]) a.1 a.2 from hf4)
        clear hv4 hb4 hf4 hcs4 h1 h2
        obtain ⟨g6, cs5, hv5, hge5, hb5, hf5⟩ := hJ.end_new 1 _ rfl 5 rfl (by decide) (Nat.le_of_ble_eq_true rfl)
        have hfx : F64 w' (.agg cs5) b.1 b.2 := hf5
        obtain ⟨A5, p5, c5, B5, q5, e5, x5, hcs5, h1, h2, h3⟩ := hfx
        have hcs5' := Value.agg.inj hcs5
        subst hcs5'
        simp only [hv5]
        have E6 := Lib.hid (show Blk w' g6 47 #[.slice A5 p5 c5, .slice B5 q5 e5] from hb5)
        have NE6 := Lib.hid (show F64 w' (.agg #[.slice A5 p5 c5, .slice B5 q5 e5]) b.1 b.2 from hf5)
        clear hv5 hb5 hf5 hcs5 h1 h2
        have hbr := hJ.but.below
        replace Hx := Lib.hid (Hx.out.below hbr)
        replace Hy := Lib.hid (Hy.out.below hbr)
        replace E0 := Lib.hid (blk_below E0.out hbr)
        replace E1 := Lib.hid (blk_below E1.out hbr)
        replace HB0 := Lib.hid (cbt HB0.out hbr)
        clear hJ hbr
        go_wp2_with fail
        let FS : List Kept1 := [.frc (lx) (mx), .rf (a.1) (a.2), .frc (ly) (my), .rf (b.1) (b.2), .any, .any, .any, .any]
        let BS : List Bx := [Bx.ref (.inl 4) 6 #[.slice none 0 0, .slice none 0 0] (a.1) (a.2), Bx.ref (.inl 5) 7 #[.slice none 0 0, .slice none 0 0] (b.1) (b.2)]
        refine region_mono (Held w' (fun j => FS.getD j .any) BS) (by kernel_rfl) (by kernel_rfl) (by kernel_rfl) (Held.start _ _ _ (by simp [BS, Bx.nat, Bx.rat, Bx.ref]) (by simp [BS, Bx.nat, Bx.rat, Bx.ref])) ?_
        refine Steps.held ?_ ?_
        · intro L v w' hJ
          have kb := hJ.out.blk E0.out (by simp [oldsOf, BS, Bx.nat, Bx.rat, Bx.ref])
          have k0 := kb.cell 0
          have k1 := kb.cell 1
          clear kb
          go_wp2_with fail
          exact ⟨rfl, rfl, hJ.out.same (by rfl) (Hx.out.keep hJ.out.held.keep)⟩
        simp only [Act.put, List.setIfInBounds_toArray, List.set_cons_zero, List.set_cons_succ, Nat.reduceAdd]
        refine Steps.held ?_ ?_
        · intro L v w' hJ
          have X0 := Lib.hid (show Frc w' (v 0) (lx) (mx) from hJ.out.fact 0 (by kernel_rfl))
          go_wp2_with fail
          with_reducible refine (HRa.out _ _ X0.out).mono ?_
          rintro e w1 ⟨u, rfl, hu, hb⟩
          go_wp2_with fail
          exact ⟨rfl, rfl, hJ.out.call (by rfl) hb (hu)⟩
        simp only [Act.put, List.setIfInBounds_toArray, List.set_cons_zero, List.set_cons_succ, Nat.reduceAdd]
        refine Steps.held ?_ ?_
        · intro L v w' hJ
          have kb := hJ.out.blk E1.out (by simp [oldsOf, BS, Bx.nat, Bx.rat, Bx.ref])
          have k0 := kb.cell 0
          have k1 := kb.cell 1
          clear kb
          go_wp2_with fail
          exact ⟨rfl, rfl, hJ.out.same (by rfl) (Hy.out.keep hJ.out.held.keep)⟩
        simp only [Act.put, List.setIfInBounds_toArray, List.set_cons_zero, List.set_cons_succ, Nat.reduceAdd]
        refine Steps.held ?_ ?_
        · intro L v w' hJ
          have X0 := Lib.hid (show Frc w' (v 2) (ly) (my) from hJ.out.fact 2 (by kernel_rfl))
          go_wp2_with fail
          with_reducible refine (HRb.out _ _ X0.out).mono ?_
          rintro e w1 ⟨u, rfl, hu, hb⟩
          go_wp2_with fail
          exact ⟨rfl, rfl, hJ.out.call (by rfl) hb (hu)⟩
        simp only [Act.put, List.setIfInBounds_toArray, List.set_cons_zero, List.set_cons_succ, Nat.reduceAdd]
        refine Steps.held ?_ ?_
        · intro L v w' hJ
          go_wp2_with fail
          exact ⟨rfl, rfl, hJ.out.made 0 _ rfl rfl (by rfl) trivial⟩
        simp only [Act.put, List.setIfInBounds_toArray, List.set_cons_zero, List.set_cons_succ, Nat.reduceAdd]
        refine Steps.held ?_ ?_
        · intro L v w' hJ
          go_wp2_with fail
          exact ⟨rfl, rfl, hJ.out.made 1 _ rfl rfl (by rfl) trivial⟩
        simp only [Act.put, List.setIfInBounds_toArray, List.set_cons_zero, List.set_cons_succ, Nat.reduceAdd]
        refine Steps.held ?_ ?_
        · intro L v w' hJ
          obtain ⟨g, hg, hge, hown, hst⟩ := hJ.out.newbox 0 _ rfl 4 rfl (by kernel_rfl)
          have hN : RF w' (v 1) (a.1) (a.2) := hJ.out.fact 1 (by kernel_rfl)
          obtain ⟨A1, p1, c1, B1, q1, e1, hv, h1, h2⟩ := hN
          have HN := Lib.hid (show RF w' (.agg #[.slice A1 p1 c1, .slice B1 q1 e1]) (a.1) (a.2) from ⟨A1, p1, c1, B1, q1, e1, rfl, h1, h2⟩)
          have kb := hJ.out.box 0 _ rfl rfl g hown
          have k0 : w'.cell? ⟨g, 0, none⟩ = some (.slice none 0 0) := kb.cell 0
          have k1 : w'.cell? ⟨g, 1, none⟩ = some (.slice none 0 0) := kb.cell 1
          have f0 := kb.frozen 0
          have f1 := kb.frozen 1
          have HO := Lib.hid hown
          have HS := Lib.hid hst
          clear kb h1 h2 hown hst
          simp only [hg, hv]
          clear hg hv
          go_wp2_with fail
          exact ⟨rfl, rfl, hJ.out.fill2 0 _ rfl rfl (by rfl) g HO.out HS.out _ _ rfl rfl rfl (fun W k => HN.out.keep k) (fun _ => trivial)⟩
        simp only [Act.put, List.setIfInBounds_toArray, List.set_cons_zero, List.set_cons_succ, Nat.reduceAdd]
        refine Steps.held ?_ ?_
        · intro L v w' hJ
          obtain ⟨g, hg, hge, hown, hst⟩ := hJ.out.newbox 1 _ rfl 5 rfl (by kernel_rfl)
          have hN : RF w' (v 3) (b.1) (b.2) := hJ.out.fact 3 (by kernel_rfl)
          obtain ⟨A1, p1, c1, B1, q1, e1, hv, h1, h2⟩ := hN
          have HN := Lib.hid (show RF w' (.agg #[.slice A1 p1 c1, .slice B1 q1 e1]) (b.1) (b.2) from ⟨A1, p1, c1, B1, q1, e1, rfl, h1, h2⟩)
          have kb := hJ.out.box 1 _ rfl rfl g hown
          have k0 : w'.cell? ⟨g, 0, none⟩ = some (.slice none 0 0) := kb.cell 0
          have k1 : w'.cell? ⟨g, 1, none⟩ = some (.slice none 0 0) := kb.cell 1
          have f0 := kb.frozen 0
          have f1 := kb.frozen 1
          have HO := Lib.hid hown
          have HS := Lib.hid hst
          clear kb h1 h2 hown hst
          simp only [hg, hv]
          clear hg hv
          go_wp2_with fail
          exact ⟨rfl, rfl, hJ.out.fill2 1 _ rfl rfl (by rfl) g HO.out HS.out _ _ rfl rfl rfl (fun W k => HN.out.keep k) (fun _ => trivial)⟩
        simp only [Act.put, List.setIfInBounds_toArray, List.set_cons_zero, List.set_cons_succ, Nat.reduceAdd]
        refine Steps.nil ?_
        intro v w' hJ
        obtain ⟨g7, cs4, hv4, hge7, hb4, hf4⟩ := hJ.end_new 0 _ rfl 4 rfl (by decide) (Nat.le_of_ble_eq_true rfl)
        have hfx : RF w' (.agg cs4) a.1 a.2 := hf4
        obtain ⟨A7, p7, c7, B7, q7, e7, hcs4, h1, h2⟩ := hfx
        have hcs4' := Value.agg.inj hcs4
        subst hcs4'
        simp only [hv4]
        have E7 := Lib.hid (show Blk w' g7 52 #[.slice A7 p7 c7, .slice B7 q7 e7] from hb4)
        have NE7 := Lib.hid (show RF w' (.agg #[.slice A7 p7 c7, .slice B7 q7 e7]) a.1 a.2 from hf4)
        clear hv4 hb4 hf4 hcs4 h1 h2
        obtain ⟨g8, cs5, hv5, hge8, hb5, hf5⟩ := hJ.end_new 1 _ rfl 5 rfl (by decide) (Nat.le_of_ble_eq_true rfl)
        have hfx : RF w' (.agg cs5) b.1 b.2 := hf5
        obtain ⟨A8, p8, c8, B8, q8, e8, hcs5, h1, h2⟩ := hfx
        have hcs5' := Value.agg.inj hcs5
        subst hcs5'
        simp only [hv5]
        have E8 := Lib.hid (show Blk w' g8 52 #[.slice A8 p8 c8, .slice B8 q8 e8] from hb5)
        have NE8 := Lib.hid (show RF w' (.agg #[.slice A8 p8 c8, .slice B8 q8 e8]) b.1 b.2 from hf5)
        clear hv5 hb5 hf5 hcs5 h1 h2
        have hbr := hJ.but.below
        replace NE5 := Lib.hid (NE5.out.below hbr)
        replace NE6 := Lib.hid (NE6.out.below hbr)
        replace E5 := Lib.hid (blk_below E5.out hbr)
        replace E6 := Lib.hid (blk_below E6.out hbr)
        replace HB0 := Lib.hid (cbt HB0.out hbr)
        clear hJ hbr
        have k_E5_0 := E5.out.cell 0
        have k_E5_1 := E5.out.cell 1
        have k_E6_0 := E6.out.cell 0
        have k_E6_1 := E6.out.cell 1
        have k_E7_0 := E7.out.cell 0
        have k_E7_1 := E7.out.cell 1
        have k_E8_0 := E8.out.cell 0
        have k_E8_1 := E8.out.cell 1
        go_wp2_with fail
        with_reducible refine (HDV.out _ _ _ NE5.out NE6.out).mono ?_
        rintro e w4 ⟨u9, rfl, hu, hb⟩
        clear k_E5_0 k_E5_1 k_E6_0 k_E6_1 k_E7_0 k_E7_1 k_E8_0 k_E8_1
        replace NE5 := Lib.hid (NE5.out.below hb)
        replace NE6 := Lib.hid (NE6.out.below hb)
        replace NE7 := Lib.hid (NE7.out.below hb)
        replace NE8 := Lib.hid (NE8.out.below hb)
        replace E5 := Lib.hid (blk_below E5.out hb)
        replace E6 := Lib.hid (blk_below E6.out hb)
        replace E7 := Lib.hid (blk_below E7.out hb)
        replace E8 := Lib.hid (blk_below E8.out hb)
        replace HB0 := Lib.hid (cbt HB0.out hb)
        have NS := Lib.hid hu
        clear hb hu
        have k_E5_0 := E5.out.cell 0
        have k_E5_1 := E5.out.cell 1
        have k_E6_0 := E6.out.cell 0
        have k_E6_1 := E6.out.cell 1
        have k_E7_0 := E7.out.cell 0
        have k_E7_1 := E7.out.cell 1
        have k_E8_0 := E8.out.cell 0
        have k_E8_1 := E8.out.cell 1
        have Z0 := NS.out
        obtain ⟨AT0, pT0, cT0, BT0, qT0, eT0, xT0, rfl, _, _, _⟩ := Z0
        have e9 := Blk.new w4 47 #[.slice AT0 pT0 cT0, .slice BT0 qT0 eT0]
        have hb := cba (Below.refl _ w4) (.cells #[.slice AT0 pT0 cT0, .slice BT0 qT0 eT0] 47)
        go_upto_region 6 with (fail)
        obtain ⟨T, hS⟩ : ∃ S, (w4.alloc (.cells #[.slice AT0 pT0 cT0, .slice BT0 qT0 eT0] 47)) = S := ⟨_, rfl⟩
        rw [hS] at e9 hb ⊢
        obtain ⟨g9, hg⟩ : ∃ g, w4.heap.size = g := ⟨_, rfl⟩
        rw [hg] at e9
        simp only [hg]
        replace NE5 := Lib.hid (NE5.out.below hb)
        replace NE6 := Lib.hid (NE6.out.below hb)
        replace NE7 := Lib.hid (NE7.out.below hb)
        replace NE8 := Lib.hid (NE8.out.below hb)
        replace NS := Lib.hid (NS.out.below hb)
        replace E5 := Lib.hid (blk_below E5.out hb)
        replace E6 := Lib.hid (blk_below E6.out hb)
        replace E7 := Lib.hid (blk_below E7.out hb)
        replace E8 := Lib.hid (blk_below E8.out hb)
        replace HB0 := Lib.hid (cbt HB0.out hb)
        have E9 := Lib.hid e9
        clear hS hg hb e9 k_E5_0 k_E5_1 k_E6_0 k_E6_1 k_E7_0 k_E7_1 k_E8_0 k_E8_1
        go_wp2_with fail
        let FS : List Kept1 := [.f (a.1) (a.2), .f (b.1) (b.2), .f (p.1) (p.2), .rf (a.1) (a.2), .rf (b.1) (b.2), .rf (p.1) (p.2), .eq (.bool true), .eq (.bool false)]
        refine region_mono (Held T (fun j => FS.getD j .any) []) (by kernel_rfl) (by kernel_rfl) (by kernel_rfl) (Held.start _ _ _ (by simp) (by simp)) ?_
        refine Steps.held ?_ ?_
        · intro L v w' hJ
          have kb := hJ.out.blk E5.out (by simp [oldsOf])
          have k0 := kb.cell 0
          have k1 := kb.cell 1
          clear kb
          go_wp2_with fail
          exact ⟨rfl, rfl, hJ.out.same (by rfl) (NE5.out.keep hJ.out.held.keep)⟩
        simp only [Act.put, List.setIfInBounds_toArray, List.set_cons_zero, List.set_cons_succ, Nat.reduceAdd]
        refine Steps.held ?_ ?_
        · intro L v w' hJ
          have kb := hJ.out.blk E6.out (by simp [oldsOf])
          have k0 := kb.cell 0
          have k1 := kb.cell 1
          clear kb
          go_wp2_with fail
          exact ⟨rfl, rfl, hJ.out.same (by rfl) (NE6.out.keep hJ.out.held.keep)⟩
        simp only [Act.put, List.setIfInBounds_toArray, List.set_cons_zero, List.set_cons_succ, Nat.reduceAdd]
        refine Steps.held ?_ ?_
        · intro L v w' hJ
          have X0 := Lib.hid (show F64 w' (v 0) (a.1) (a.2) from hJ.out.fact 0 (by kernel_rfl))
          have X1 := Lib.hid (show F64 w' (v 1) (b.1) (b.2) from hJ.out.fact 1 (by kernel_rfl))
          go_wp2_with fail
          with_reducible refine (HMU.out _ _ _ X0.out X1.out).mono ?_
          rintro e w1 ⟨u, rfl, hu, hb⟩
          go_wp2_with fail
          exact ⟨rfl, rfl, hJ.out.call (by rfl) hb (hu)⟩
        simp only [Act.put, List.setIfInBounds_toArray, List.set_cons_zero, List.set_cons_succ, Nat.reduceAdd]
        refine Steps.held ?_ ?_
        · intro L v w' hJ
          have kb := hJ.out.blk E7.out (by simp [oldsOf])
          have k0 := kb.cell 0
          have k1 := kb.cell 1
          clear kb
          go_wp2_with fail
          exact ⟨rfl, rfl, hJ.out.same (by rfl) (NE7.out.keep hJ.out.held.keep)⟩
        simp only [Act.put, List.setIfInBounds_toArray, List.set_cons_zero, List.set_cons_succ, Nat.reduceAdd]
        refine Steps.held ?_ ?_
        · intro L v w' hJ
          have kb := hJ.out.blk E8.out (by simp [oldsOf])
          have k0 := kb.cell 0
          have k1 := kb.cell 1
          clear kb
          go_wp2_with fail
          exact ⟨rfl, rfl, hJ.out.same (by rfl) (NE8.out.keep hJ.out.held.keep)⟩
        simp only [Act.put, List.setIfInBounds_toArray, List.set_cons_zero, List.set_cons_succ, Nat.reduceAdd]
        refine Steps.held ?_ ?_
        · intro L v w' hJ
          have X0 := Lib.hid (show RF w' (v 3) (a.1) (a.2) from hJ.out.fact 3 (by kernel_rfl))
          have X1 := Lib.hid (show RF w' (v 4) (b.1) (b.2) from hJ.out.fact 4 (by kernel_rfl))
          go_wp2_with fail
          with_reducible refine (HXM.out _ _ _ X0.out X1.out).mono ?_
          rintro e w1 ⟨u, rfl, hu, hb⟩
          go_wp2_with fail
          exact ⟨rfl, rfl, hJ.out.call (by rfl) hb (hu)⟩
        simp only [Act.put, List.setIfInBounds_toArray, List.set_cons_zero, List.set_cons_succ, Nat.reduceAdd]
        refine Steps.held ?_ ?_
        · intro L v w' hJ
          have X0 := Lib.hid (show F64 w' (v 2) (p.1) (p.2) from hJ.out.fact 2 (by kernel_rfl))
          have X1 := Lib.hid (show RF w' (v 5) (p.1) (p.2) from hJ.out.fact 5 (by kernel_rfl))
          go_wp2_with fail
          with_reducible refine (HIM.out _ _ _ X0.out X1.out).mono ?_
          rintro e w1 ⟨rfl, hb⟩
          go_wp2_with fail
          exact ⟨rfl, rfl, hJ.out.call (by rfl) hb (rfl)⟩
        simp only [Act.put, List.setIfInBounds_toArray, List.set_cons_zero, List.set_cons_succ, Nat.reduceAdd]
        refine Steps.held ?_ ?_
        · intro L v w' hJ
          have hv6 : v 6 = .bool true := hJ.out.fact 6 (by kernel_rfl)
          simp only [hv6]
          clear hv6
          go_wp2_with fail
          exact ⟨rfl, rfl, hJ.out.same (by rfl) (rfl)⟩
        simp only [Act.put, List.setIfInBounds_toArray, List.set_cons_zero, List.set_cons_succ, Nat.reduceAdd]
        refine Steps.nil ?_
        intro v w' hJ
        have h7 : v 7 = .bool false := hJ.end_fact 7 (by decide)
        simp only [h7]
        clear h7
        have hbr := hJ.but.below
        replace NE5 := Lib.hid (NE5.out.below hbr)
        replace NE6 := Lib.hid (NE6.out.below hbr)
        replace NE7 := Lib.hid (NE7.out.below hbr)
        replace NE8 := Lib.hid (NE8.out.below hbr)
        replace NS := Lib.hid (NS.out.below hbr)
        replace E5 := Lib.hid (blk_below E5.out hbr)
        replace E6 := Lib.hid (blk_below E6.out hbr)
        replace E7 := Lib.hid (blk_below E7.out hbr)
        replace E8 := Lib.hid (blk_below E8.out hbr)
        replace E9 := Lib.hid (blk_below E9.out hbr)
        replace HB0 := Lib.hid (cbt HB0.out hbr)
        clear hJ hbr
        have hlen := len_R256 (RF.fst NE8.out)
        have hd1 : ((p8 : Int) == 0) = true := beq_iff_eq.2 (by omega)
        clear hlen hwb
        have k_E8_0 := E8.out.cell 0
        have k_E8_1 := E8.out.cell 1
        have k_E9_0 := E9.out.cell 0
        have k_E9_1 := E9.out.cell 1
        go_wp2_with fail
        with_reducible refine (HZ0.out _ _ NS.out).mono ?_
        rintro e w6 ⟨rfl, hb⟩
        clear k_E8_0 k_E8_1 k_E9_0 k_E9_1
        replace NS := Lib.hid (NS.out.below hb)
        replace E8 := Lib.hid (blk_below E8.out hb)
        replace E9 := Lib.hid (blk_below E9.out hb)
        replace HB0 := Lib.hid (cbt HB0.out hb)
        clear hb
        have k_E8_0 := E8.out.cell 0
        have k_E8_1 := E8.out.cell 1
        have k_E9_0 := E9.out.cell 0
        have k_E9_1 := E9.out.cell 1
        go_wp2_with fail
        with_reducible refine (HLV.out _).mono ?_
        rintro e w7 ⟨rfl, hb⟩
        clear k_E8_0 k_E8_1 k_E9_0 k_E9_1
        replace NS := Lib.hid (NS.out.below hb)
        replace E8 := Lib.hid (blk_below E8.out hb)
        replace E9 := Lib.hid (blk_below E9.out hb)
        replace HB0 := Lib.hid (cbt HB0.out hb)
        clear hb
        have k_E8_0 := E8.out.cell 0
        have k_E8_1 := E8.out.cell 1
        have k_E9_0 := E9.out.cell 0
        have k_E9_1 := E9.out.cell 1
        go_wp2_with fail
        go_ret
        exact ⟨rfl, HB0.out⟩
      · have hbp : 0 < b.1 := Nat.pos_of_ne_zero hb0
        have rq := divR_red (b := b) ra hbp
        have sq := (sa.div sb).mono (C := 40) (by decide)
        have sq' := sq.mono (C := 80) (by decide)
        have heq := mulR_div ra rb hbp
        have sp2 := (sq.mul sb).mono (C := 80) (by decide)
        have hwb : wl 8 b.1 ≠ 0 := fun h => hb0 ((wl_eq_zero (by decide)).1 h)
        have HDV := Lib.hid (fun va vb W h1 h2 => c_div (va := va) (vb := vb) (W := W) (B := 80) (by decide) sa' sb' hbp h1 h2)
        have HXD := Lib.hid (fun va vb W h1 h2 => c_xdiv (va := va) (vb := vb) (W := W) (B := 80) (by decide) ra hbp sa' sb' h1 h2)
        have HIQ := Lib.hid (fun va vb W h1 h2 => c_is (va := va) (vb := vb) (W := W) (B := 80) (by decide) sq' h1 h2)
        have HM2 := Lib.hid (fun va vb W h1 h2 => c_mul (va := va) (vb := vb) (W := W) (B := 80) (by decide) sq' sb' h1 h2)
        have HCE := Lib.hid (fun va vb W h1 h2 => c_cmpeq (va := va) (vb := vb) (W := W) (B := 80) (by decide) sp2 sa' heq h1 h2)
        generalize mulR (divR a b) b = r at *
        generalize divR a b = q at *
        clear hbp rq sq sq' heq sp2
        have HMU := Lib.hid (fun va vb W h1 h2 => c_mul (va := va) (vb := vb) (W := W) (B := 80) (by decide) sa' sb' h1 h2)
        have HXM := Lib.hid (fun va vb W h1 h2 => c_xmul (va := va) (vb := vb) (W := W) (B := 80) (by decide) ra rb sa' sb' h1 h2)
        have sm := (sa.mul sb).mono (C := 80) (by decide)
        have HIM := Lib.hid (fun va vb W h1 h2 => c_is (va := va) (vb := vb) (W := W) (B := 80) (by decide) sm h1 h2)
        have HLV := Lib.hid live26_any
        generalize mulR a b = p at *
        clear ra rb sa sb sa' sb' sm ylx ymx yly ymy hxx hyx hxy hyy hb0
        have e0 := (Blk.new (w) 45 #[(.slice Ux nx cx), (.slice Vx kx dx)]).alloc (.cells #[(.slice Uy ny cy), (.slice Vy ky dy)] 45)
        have e1 := Blk.new ((w).alloc (.cells #[(.slice Ux nx cx), (.slice Vx kx dx)] 45)) 45 #[(.slice Uy ny cy), (.slice Vy ky dy)]
        have hb := cba (cba (Below.refl _ w) (.cells #[(.slice Ux nx cx), (.slice Vx kx dx)] 45)) (.cells #[(.slice Uy ny cy), (.slice Vy ky dy)] 45)
        simp only [World.size_alloc] at e1
        have hsz : w.heap.size ≤ w.heap.size := Nat.le_refl _
        go_enter Try.func17, Try.ntmps17
        go_upto_region 1 with (fail)
        obtain ⟨S, hS⟩ : ∃ S, ((w).alloc (.cells #[(.slice Ux nx cx), (.slice Vx kx dx)] 45)).alloc (.cells #[(.slice Uy ny cy), (.slice Vy ky dy)] 45) = S := ⟨_, rfl⟩
        rw [hS] at e0 e1 hb ⊢
        replace Hx := Lib.hid (Hx.out.below hb)
        replace Hy := Lib.hid (Hy.out.below hb)
        have HB0 := Lib.hid hb
        have E0 := Lib.hid e0
        have E1 := Lib.hid e1
        clear hS hb hsz e0 e1
        have k_E0_0 := E0.out.cell 0
        have k_E0_1 := E0.out.cell 1
        have k_E1_0 := E1.out.cell 0
        have k_E1_1 := E1.out.cell 1
        go_wp2_with fail
        with_reducible refine (HSx.out _ _ Hx.out).mono ?_
        rintro e w1 ⟨rfl, hb⟩
        clear k_E0_0 k_E0_1 k_E1_0 k_E1_1
        replace Hx := Lib.hid (Hx.out.below hb)
        replace Hy := Lib.hid (Hy.out.below hb)
        replace E0 := Lib.hid (blk_below E0.out hb)
        replace E1 := Lib.hid (blk_below E1.out hb)
        replace HB0 := Lib.hid (cbt HB0.out hb)
        clear hb
        have k_E0_0 := E0.out.cell 0
        have k_E0_1 := E0.out.cell 1
        have k_E1_0 := E1.out.cell 0
        have k_E1_1 := E1.out.cell 1
        go_wp2_with fail
        with_reducible refine (HSy.out _ _ Hy.out).mono ?_
        rintro e w1 ⟨rfl, hb⟩
        clear k_E0_0 k_E0_1 k_E1_0 k_E1_1
        replace Hx := Lib.hid (Hx.out.below hb)
        replace Hy := Lib.hid (Hy.out.below hb)
        replace E0 := Lib.hid (blk_below E0.out hb)
        replace E1 := Lib.hid (blk_below E1.out hb)
        replace HB0 := Lib.hid (cbt HB0.out hb)
        clear hb
        have k_E0_0 := E0.out.cell 0
        have k_E0_1 := E0.out.cell 1
        have k_E1_0 := E1.out.cell 0
        have k_E1_1 := E1.out.cell 1
        go_wp2_with fail
        clear k_E0_0 k_E0_1 k_E1_0 k_E1_1
        let FS : List Kept1 := [.frc (lx) (mx), .f (a.1) (a.2), .frc (ly) (my), .f (b.1) (b.2), .any, .any, .any, .any]
        let BS : List Bx := [Bx.rat (.inl 4) 6 #[.slice none 0 0, .slice none 0 0] (a.1) (a.2), Bx.rat (.inl 5) 7 #[.slice none 0 0, .slice none 0 0] (b.1) (b.2)]
        refine region_mono (Held w1 (fun j => FS.getD j .any) BS) (by kernel_rfl) (by kernel_rfl) (by kernel_rfl) (Held.start _ _ _ (by simp [BS, Bx.nat, Bx.rat, Bx.ref]) (by simp [BS, Bx.nat, Bx.rat, Bx.ref])) ?_
        refine Steps.held ?_ ?_
        · intro L v w' hJ
          have kb := hJ.out.blk E0.out (by simp [oldsOf, BS, Bx.nat, Bx.rat, Bx.ref])
          have k0 := kb.cell 0
          have k1 := kb.cell 1
          clear kb
          go_wp2_with fail
          exact ⟨rfl, rfl, hJ.out.same (by rfl) (Hx.out.keep hJ.out.held.keep)⟩
        simp only [Act.put, List.setIfInBounds_toArray, List.set_cons_zero, List.set_cons_succ, Nat.reduceAdd]
        refine Steps.held ?_ ?_
        · intro L v w' hJ
          have X0 := Lib.hid (show Frc w' (v 0) (lx) (mx) from hJ.out.fact 0 (by kernel_rfl))
          go_wp2_with fail
          with_reducible refine (HTa.out _ _ X0.out).mono ?_
          rintro e w1 ⟨u, rfl, hu, hb⟩
          go_wp2_with fail
          exact ⟨rfl, rfl, hJ.out.call (by rfl) hb (hu)⟩
        simp only [Act.put, List.setIfInBounds_toArray, List.set_cons_zero, List.set_cons_succ, Nat.reduceAdd]
        refine Steps.held ?_ ?_
        · intro L v w' hJ
          have kb := hJ.out.blk E1.out (by simp [oldsOf, BS, Bx.nat, Bx.rat, Bx.ref])
          have k0 := kb.cell 0
          have k1 := kb.cell 1
          clear kb
          go_wp2_with fail
          exact ⟨rfl, rfl, hJ.out.same (by rfl) (Hy.out.keep hJ.out.held.keep)⟩
        simp only [Act.put, List.setIfInBounds_toArray, List.set_cons_zero, List.set_cons_succ, Nat.reduceAdd]
        refine Steps.held ?_ ?_
        · intro L v w' hJ
          have X0 := Lib.hid (show Frc w' (v 2) (ly) (my) from hJ.out.fact 2 (by kernel_rfl))
          go_wp2_with fail
          with_reducible refine (HTb.out _ _ X0.out).mono ?_
          rintro e w1 ⟨u, rfl, hu, hb⟩
          go_wp2_with fail
          exact ⟨rfl, rfl, hJ.out.call (by rfl) hb (hu)⟩
        simp only [Act.put, List.setIfInBounds_toArray, List.set_cons_zero, List.set_cons_succ, Nat.reduceAdd]
        refine Steps.held ?_ ?_
        · intro L v w' hJ
          go_wp2_with fail
          exact ⟨rfl, rfl, hJ.out.made 0 _ rfl rfl (by rfl) trivial⟩
        simp only [Act.put, List.setIfInBounds_toArray, List.set_cons_zero, List.set_cons_succ, Nat.reduceAdd]
        refine Steps.held ?_ ?_
        · intro L v w' hJ
          go_wp2_with fail
          exact ⟨rfl, rfl, hJ.out.made 1 _ rfl rfl (by rfl) trivial⟩
        simp only [Act.put, List.setIfInBounds_toArray, List.set_cons_zero, List.set_cons_succ, Nat.reduceAdd]
        refine Steps.held ?_ ?_
        · intro L v w' hJ
          obtain ⟨g, hg, hge, hown, hst⟩ := hJ.out.newbox 0 _ rfl 4 rfl (by kernel_rfl)
          have hN : F64 w' (v 1) (a.1) (a.2) := hJ.out.fact 1 (by kernel_rfl)
          obtain ⟨A1, p1, c1, B1, q1, e1, x1, hv, h1, h2, h3⟩ := hN
          have HN := Lib.hid (show F64 w' (.agg #[.slice A1 p1 c1, .slice B1 q1 e1]) (a.1) (a.2) from ⟨A1, p1, c1, B1, q1, e1, x1, rfl, h1, h2, h3⟩)
          have kb := hJ.out.box 0 _ rfl rfl g hown
          have k0 : w'.cell? ⟨g, 0, none⟩ = some (.slice none 0 0) := kb.cell 0
          have k1 : w'.cell? ⟨g, 1, none⟩ = some (.slice none 0 0) := kb.cell 1
          have f0 := kb.frozen 0
          have f1 := kb.frozen 1
          have HO := Lib.hid hown
          have HS := Lib.hid hst
          clear kb h1 h2 h3 hown hst
          simp only [hg, hv]
          clear hg hv
          go_wp2_with fail
          exact ⟨rfl, rfl, hJ.out.fill2 0 _ rfl rfl (by rfl) g HO.out HS.out _ _ rfl rfl rfl (fun W k => HN.out.keep k) (fun _ => trivial)⟩
        simp only [Act.put, List.setIfInBounds_toArray, List.set_cons_zero, List.set_cons_succ, Nat.reduceAdd]
        refine Steps.held ?_ ?_
        · intro L v w' hJ
          obtain ⟨g, hg, hge, hown, hst⟩ := hJ.out.newbox 1 _ rfl 5 rfl (by kernel_rfl)
          have hN : F64 w' (v 3) (b.1) (b.2) := hJ.out.fact 3 (by kernel_rfl)
          obtain ⟨A1, p1, c1, B1, q1, e1, x1, hv, h1, h2, h3⟩ := hN
          have HN := Lib.hid (show F64 w' (.agg #[.slice A1 p1 c1, .slice B1 q1 e1]) (b.1) (b.2) from ⟨A1, p1, c1, B1, q1, e1, x1, rfl, h1, h2, h3⟩)
          have kb := hJ.out.box 1 _ rfl rfl g hown
          have k0 : w'.cell? ⟨g, 0, none⟩ = some (.slice none 0 0) := kb.cell 0
          have k1 : w'.cell? ⟨g, 1, none⟩ = some (.slice none 0 0) := kb.cell 1
          have f0 := kb.frozen 0
          have f1 := kb.frozen 1
          have HO := Lib.hid hown
          have HS := Lib.hid hst
          clear kb h1 h2 h3 hown hst
          simp only [hg, hv]
          clear hg hv
          go_wp2_with fail
          exact ⟨rfl, rfl, hJ.out.fill2 1 _ rfl rfl (by rfl) g HO.out HS.out _ _ rfl rfl rfl (fun W k => HN.out.keep k) (fun _ => trivial)⟩
        simp only [Act.put, List.setIfInBounds_toArray, List.set_cons_zero, List.set_cons_succ, Nat.reduceAdd]
        refine Steps.nil ?_
        intro v w' hJ
        obtain ⟨g5, cs4, hv4, hge4, hb4, hf4⟩ := hJ.end_new 0 _ rfl 4 rfl (by decide) (Nat.le_of_ble_eq_true rfl)
        have hfx : F64 w' (.agg cs4) a.1 a.2 := hf4
        obtain ⟨A4, p4, c4, B4, q4, e4, x4, hcs4, h1, h2, h3⟩ := hfx
        have hcs4' := Value.agg.inj hcs4
        subst hcs4'
        simp only [hv4]
        have E5 := Lib.hid (show Blk w' g5 47 #[.slice A4 p4 c4, .slice B4 q4 e4] from hb4)
        have NE5 := Lib.hid (show F64 w' (.agg #[.slice A4 p4 c4, .slice B4 q4 e4]) a.1 a.2 from hf4)
        clear hv4 hb4 hf4 hcs4 h1 h2
        obtain ⟨g6, cs5, hv5, hge5, hb5, hf5⟩ := hJ.end_new 1 _ rfl 5 rfl (by decide) (Nat.le_of_ble_eq_true rfl)
        have hfx : F64 w' (.agg cs5) b.1 b.2 := hf5
        obtain ⟨A5, p5, c5, B5, q5, e5, x5, hcs5, h1, h2, h3⟩ := hfx
        have hcs5' := Value.agg.inj hcs5
        subst hcs5'
        simp only [hv5]
        have E6 := Lib.hid (show Blk w' g6 47 #[.slice A5 p5 c5, .slice B5 q5 e5] from hb5)
        have NE6 := Lib.hid (show F64 w' (.agg #[.slice A5 p5 c5, .slice B5 q5 e5]) b.1 b.2 from hf5)
        clear hv5 hb5 hf5 hcs5 h1 h2
        have hbr := hJ.but.below
        replace Hx := Lib.hid (Hx.out.below hbr)
        replace Hy := Lib.hid (Hy.out.below hbr)
        replace E0 := Lib.hid (blk_below E0.out hbr)
        replace E1 := Lib.hid (blk_below E1.out hbr)
        replace HB0 := Lib.hid (cbt HB0.out hbr)
        clear hJ hbr
        go_wp2_with fail
        let FS : List Kept1 := [.frc (lx) (mx), .rf (a.1) (a.2), .frc (ly) (my), .rf (b.1) (b.2), .any, .any, .any, .any]
        let BS : List Bx := [Bx.ref (.inl 4) 6 #[.slice none 0 0, .slice none 0 0] (a.1) (a.2), Bx.ref (.inl 5) 7 #[.slice none 0 0, .slice none 0 0] (b.1) (b.2)]
        refine region_mono (Held w' (fun j => FS.getD j .any) BS) (by kernel_rfl) (by kernel_rfl) (by kernel_rfl) (Held.start _ _ _ (by simp [BS, Bx.nat, Bx.rat, Bx.ref]) (by simp [BS, Bx.nat, Bx.rat, Bx.ref])) ?_
        refine Steps.held ?_ ?_
        · intro L v w' hJ
          have kb := hJ.out.blk E0.out (by simp [oldsOf, BS, Bx.nat, Bx.rat, Bx.ref])
          have k0 := kb.cell 0
          have k1 := kb.cell 1
          clear kb
          go_wp2_with fail
          exact ⟨rfl, rfl, hJ.out.same (by rfl) (Hx.out.keep hJ.out.held.keep)⟩
        simp only [Act.put, List.setIfInBounds_toArray, List.set_cons_zero, List.set_cons_succ, Nat.reduceAdd]
        refine Steps.held ?_ ?_
        · intro L v w' hJ
          have X0 := Lib.hid (show Frc w' (v 0) (lx) (mx) from hJ.out.fact 0 (by kernel_rfl))
          go_wp2_with fail
          with_reducible refine (HRa.out _ _ X0.out).mono ?_
          rintro e w1 ⟨u, rfl, hu, hb⟩
          go_wp2_with fail
          exact ⟨rfl, rfl, hJ.out.call (by rfl) hb (hu)⟩
        simp only [Act.put, List.setIfInBounds_toArray, List.set_cons_zero, List.set_cons_succ, Nat.reduceAdd]
        refine Steps.held ?_ ?_
        · intro L v w' hJ
          have kb := hJ.out.blk E1.out (by simp [oldsOf, BS, Bx.nat, Bx.rat, Bx.ref])
          have k0 := kb.cell 0
          have k1 := kb.cell 1
          clear kb
          go_wp2_with fail
          exact ⟨rfl, rfl, hJ.out.same (by rfl) (Hy.out.keep hJ.out.held.keep)⟩
        simp only [Act.put, List.setIfInBounds_toArray, List.set_cons_zero, List.set_cons_succ, Nat.reduceAdd]
        refine Steps.held ?_ ?_
        · intro L v w' hJ
          have X0 := Lib.hid (show Frc w' (v 2) (ly) (my) from hJ.out.fact 2 (by kernel_rfl))
          go_wp2_with fail
          with_reducible refine (HRb.out _ _ X0.out).mono ?_
          rintro e w1 ⟨u, rfl, hu, hb⟩
          go_wp2_with fail
          exact ⟨rfl, rfl, hJ.out.call (by rfl) hb (hu)⟩
        simp only [Act.put, List.setIfInBounds_toArray, List.set_cons_zero, List.set_cons_succ, Nat.reduceAdd]
        refine Steps.held ?_ ?_
        · intro L v w' hJ
          go_wp2_with fail
          exact ⟨rfl, rfl, hJ.out.made 0 _ rfl rfl (by rfl) trivial⟩
        simp only [Act.put, List.setIfInBounds_toArray, List.set_cons_zero, List.set_cons_succ, Nat.reduceAdd]
        refine Steps.held ?_ ?_
        · intro L v w' hJ
          go_wp2_with fail
          exact ⟨rfl, rfl, hJ.out.made 1 _ rfl rfl (by rfl) trivial⟩
        simp only [Act.put, List.setIfInBounds_toArray, List.set_cons_zero, List.set_cons_succ, Nat.reduceAdd]
        refine Steps.held ?_ ?_
        · intro L v w' hJ
          obtain ⟨g, hg, hge, hown, hst⟩ := hJ.out.newbox 0 _ rfl 4 rfl (by kernel_rfl)
          have hN : RF w' (v 1) (a.1) (a.2) := hJ.out.fact 1 (by kernel_rfl)
          obtain ⟨A1, p1, c1, B1, q1, e1, hv, h1, h2⟩ := hN
          have HN := Lib.hid (show RF w' (.agg #[.slice A1 p1 c1, .slice B1 q1 e1]) (a.1) (a.2) from ⟨A1, p1, c1, B1, q1, e1, rfl, h1, h2⟩)
          have kb := hJ.out.box 0 _ rfl rfl g hown
          have k0 : w'.cell? ⟨g, 0, none⟩ = some (.slice none 0 0) := kb.cell 0
          have k1 : w'.cell? ⟨g, 1, none⟩ = some (.slice none 0 0) := kb.cell 1
          have f0 := kb.frozen 0
          have f1 := kb.frozen 1
          have HO := Lib.hid hown
          have HS := Lib.hid hst
          clear kb h1 h2 hown hst
          simp only [hg, hv]
          clear hg hv
          go_wp2_with fail
          exact ⟨rfl, rfl, hJ.out.fill2 0 _ rfl rfl (by rfl) g HO.out HS.out _ _ rfl rfl rfl (fun W k => HN.out.keep k) (fun _ => trivial)⟩
        simp only [Act.put, List.setIfInBounds_toArray, List.set_cons_zero, List.set_cons_succ, Nat.reduceAdd]
        refine Steps.held ?_ ?_
        · intro L v w' hJ
          obtain ⟨g, hg, hge, hown, hst⟩ := hJ.out.newbox 1 _ rfl 5 rfl (by kernel_rfl)
          have hN : RF w' (v 3) (b.1) (b.2) := hJ.out.fact 3 (by kernel_rfl)
          obtain ⟨A1, p1, c1, B1, q1, e1, hv, h1, h2⟩ := hN
          have HN := Lib.hid (show RF w' (.agg #[.slice A1 p1 c1, .slice B1 q1 e1]) (b.1) (b.2) from ⟨A1, p1, c1, B1, q1, e1, rfl, h1, h2⟩)
          have kb := hJ.out.box 1 _ rfl rfl g hown
          have k0 : w'.cell? ⟨g, 0, none⟩ = some (.slice none 0 0) := kb.cell 0
          have k1 : w'.cell? ⟨g, 1, none⟩ = some (.slice none 0 0) := kb.cell 1
          have f0 := kb.frozen 0
          have f1 := kb.frozen 1
          have HO := Lib.hid hown
          have HS := Lib.hid hst
          clear kb h1 h2 hown hst
          simp only [hg, hv]
          clear hg hv
          go_wp2_with fail
          exact ⟨rfl, rfl, hJ.out.fill2 1 _ rfl rfl (by rfl) g HO.out HS.out _ _ rfl rfl rfl (fun W k => HN.out.keep k) (fun _ => trivial)⟩
        simp only [Act.put, List.setIfInBounds_toArray, List.set_cons_zero, List.set_cons_succ, Nat.reduceAdd]
        refine Steps.nil ?_
        intro v w' hJ
        obtain ⟨g7, cs4, hv4, hge7, hb4, hf4⟩ := hJ.end_new 0 _ rfl 4 rfl (by decide) (Nat.le_of_ble_eq_true rfl)
        have hfx : RF w' (.agg cs4) a.1 a.2 := hf4
        obtain ⟨A7, p7, c7, B7, q7, e7, hcs4, h1, h2⟩ := hfx
        have hcs4' := Value.agg.inj hcs4
        subst hcs4'
        simp only [hv4]
        have E7 := Lib.hid (show Blk w' g7 52 #[.slice A7 p7 c7, .slice B7 q7 e7] from hb4)
        have NE7 := Lib.hid (show RF w' (.agg #[.slice A7 p7 c7, .slice B7 q7 e7]) a.1 a.2 from hf4)
        clear hv4 hb4 hf4 hcs4 h1 h2
        obtain ⟨g8, cs5, hv5, hge8, hb5, hf5⟩ := hJ.end_new 1 _ rfl 5 rfl (by decide) (Nat.le_of_ble_eq_true rfl)
        have hfx : RF w' (.agg cs5) b.1 b.2 := hf5
        obtain ⟨A8, p8, c8, B8, q8, e8, hcs5, h1, h2⟩ := hfx
        have hcs5' := Value.agg.inj hcs5
        subst hcs5'
        simp only [hv5]
        have E8 := Lib.hid (show Blk w' g8 52 #[.slice A8 p8 c8, .slice B8 q8 e8] from hb5)
        have NE8 := Lib.hid (show RF w' (.agg #[.slice A8 p8 c8, .slice B8 q8 e8]) b.1 b.2 from hf5)
        clear hv5 hb5 hf5 hcs5 h1 h2
        have hbr := hJ.but.below
        replace NE5 := Lib.hid (NE5.out.below hbr)
        replace NE6 := Lib.hid (NE6.out.below hbr)
        replace E5 := Lib.hid (blk_below E5.out hbr)
        replace E6 := Lib.hid (blk_below E6.out hbr)
        replace HB0 := Lib.hid (cbt HB0.out hbr)
        clear hJ hbr
        have k_E5_0 := E5.out.cell 0
        have k_E5_1 := E5.out.cell 1
        have k_E6_0 := E6.out.cell 0
        have k_E6_1 := E6.out.cell 1
        have k_E7_0 := E7.out.cell 0
        have k_E7_1 := E7.out.cell 1
        have k_E8_0 := E8.out.cell 0
        have k_E8_1 := E8.out.cell 1
        go_wp2_with fail
        with_reducible refine (HDV.out _ _ _ NE5.out NE6.out).mono ?_
        rintro e w4 ⟨u9, rfl, hu, hb⟩
        clear k_E5_0 k_E5_1 k_E6_0 k_E6_1 k_E7_0 k_E7_1 k_E8_0 k_E8_1
        replace NE5 := Lib.hid (NE5.out.below hb)
        replace NE6 := Lib.hid (NE6.out.below hb)
        replace NE7 := Lib.hid (NE7.out.below hb)
        replace NE8 := Lib.hid (NE8.out.below hb)
        replace E5 := Lib.hid (blk_below E5.out hb)
        replace E6 := Lib.hid (blk_below E6.out hb)
        replace E7 := Lib.hid (blk_below E7.out hb)
        replace E8 := Lib.hid (blk_below E8.out hb)
        replace HB0 := Lib.hid (cbt HB0.out hb)
        have NS := Lib.hid hu
        clear hb hu
        have k_E5_0 := E5.out.cell 0
        have k_E5_1 := E5.out.cell 1
        have k_E6_0 := E6.out.cell 0
        have k_E6_1 := E6.out.cell 1
        have k_E7_0 := E7.out.cell 0
        have k_E7_1 := E7.out.cell 1
        have k_E8_0 := E8.out.cell 0
        have k_E8_1 := E8.out.cell 1
        have Z0 := NS.out
        obtain ⟨AT0, pT0, cT0, BT0, qT0, eT0, xT0, rfl, _, _, _⟩ := Z0
        have e9 := Blk.new w4 47 #[.slice AT0 pT0 cT0, .slice BT0 qT0 eT0]
        have hb := cba (Below.refl _ w4) (.cells #[.slice AT0 pT0 cT0, .slice BT0 qT0 eT0] 47)
        go_upto_region 6 with (fail)
        obtain ⟨T, hS⟩ : ∃ S, (w4.alloc (.cells #[.slice AT0 pT0 cT0, .slice BT0 qT0 eT0] 47)) = S := ⟨_, rfl⟩
        rw [hS] at e9 hb ⊢
        obtain ⟨g9, hg⟩ : ∃ g, w4.heap.size = g := ⟨_, rfl⟩
        rw [hg] at e9
        simp only [hg]
        replace NE5 := Lib.hid (NE5.out.below hb)
        replace NE6 := Lib.hid (NE6.out.below hb)
        replace NE7 := Lib.hid (NE7.out.below hb)
        replace NE8 := Lib.hid (NE8.out.below hb)
        replace NS := Lib.hid (NS.out.below hb)
        replace E5 := Lib.hid (blk_below E5.out hb)
        replace E6 := Lib.hid (blk_below E6.out hb)
        replace E7 := Lib.hid (blk_below E7.out hb)
        replace E8 := Lib.hid (blk_below E8.out hb)
        replace HB0 := Lib.hid (cbt HB0.out hb)
        have E9 := Lib.hid e9
        clear hS hg hb e9 k_E5_0 k_E5_1 k_E6_0 k_E6_1 k_E7_0 k_E7_1 k_E8_0 k_E8_1
        go_wp2_with fail
        let FS : List Kept1 := [.f (a.1) (a.2), .f (b.1) (b.2), .f (p.1) (p.2), .rf (a.1) (a.2), .rf (b.1) (b.2), .rf (p.1) (p.2), .eq (.bool true), .eq (.bool false)]
        refine region_mono (Held T (fun j => FS.getD j .any) []) (by kernel_rfl) (by kernel_rfl) (by kernel_rfl) (Held.start _ _ _ (by simp) (by simp)) ?_
        refine Steps.held ?_ ?_
        · intro L v w' hJ
          have kb := hJ.out.blk E5.out (by simp [oldsOf])
          have k0 := kb.cell 0
          have k1 := kb.cell 1
          clear kb
          go_wp2_with fail
          exact ⟨rfl, rfl, hJ.out.same (by rfl) (NE5.out.keep hJ.out.held.keep)⟩
        simp only [Act.put, List.setIfInBounds_toArray, List.set_cons_zero, List.set_cons_succ, Nat.reduceAdd]
        refine Steps.held ?_ ?_
        · intro L v w' hJ
          have kb := hJ.out.blk E6.out (by simp [oldsOf])
          have k0 := kb.cell 0
          have k1 := kb.cell 1
          clear kb
          go_wp2_with fail
          exact ⟨rfl, rfl, hJ.out.same (by rfl) (NE6.out.keep hJ.out.held.keep)⟩
        simp only [Act.put, List.setIfInBounds_toArray, List.set_cons_zero, List.set_cons_succ, Nat.reduceAdd]
        refine Steps.held ?_ ?_
        · intro L v w' hJ
          have X0 := Lib.hid (show F64 w' (v 0) (a.1) (a.2) from hJ.out.fact 0 (by kernel_rfl))
          have X1 := Lib.hid (show F64 w' (v 1) (b.1) (b.2) from hJ.out.fact 1 (by kernel_rfl))
          go_wp2_with fail
          with_reducible refine (HMU.out _ _ _ X0.out X1.out).mono ?_
          rintro e w1 ⟨u, rfl, hu, hb⟩
          go_wp2_with fail
          exact ⟨rfl, rfl, hJ.out.call (by rfl) hb (hu)⟩
        simp only [Act.put, List.setIfInBounds_toArray, List.set_cons_zero, List.set_cons_succ, Nat.reduceAdd]
        refine Steps.held ?_ ?_
        · intro L v w' hJ
          have kb := hJ.out.blk E7.out (by simp [oldsOf])
          have k0 := kb.cell 0
          have k1 := kb.cell 1
          clear kb
          go_wp2_with fail
          exact ⟨rfl, rfl, hJ.out.same (by rfl) (NE7.out.keep hJ.out.held.keep)⟩
        simp only [Act.put, List.setIfInBounds_toArray, List.set_cons_zero, List.set_cons_succ, Nat.reduceAdd]
        refine Steps.held ?_ ?_
        · intro L v w' hJ
          have kb := hJ.out.blk E8.out (by simp [oldsOf])
          have k0 := kb.cell 0
          have k1 := kb.cell 1
          clear kb
          go_wp2_with fail
          exact ⟨rfl, rfl, hJ.out.same (by rfl) (NE8.out.keep hJ.out.held.keep)⟩
        simp only [Act.put, List.setIfInBounds_toArray, List.set_cons_zero, List.set_cons_succ, Nat.reduceAdd]
        refine Steps.held ?_ ?_
        · intro L v w' hJ
          have X0 := Lib.hid (show RF w' (v 3) (a.1) (a.2) from hJ.out.fact 3 (by kernel_rfl))
          have X1 := Lib.hid (show RF w' (v 4) (b.1) (b.2) from hJ.out.fact 4 (by kernel_rfl))
          go_wp2_with fail
          with_reducible refine (HXM.out _ _ _ X0.out X1.out).mono ?_
          rintro e w1 ⟨u, rfl, hu, hb⟩
          go_wp2_with fail
          exact ⟨rfl, rfl, hJ.out.call (by rfl) hb (hu)⟩
        simp only [Act.put, List.setIfInBounds_toArray, List.set_cons_zero, List.set_cons_succ, Nat.reduceAdd]
        refine Steps.held ?_ ?_
        · intro L v w' hJ
          have X0 := Lib.hid (show F64 w' (v 2) (p.1) (p.2) from hJ.out.fact 2 (by kernel_rfl))
          have X1 := Lib.hid (show RF w' (v 5) (p.1) (p.2) from hJ.out.fact 5 (by kernel_rfl))
          go_wp2_with fail
          with_reducible refine (HIM.out _ _ _ X0.out X1.out).mono ?_
          rintro e w1 ⟨rfl, hb⟩
          go_wp2_with fail
          exact ⟨rfl, rfl, hJ.out.call (by rfl) hb (rfl)⟩
        simp only [Act.put, List.setIfInBounds_toArray, List.set_cons_zero, List.set_cons_succ, Nat.reduceAdd]
        refine Steps.held ?_ ?_
        · intro L v w' hJ
          have hv6 : v 6 = .bool true := hJ.out.fact 6 (by kernel_rfl)
          simp only [hv6]
          clear hv6
          go_wp2_with fail
          exact ⟨rfl, rfl, hJ.out.same (by rfl) (rfl)⟩
        simp only [Act.put, List.setIfInBounds_toArray, List.set_cons_zero, List.set_cons_succ, Nat.reduceAdd]
        refine Steps.nil ?_
        intro v w' hJ
        have h7 : v 7 = .bool false := hJ.end_fact 7 (by decide)
        simp only [h7]
        clear h7
        have hbr := hJ.but.below
        replace NE5 := Lib.hid (NE5.out.below hbr)
        replace NE6 := Lib.hid (NE6.out.below hbr)
        replace NE7 := Lib.hid (NE7.out.below hbr)
        replace NE8 := Lib.hid (NE8.out.below hbr)
        replace NS := Lib.hid (NS.out.below hbr)
        replace E5 := Lib.hid (blk_below E5.out hbr)
        replace E6 := Lib.hid (blk_below E6.out hbr)
        replace E7 := Lib.hid (blk_below E7.out hbr)
        replace E8 := Lib.hid (blk_below E8.out hbr)
        replace E9 := Lib.hid (blk_below E9.out hbr)
        replace HB0 := Lib.hid (cbt HB0.out hbr)
        clear hJ hbr
        have hlen := len_R256 (RF.fst NE8.out)
        have hd1 : ((p8 : Int) == 0) = false := beq_eq_false_iff_ne.2 (by omega)
        clear hlen hwb
        have k80 := E8.out.cell 0
        have k81 := E8.out.cell 1
        go_wp2_with fail
        clear k80 k81
        let FS : List Kept1 := [.eq (.int .i64 0), .eq (.bool true), .eq (.bool true), .f (q.1) (q.2), .rf (a.1) (a.2), .rf (b.1) (b.2), .rf (q.1) (q.2), .eq (.bool true), .eq (.bool true), .eq (.bool true), .f (q.1) (q.2), .f (b.1) (b.2), .f (r.1) (r.2), .f (a.1) (a.2), .eq (.int .i64 0), .eq (.bool true), .eq (.bool true), .eq (.bool true), .eq (.bool true), .eq (.bool true), .eq (.bool true)]
        refine region_mono (Held w' (fun j => FS.getD j .any) []) (by kernel_rfl) (by kernel_rfl) (by kernel_rfl) (Held.start _ _ _ (by simp) (by simp)) ?_
        refine Steps.held ?_ ?_
        · intro L v w' hJ
          go_wp2_with fail
          exact ⟨rfl, rfl, hJ.out.same (by rfl) (rfl)⟩
        simp only [Act.put, List.setIfInBounds_toArray, List.set_cons_zero, List.set_cons_succ, Nat.reduceAdd]
        refine Steps.held ?_ ?_
        · intro L v w' hJ
          have hv0 : v 0 = .int .i64 0 := hJ.out.fact 0 (by kernel_rfl)
          simp only [hv0]
          clear hv0
          go_wp2_with fail
          exact ⟨rfl, rfl, hJ.out.same (by rfl) (rfl)⟩
        simp only [Act.put, List.setIfInBounds_toArray, List.set_cons_zero, List.set_cons_succ, Nat.reduceAdd]
        refine Steps.held ?_ ?_
        · intro L v w' hJ
          have hv1 : v 1 = .bool true := hJ.out.fact 1 (by kernel_rfl)
          simp only [hv1]
          clear hv1
          go_wp2_with fail
          exact ⟨rfl, rfl, hJ.out.same (by rfl) (rfl)⟩
        simp only [Act.put, List.setIfInBounds_toArray, List.set_cons_zero, List.set_cons_succ, Nat.reduceAdd]
        refine Steps.held ?_ ?_
        · intro L v w' hJ
          have hv2 : v 2 = .bool true := hJ.out.fact 2 (by kernel_rfl)
          simp only [hv2]
          clear hv2
          have kb := hJ.out.blk E9.out (by simp [oldsOf])
          have k0 := kb.cell 0
          have k1 := kb.cell 1
          clear kb
          go_wp2_with fail
          exact ⟨rfl, rfl, hJ.out.same (by rfl) (NS.out.keep hJ.out.held.keep)⟩
        simp only [Act.put, List.setIfInBounds_toArray, List.set_cons_zero, List.set_cons_succ, Nat.reduceAdd]
        refine Steps.held ?_ ?_
        · intro L v w' hJ
          have hv2 : v 2 = .bool true := hJ.out.fact 2 (by kernel_rfl)
          simp only [hv2]
          clear hv2
          have kb := hJ.out.blk E7.out (by simp [oldsOf])
          have k0 := kb.cell 0
          have k1 := kb.cell 1
          clear kb
          go_wp2_with fail
          exact ⟨rfl, rfl, hJ.out.same (by rfl) (NE7.out.keep hJ.out.held.keep)⟩
        simp only [Act.put, List.setIfInBounds_toArray, List.set_cons_zero, List.set_cons_succ, Nat.reduceAdd]
        refine Steps.held ?_ ?_
        · intro L v w' hJ
          have hv2 : v 2 = .bool true := hJ.out.fact 2 (by kernel_rfl)
          simp only [hv2]
          clear hv2
          have kb := hJ.out.blk E8.out (by simp [oldsOf])
          have k0 := kb.cell 0
          have k1 := kb.cell 1
          clear kb
          go_wp2_with fail
          exact ⟨rfl, rfl, hJ.out.same (by rfl) (NE8.out.keep hJ.out.held.keep)⟩
        simp only [Act.put, List.setIfInBounds_toArray, List.set_cons_zero, List.set_cons_succ, Nat.reduceAdd]
        refine Steps.held ?_ ?_
        · intro L v w' hJ
          have hv2 : v 2 = .bool true := hJ.out.fact 2 (by kernel_rfl)
          simp only [hv2]
          clear hv2
          have X0 := Lib.hid (show RF w' (v 4) (a.1) (a.2) from hJ.out.fact 4 (by kernel_rfl))
          have X1 := Lib.hid (show RF w' (v 5) (b.1) (b.2) from hJ.out.fact 5 (by kernel_rfl))
          go_wp2_with fail
          with_reducible refine (HXD.out _ _ _ X0.out X1.out).mono ?_
          rintro e w1 ⟨u, rfl, hu, hb⟩
          go_wp2_with fail
          exact ⟨rfl, rfl, hJ.out.call (by rfl) hb (hu)⟩
        simp only [Act.put, List.setIfInBounds_toArray, List.set_cons_zero, List.set_cons_succ, Nat.reduceAdd]
        refine Steps.held ?_ ?_
        · intro L v w' hJ
          have hv2 : v 2 = .bool true := hJ.out.fact 2 (by kernel_rfl)
          simp only [hv2]
          clear hv2
          have X0 := Lib.hid (show F64 w' (v 3) (q.1) (q.2) from hJ.out.fact 3 (by kernel_rfl))
          have X1 := Lib.hid (show RF w' (v 6) (q.1) (q.2) from hJ.out.fact 6 (by kernel_rfl))
          go_wp2_with fail
          with_reducible refine (HIQ.out _ _ _ X0.out X1.out).mono ?_
          rintro e w1 ⟨rfl, hb⟩
          go_wp2_with fail
          exact ⟨rfl, rfl, hJ.out.call (by rfl) hb (rfl)⟩
        simp only [Act.put, List.setIfInBounds_toArray, List.set_cons_zero, List.set_cons_succ, Nat.reduceAdd]
        refine Steps.held ?_ ?_
        · intro L v w' hJ
          have hv2 : v 2 = .bool true := hJ.out.fact 2 (by kernel_rfl)
          simp only [hv2]
          clear hv2
          have hv7 : v 7 = .bool true := hJ.out.fact 7 (by kernel_rfl)
          simp only [hv7]
          clear hv7
          go_wp2_with fail
          exact ⟨rfl, rfl, hJ.out.same (by rfl) (rfl)⟩
        simp only [Act.put, List.setIfInBounds_toArray, List.set_cons_zero, List.set_cons_succ, Nat.reduceAdd]
        refine Steps.held ?_ ?_
        · intro L v w' hJ
          have hv8 : v 8 = .bool true := hJ.out.fact 8 (by kernel_rfl)
          simp only [hv8]
          clear hv8
          go_wp2_with fail
          exact ⟨rfl, rfl, hJ.out.same (by rfl) (rfl)⟩
        simp only [Act.put, List.setIfInBounds_toArray, List.set_cons_zero, List.set_cons_succ, Nat.reduceAdd]
        refine Steps.held ?_ ?_
        · intro L v w' hJ
          have hv9 : v 9 = .bool true := hJ.out.fact 9 (by kernel_rfl)
          simp only [hv9]
          clear hv9
          have kb := hJ.out.blk E9.out (by simp [oldsOf])
          have k0 := kb.cell 0
          have k1 := kb.cell 1
          clear kb
          go_wp2_with fail
          exact ⟨rfl, rfl, hJ.out.same (by rfl) (NS.out.keep hJ.out.held.keep)⟩
        simp only [Act.put, List.setIfInBounds_toArray, List.set_cons_zero, List.set_cons_succ, Nat.reduceAdd]
        refine Steps.held ?_ ?_
        · intro L v w' hJ
          have hv9 : v 9 = .bool true := hJ.out.fact 9 (by kernel_rfl)
          simp only [hv9]
          clear hv9
          have kb := hJ.out.blk E6.out (by simp [oldsOf])
          have k0 := kb.cell 0
          have k1 := kb.cell 1
          clear kb
          go_wp2_with fail
          exact ⟨rfl, rfl, hJ.out.same (by rfl) (NE6.out.keep hJ.out.held.keep)⟩
        simp only [Act.put, List.setIfInBounds_toArray, List.set_cons_zero, List.set_cons_succ, Nat.reduceAdd]
        refine Steps.held ?_ ?_
        · intro L v w' hJ
          have hv9 : v 9 = .bool true := hJ.out.fact 9 (by kernel_rfl)
          simp only [hv9]
          clear hv9
          have X0 := Lib.hid (show F64 w' (v 10) (q.1) (q.2) from hJ.out.fact 10 (by kernel_rfl))
          have X1 := Lib.hid (show F64 w' (v 11) (b.1) (b.2) from hJ.out.fact 11 (by kernel_rfl))
          go_wp2_with fail
          with_reducible refine (HM2.out _ _ _ X0.out X1.out).mono ?_
          rintro e w1 ⟨u, rfl, hu, hb⟩
          go_wp2_with fail
          exact ⟨rfl, rfl, hJ.out.call (by rfl) hb (hu)⟩
        simp only [Act.put, List.setIfInBounds_toArray, List.set_cons_zero, List.set_cons_succ, Nat.reduceAdd]
        refine Steps.held ?_ ?_
        · intro L v w' hJ
          have hv9 : v 9 = .bool true := hJ.out.fact 9 (by kernel_rfl)
          simp only [hv9]
          clear hv9
          have kb := hJ.out.blk E5.out (by simp [oldsOf])
          have k0 := kb.cell 0
          have k1 := kb.cell 1
          clear kb
          go_wp2_with fail
          exact ⟨rfl, rfl, hJ.out.same (by rfl) (NE5.out.keep hJ.out.held.keep)⟩
        simp only [Act.put, List.setIfInBounds_toArray, List.set_cons_zero, List.set_cons_succ, Nat.reduceAdd]
        refine Steps.held ?_ ?_
        · intro L v w' hJ
          have hv9 : v 9 = .bool true := hJ.out.fact 9 (by kernel_rfl)
          simp only [hv9]
          clear hv9
          have X0 := Lib.hid (show F64 w' (v 12) (r.1) (r.2) from hJ.out.fact 12 (by kernel_rfl))
          have X1 := Lib.hid (show F64 w' (v 13) (a.1) (a.2) from hJ.out.fact 13 (by kernel_rfl))
          go_wp2_with fail
          with_reducible refine (HCE.out _ _ _ X0.out X1.out).mono ?_
          rintro e w1 ⟨rfl, hb⟩
          go_wp2_with fail
          exact ⟨rfl, rfl, hJ.out.call (by rfl) hb (rfl)⟩
        simp only [Act.put, List.setIfInBounds_toArray, List.set_cons_zero, List.set_cons_succ, Nat.reduceAdd]
        refine Steps.held ?_ ?_
        · intro L v w' hJ
          have hv14 : v 14 = .int .i64 0 := hJ.out.fact 14 (by kernel_rfl)
          simp only [hv14]
          clear hv14
          have hv9 : v 9 = .bool true := hJ.out.fact 9 (by kernel_rfl)
          simp only [hv9]
          clear hv9
          go_wp2_with fail
          exact ⟨rfl, rfl, hJ.out.same (by rfl) (rfl)⟩
        simp only [Act.put, List.setIfInBounds_toArray, List.set_cons_zero, List.set_cons_succ, Nat.reduceAdd]
        refine Steps.held ?_ ?_
        · intro L v w' hJ
          have hv9 : v 9 = .bool true := hJ.out.fact 9 (by kernel_rfl)
          simp only [hv9]
          clear hv9
          have hv15 : v 15 = .bool true := hJ.out.fact 15 (by kernel_rfl)
          simp only [hv15]
          clear hv15
          go_wp2_with fail
          exact ⟨rfl, rfl, hJ.out.same (by rfl) (rfl)⟩
        simp only [Act.put, List.setIfInBounds_toArray, List.set_cons_zero, List.set_cons_succ, Nat.reduceAdd]
        refine Steps.held ?_ ?_
        · intro L v w' hJ
          have hv16 : v 16 = .bool true := hJ.out.fact 16 (by kernel_rfl)
          simp only [hv16]
          clear hv16
          go_wp2_with fail
          exact ⟨rfl, rfl, hJ.out.same (by rfl) (rfl)⟩
        simp only [Act.put, List.setIfInBounds_toArray, List.set_cons_zero, List.set_cons_succ, Nat.reduceAdd]
        refine Steps.held ?_ ?_
        · intro L v w' hJ
          have hv17 : v 17 = .bool true := hJ.out.fact 17 (by kernel_rfl)
          simp only [hv17]
          clear hv17
          go_wp2_with fail
          with_reducible refine (HLV.out _).mono ?_
          rintro e w1 ⟨rfl, hb⟩
          go_wp2_with fail
          exact ⟨rfl, rfl, hJ.out.call (by rfl) hb (rfl)⟩
        simp only [Act.put, List.setIfInBounds_toArray, List.set_cons_zero, List.set_cons_succ, Nat.reduceAdd]
        refine Steps.held ?_ ?_
        · intro L v w' hJ
          have hv17 : v 17 = .bool true := hJ.out.fact 17 (by kernel_rfl)
          simp only [hv17]
          clear hv17
          have hv18 : v 18 = .bool true := hJ.out.fact 18 (by kernel_rfl)
          simp only [hv18]
          clear hv18
          go_wp2_with fail
          exact ⟨rfl, rfl, hJ.out.same (by rfl) (rfl)⟩
        simp only [Act.put, List.setIfInBounds_toArray, List.set_cons_zero, List.set_cons_succ, Nat.reduceAdd]
        refine Steps.held ?_ ?_
        · intro L v w' hJ
          have hv19 : v 19 = .bool true := hJ.out.fact 19 (by kernel_rfl)
          simp only [hv19]
          clear hv19
          go_wp2_with fail
          exact ⟨rfl, rfl, hJ.out.same (by rfl) (rfl)⟩
        simp only [Act.put, List.setIfInBounds_toArray, List.set_cons_zero, List.set_cons_succ, Nat.reduceAdd]
        refine Steps.nil ?_
        intro v w' hJ
        have h20 : v 20 = .bool true := hJ.end_fact 20 (by decide)
        have HF := Lib.hid (cbt HB0.out hJ.but.below)
        clear hJ
        simp only [h20]
        clear h20
        go_wp2_with fail
        go_ret
        exact ⟨rfl, HF.out⟩
    · have hzy : ly.length ≤ 16 → 16 < my.length := fun h1 => by omega
      have HSx : Hid (∀ v W, Frc W v lx mx → Calls Try.prog 64 #[v, .int .i64 16] W (fun x w' => x = .returned (.bool true) ∧ Below W.heap.size W w')) := Lib.hid (fun v W h => c_small (k := 16) h (by simp [hxx, hyx]))
      have HSy : Hid (∀ v W, Frc W v ly my → Calls Try.prog 64 #[v, .int .i64 16] W (fun x w' => x = .returned (.bool false) ∧ Below W.heap.size W w')) := Lib.hid (fun v W h => c_small (k := 16) h (by simpa using hzy))
      have e0 := (Blk.new (w) 45 #[(.slice Ux nx cx), (.slice Vx kx dx)]).alloc (.cells #[(.slice Uy ny cy), (.slice Vy ky dy)] 45)
      have e1 := Blk.new ((w).alloc (.cells #[(.slice Ux nx cx), (.slice Vx kx dx)] 45)) 45 #[(.slice Uy ny cy), (.slice Vy ky dy)]
      have hb := cba (cba (Below.refl _ w) (.cells #[(.slice Ux nx cx), (.slice Vx kx dx)] 45)) (.cells #[(.slice Uy ny cy), (.slice Vy ky dy)] 45)
      simp only [World.size_alloc] at e1
      have hsz : w.heap.size ≤ w.heap.size := Nat.le_refl _
      go_enter Try.func17, Try.ntmps17
      go_upto_region 1 with (fail)
      obtain ⟨S, hS⟩ : ∃ S, ((w).alloc (.cells #[(.slice Ux nx cx), (.slice Vx kx dx)] 45)).alloc (.cells #[(.slice Uy ny cy), (.slice Vy ky dy)] 45) = S := ⟨_, rfl⟩
      rw [hS] at e0 e1 hb ⊢
      replace Hx := Lib.hid (Hx.out.below hb)
      replace Hy := Lib.hid (Hy.out.below hb)
      have HB0 := Lib.hid hb
      have E0 := Lib.hid e0
      have E1 := Lib.hid e1
      clear hS hb hsz e0 e1
      have k_E0_0 := E0.out.cell 0
      have k_E0_1 := E0.out.cell 1
      have k_E1_0 := E1.out.cell 0
      have k_E1_1 := E1.out.cell 1
      go_wp2_with fail
      with_reducible refine (HSx.out _ _ Hx.out).mono ?_
      rintro e w1 ⟨rfl, hb⟩
      clear k_E0_0 k_E0_1 k_E1_0 k_E1_1
      replace Hx := Lib.hid (Hx.out.below hb)
      replace Hy := Lib.hid (Hy.out.below hb)
      replace E0 := Lib.hid (blk_below E0.out hb)
      replace E1 := Lib.hid (blk_below E1.out hb)
      replace HB0 := Lib.hid (cbt HB0.out hb)
      clear hb
      have k_E0_0 := E0.out.cell 0
      have k_E0_1 := E0.out.cell 1
      have k_E1_0 := E1.out.cell 0
      have k_E1_1 := E1.out.cell 1
      go_wp2_with fail
      with_reducible refine (HSy.out _ _ Hy.out).mono ?_
      rintro e w1 ⟨rfl, hb⟩
      clear k_E0_0 k_E0_1 k_E1_0 k_E1_1
      replace Hx := Lib.hid (Hx.out.below hb)
      replace Hy := Lib.hid (Hy.out.below hb)
      replace E0 := Lib.hid (blk_below E0.out hb)
      replace E1 := Lib.hid (blk_below E1.out hb)
      replace HB0 := Lib.hid (cbt HB0.out hb)
      clear hb
      have k_E0_0 := E0.out.cell 0
      have k_E0_1 := E0.out.cell 1
      have k_E1_0 := E1.out.cell 0
      have k_E1_1 := E1.out.cell 1
      go_wp2_with fail
      with_reducible refine (live26_any _).mono ?_
      rintro e w1 ⟨rfl, hb⟩
      clear k_E0_0 k_E0_1 k_E1_0 k_E1_1
      replace Hx := Lib.hid (Hx.out.below hb)
      replace Hy := Lib.hid (Hy.out.below hb)
      replace E0 := Lib.hid (blk_below E0.out hb)
      replace E1 := Lib.hid (blk_below E1.out hb)
      replace HB0 := Lib.hid (cbt HB0.out hb)
      clear hb
      have k_E0_0 := E0.out.cell 0
      have k_E0_1 := E0.out.cell 1
      have k_E1_0 := E1.out.cell 0
      have k_E1_1 := E1.out.cell 1
      go_wp2_with fail
      go_ret
      exact ⟨rfl, HB0.out⟩
  · have hzx : lx.length ≤ 16 → 16 < mx.length := fun h1 => by omega
    have HSx : Hid (∀ v W, Frc W v lx mx → Calls Try.prog 64 #[v, .int .i64 16] W (fun x w' => x = .returned (.bool false) ∧ Below W.heap.size W w')) := Lib.hid (fun v W h => c_small (k := 16) h (by simpa using hzx))
    have e0 := (Blk.new (w) 45 #[(.slice Ux nx cx), (.slice Vx kx dx)]).alloc (.cells #[(.slice Uy ny cy), (.slice Vy ky dy)] 45)
    have e1 := Blk.new ((w).alloc (.cells #[(.slice Ux nx cx), (.slice Vx kx dx)] 45)) 45 #[(.slice Uy ny cy), (.slice Vy ky dy)]
    have hb := cba (cba (Below.refl _ w) (.cells #[(.slice Ux nx cx), (.slice Vx kx dx)] 45)) (.cells #[(.slice Uy ny cy), (.slice Vy ky dy)] 45)
    simp only [World.size_alloc] at e1
    have hsz : w.heap.size ≤ w.heap.size := Nat.le_refl _
    go_enter Try.func17, Try.ntmps17
    go_upto_region 1 with (fail)
    obtain ⟨S, hS⟩ : ∃ S, ((w).alloc (.cells #[(.slice Ux nx cx), (.slice Vx kx dx)] 45)).alloc (.cells #[(.slice Uy ny cy), (.slice Vy ky dy)] 45) = S := ⟨_, rfl⟩
    rw [hS] at e0 e1 hb ⊢
    replace Hx := Lib.hid (Hx.out.below hb)
    replace Hy := Lib.hid (Hy.out.below hb)
    have HB0 := Lib.hid hb
    have E0 := Lib.hid e0
    have E1 := Lib.hid e1
    clear hS hb hsz e0 e1
    have k_E0_0 := E0.out.cell 0
    have k_E0_1 := E0.out.cell 1
    have k_E1_0 := E1.out.cell 0
    have k_E1_1 := E1.out.cell 1
    go_wp2_with fail
    with_reducible refine (HSx.out _ _ Hx.out).mono ?_
    rintro e w1 ⟨rfl, hb⟩
    clear k_E0_0 k_E0_1 k_E1_0 k_E1_1
    replace Hx := Lib.hid (Hx.out.below hb)
    replace Hy := Lib.hid (Hy.out.below hb)
    replace E0 := Lib.hid (blk_below E0.out hb)
    replace E1 := Lib.hid (blk_below E1.out hb)
    replace HB0 := Lib.hid (cbt HB0.out hb)
    clear hb
    have k_E0_0 := E0.out.cell 0
    have k_E0_1 := E0.out.cell 1
    have k_E1_0 := E1.out.cell 0
    have k_E1_1 := E1.out.cell 1
    go_wp2_with fail
    with_reducible refine (live26_any _).mono ?_
    rintro e w1 ⟨rfl, hb⟩
    clear k_E0_0 k_E0_1 k_E1_0 k_E1_1
    replace Hx := Lib.hid (Hx.out.below hb)
    replace Hy := Lib.hid (Hy.out.below hb)
    replace E0 := Lib.hid (blk_below E0.out hb)
    replace E1 := Lib.hid (blk_below E1.out hb)
    replace HB0 := Lib.hid (cbt HB0.out hb)
    clear hb
    have k_E0_0 := E0.out.cell 0
    have k_E0_1 := E0.out.cell 1
    have k_E1_0 := E1.out.cell 0
    have k_E1_1 := E1.out.cell 1
    go_wp2_with fail
    go_ret
    exact ⟨rfl, HB0.out⟩
end Go.Proofs.Yteikhnmmkanndaa
namespace Go.Proofs.Yteikhnmmkanndaa
open Go.ChangeShapes Go.WideShapes Go.RowKit Go.Proofs.YteikhnmmkanndaaW.PrintWords
section
variable {H : Type} {enc : TypeId × Value → H} {w : World} {base : Nat} {spare : Nat → Bool} {held : Bool}
theorem open_bytes1 {fuel : Nat} {u : Value} {x : DataW H × List MemPlace} (h : DataW.trod enc Try.prog w base spare held fuel 22 [u] = some x) :
    ∃ A n c, ∃ l : List Int, u = .slice A n c ∧ l.length = n ∧ ByS w (.slice A n c) l ∧ Bys l := by
  rcases open_ints Try.underlying22 (e := 5) (k := .u8) (by kernel_rfl) (by kernel_rfl) h with ⟨hcs, _⟩ | ⟨a, l, c, zs, hcs, _⟩
  · obtain rfl : u = .slice none 0 0 := by simpa using hcs
    obtain ⟨l, h1, h2, h3⟩ := open_bytes_at h
    exact ⟨_, _, _, l, rfl, h1, h2, h3⟩
  · obtain rfl : u = .slice (some a) l c := by simpa using hcs
    obtain ⟨l, h1, h2, h3⟩ := open_bytes_at h
    exact ⟨_, _, _, l, rfl, h1, h2, h3⟩
theorem open_frc_at {fuel : Nat} {cs : Array Value} {x : DataW H × List MemPlace} (h2 : cs.size = 2) (h : DataW.trod enc Try.prog w base spare held fuel 45 cs.toList = some x) : ∃ l m : List Int, Frc w (.agg cs) l m ∧ Bys l ∧ Bys m := by
  obtain ⟨y0, y1, n, _, _, h0, h1⟩ := trod_struct2 Try.underlying45 h
  have hc : Try.prog.cellsOf 22 = 1 := by kernel_rfl
  simp only [hc] at h0 h1
  obtain ⟨l⟩ := cs
  rcases l with _ | ⟨a, _ | ⟨b, _ | ⟨c, t⟩⟩⟩
  · exact absurd h2 (by simp)
  · exact absurd h2 (by simp)
  · obtain ⟨A, p, c, l, rfl, hl, hA, yl⟩ := open_bytes1 (u := a) h0
    obtain ⟨B, q, d, m, rfl, hm, hB, ym⟩ := open_bytes1 (u := b) h1
    exact ⟨l, m, ⟨A, p, c, B, q, d, rfl, hA, hB, hl, hm⟩, yl, ym⟩
  · exact absurd h2 (by simp)
end
end Go.Proofs.Yteikhnmmkanndaa
