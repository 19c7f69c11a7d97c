/- Laid together by prune.py out of the texts that the row needs: the declarations that its theorem uses. -/
import Derived.Test.YteikhnmmkanndaaXDiscountGamma4
namespace Go.Proofs.Yteikhnmmkanndaa
open Go.RowKit Go.Proofs.YteikhnmmkanndaaW.PrintWords
set_option linter.unusedSimpArgs false
set_option linter.unusedVariables false
theorem RF.fst {w : World} {A B : Option Addr} {p c q e n d : Nat} (h : RF w (.agg #[.slice A p c, .slice B q e]) n d) : R256 w (.slice A p c) n := by
  obtain ⟨_, _, _, _, _, _, hv, h1, _⟩ := h
  cases hv
  exact h1
theorem RF.snd {w : World} {A B : Option Addr} {p c q e n d : Nat} (h : RF w (.agg #[.slice A p c, .slice B q e]) n d) : R256 w (.slice B q e) d := by
  obtain ⟨_, _, _, _, _, _, hv, _, h2⟩ := h
  cases hv
  exact h2
theorem RF.of {w : World} {v u : Value} {n d : Nat} (h1 : R256 w v n) (h2 : R256 w u d) : ∃ A p c B q e, v = .slice A p c ∧ u = .slice B q e ∧ RF w (.agg #[.slice A p c, .slice B q e]) n d := by
  have h1' := h1
  have h2' := h2
  obtain ⟨A, c, rfl, _, _⟩ := h1
  obtain ⟨B, e, rfl, _, _⟩ := h2
  exact ⟨_, _, _, _, _, _, rfl, rfl, _, _, _, _, _, _, rfl, h1', h2'⟩
theorem R256.one {w : World} {g : Nat} {t : TypeId} (h : Blk w g t #[.int .i64 1]) : R256 w (.slice (some ⟨g, 0, none⟩) 1 1) 1 := by
  unfold R256
  rw [cs1]
  refine ⟨some ⟨g, 0, none⟩, 1, rfl, Nat.le_refl _, ?_⟩
  intro W' hW
  refine Kd.C_of_reads (d := 0) ⟨rfl, by decide, fun h0 => ⟨⟨g, 0, none⟩, rfl, fun j hj => ?_⟩⟩
  have hj0 : j = 0 := by
    have : ([1] : List Int).length = 1 := rfl
    omega
  subst hj0
  have hb : Blk W' g t #[.int .i64 1] := (hW g trivial h.lt).trans h
  exact hb.cell 0
theorem len_R256 {w : World} {A : Option Addr} {n c x : Nat} (h : R256 w (.slice A n c) x) : n = wl 8 x := by
  obtain ⟨A', c', hv, _, _⟩ := h
  cases hv
  exact cs_len 8 x
set_option maxRecDepth 100000 in
set_option maxHeartbeats 4000000 in
theorem xof_any (va vb : Value) (n d : Nat) (w : World) (ha : R256 w va n) (hb : R256 w vb d) (hn : wl 8 n ≤ 400000000) (hd : wl 8 d ≤ 400000000) (h0 : 0 < d) : Calls Try.prog 112 #[va, vb] w (MkR w (rn n d) (rd n d)) := by
  have HA := Lib.hid ha
  have HB := Lib.hid hb
  have hla := ha
  obtain ⟨A, ca, rfl, _, _⟩ := ha
  obtain ⟨B, cb, rfl, _, _⟩ := hb
  have hl := len_R256 hla
  clear hla
  have hg0 : 0 < Nat.gcd n d := Nat.gcd_pos_of_pos_right n h0
  have HRN : Hid (n / Nat.gcd n d = rn n d) := Lib.hid rfl
  have HRD : Hid (d / Nat.gcd n d = rd n d) := Lib.hid rfl
  have HZ1 := Lib.hid (rd_zero h0)
  have hgd : wl 8 (Nat.gcd n d) ≤ 400000000 := Nat.le_trans (wl_mono (by decide) (Nat.gcd_le_right n h0)) hd
  have HG := Lib.hid (fun W va vb (h1 : R256 W va n) (h2 : R256 W vb d) => rgcd_any h1 h2 (by omega) (by omega))
  have HD1 := Lib.hid (fun W va vb (h1 : R256 W va n) (h2 : R256 W vb (Nat.gcd n d)) => rdiv_any h1 h2 (by omega) (by omega) hg0)
  have HD2 := Lib.hid (fun W va vb (h1 : R256 W va d) (h2 : R256 W vb (Nat.gcd n d)) => rdiv_any h1 h2 (by omega) (by omega) hg0)
  obtain ⟨g, hg⟩ : ∃ g, Nat.gcd n d = g := ⟨_, rfl⟩
  rw [hg] at HG HD1 HD2 HRN HRD
  clear hn hd hg hgd hg0 h0
  obtain ⟨la, hla⟩ : ∃ k, (cs 8 n).length = k := ⟨_, rfl⟩
  rw [hla] at HA hl ⊢
  by_cases hz : la = 0
  · have hn0 : n = 0 := by have := (wl_eq_zero (k := 8) (by decide) (x := n)).1; omega
    have HN0 := Lib.hid hn0
    have hd1 : ((la : Int) == 0) = true := beq_iff_eq.2 (by omega)
    clear hn0 hl hz hla
    have e0 := Blk.new (w) 52 #[(.slice none 0 0), (.slice none 0 0)]
    have hb := cba (Below.refl _ w) (.cells #[(.slice none 0 0), (.slice none 0 0)] 52)
    have hsz : w.heap.size ≤ w.heap.size := Nat.le_refl _
    go_enter Try.func112, Try.ntmps112
    go_upto_region 1 with (fail)
    obtain ⟨S, hS⟩ : ∃ S, (w).alloc (.cells #[(.slice none 0 0), (.slice none 0 0)] 52) = S := ⟨_, rfl⟩
    rw [hS] at e0 hb ⊢
    replace HA := Lib.hid (HA.out.below hb)
    replace HB := Lib.hid (HB.out.below hb)
    have HB0 := Lib.hid hb
    have E0 := Lib.hid e0
    clear hS hb hsz e0
    have k_E0_0 := E0.out.cell 0
    have k_E0_1 := E0.out.cell 1
    go_wp2_with fail
    with_reducible refine (HG.out _ _ _ HA.out HB.out).mono ?_
    rintro e w2 ⟨u, rfl, hu, hb⟩
    clear k_E0_0 k_E0_1
    replace HA := Lib.hid (HA.out.below hb)
    replace HB := Lib.hid (HB.out.below hb)
    replace E0 := Lib.hid (blk_below E0.out hb)
    replace HB0 := Lib.hid (cbt HB0.out hb)
    have NG := Lib.hid hu
    clear hb hu
    have k_E0_0 := E0.out.cell 0
    have k_E0_1 := E0.out.cell 1
    have f0 := E0.out.frozen 0
    have f1 := E0.out.frozen 1
    have hlt := E0.out.lt
    have hne : w.heap.size ≠ w2.heap.size := by omega
    have g0 := (E0.out.alloc (.cells #[.int .i64 1] 3)).frozen 0
    have g1 := (E0.out.alloc (.cells #[.int .i64 1] 3)).frozen 1
    have c0 := (E0.out.alloc (.cells #[.int .i64 1] 3)).cell 0
    have c1 := (E0.out.alloc (.cells #[.int .i64 1] 3)).cell 1
    have b1 := (E0.out.set_ 0 (.slice none 0 0)).set_ 1 (.slice (some ⟨w2.heap.size, 0, none⟩) 1 1)
    have b2 := b1.alloc (.cells #[.int .i64 1] 3)
    have b3 := Blk.new ((w2.setCell ⟨w.heap.size, 0, none⟩ (.slice none 0 0)).setCell ⟨w.heap.size, 1, none⟩ (.slice (some ⟨w2.heap.size, 0, none⟩) 1 1)) 3 #[.int .i64 1]
    have hs : ((w2.setCell ⟨w.heap.size, 0, none⟩ (.slice none 0 0)).setCell ⟨w.heap.size, 1, none⟩ (.slice (some ⟨w2.heap.size, 0, none⟩) 1 1)).heap.size = w2.heap.size := by simp
    rw [hs] at b3
    have k0 := b2.cell 0
    have k1 := b2.cell 1
    have HX := Lib.hid (show MkR w (rn n d) (rd n d) (.returned (.agg #[.slice none 0 0, .slice (some ⟨w2.heap.size, 0, none⟩) 1 1])) (((w2.setCell ⟨w.heap.size, 0, none⟩ (.slice none 0 0)).setCell ⟨w.heap.size, 1, none⟩ (.slice (some ⟨w2.heap.size, 0, none⟩) 1 1)).alloc (.cells #[.int .i64 1] 3)) from by
      rw [HN0.out, rn_zero, HZ1.out]
      exact ⟨_, rfl, ⟨_, _, _, _, _, _, rfl, R256.zero _, R256.one b3⟩, ((HB0.out.setCell (p := ⟨w.heap.size, 0, none⟩) (Nat.le_refl _) _).setCell (p := ⟨w.heap.size, 1, none⟩) (Nat.le_refl _) _).alloc (by simpa using HB0.out.size) _⟩)
    clear b1 b2 b3 hs
    go_wp2_with fail
    exact bodyPost_ret (v := .agg #[.slice none 0 0, .slice (some ⟨w2.heap.size, 0, none⟩) 1 1]) (by simp [results, Try.results112, go_sem, hlt, k_E0_0, k_E0_1]) rfl HX.out
  · have hd1 : ((la : Int) == 0) = false := beq_eq_false_iff_ne.2 (by omega)
    clear HZ1 hl hz hla
    have e0 := Blk.new (w) 52 #[(.slice none 0 0), (.slice none 0 0)]
    have hb := cba (Below.refl _ w) (.cells #[(.slice none 0 0), (.slice none 0 0)] 52)
    have hsz : w.heap.size ≤ w.heap.size := Nat.le_refl _
    go_enter Try.func112, Try.ntmps112
    go_upto_region 1 with (fail)
    obtain ⟨S, hS⟩ : ∃ S, (w).alloc (.cells #[(.slice none 0 0), (.slice none 0 0)] 52) = S := ⟨_, rfl⟩
    rw [hS] at e0 hb ⊢
    replace HA := Lib.hid (HA.out.below hb)
    replace HB := Lib.hid (HB.out.below hb)
    have HB0 := Lib.hid hb
    have E0 := Lib.hid e0
    clear hS hb hsz e0
    have k_E0_0 := E0.out.cell 0
    have k_E0_1 := E0.out.cell 1
    go_wp2_with fail
    with_reducible refine (HG.out _ _ _ HA.out HB.out).mono ?_
    rintro e w2 ⟨u, rfl, hu, hb⟩
    clear k_E0_0 k_E0_1
    replace HA := Lib.hid (HA.out.below hb)
    replace HB := Lib.hid (HB.out.below hb)
    replace E0 := Lib.hid (blk_below E0.out hb)
    replace HB0 := Lib.hid (cbt HB0.out hb)
    have NG := Lib.hid hu
    clear hb hu
    have k_E0_0 := E0.out.cell 0
    have k_E0_1 := E0.out.cell 1
    go_wp2_with fail
    with_reducible refine (HD1.out _ _ _ HA.out NG.out).mono ?_
    rintro e w3 ⟨u, r, rfl, hq, hr, hb⟩
    clear k_E0_0 k_E0_1
    replace HA := Lib.hid (HA.out.below hb)
    replace HB := Lib.hid (HB.out.below hb)
    replace NG := Lib.hid (NG.out.below hb)
    replace E0 := Lib.hid (blk_below E0.out hb)
    replace HB0 := Lib.hid (cbt HB0.out hb)
    have NN := Lib.hid hq
    clear hb hq hr
    have k_E0_0 := E0.out.cell 0
    have k_E0_1 := E0.out.cell 1
    go_wp2_with fail
    with_reducible refine (HD2.out _ _ _ HB.out NG.out).mono ?_
    rintro e w4 ⟨u', r', rfl, hq, hr, hb⟩
    clear k_E0_0 k_E0_1
    replace HA := Lib.hid (HA.out.below hb)
    replace HB := Lib.hid (HB.out.below hb)
    replace NG := Lib.hid (NG.out.below hb)
    replace NN := Lib.hid (NN.out.below hb)
    replace E0 := Lib.hid (blk_below E0.out hb)
    replace HB0 := Lib.hid (cbt HB0.out hb)
    have ND := Lib.hid hq
    clear hb hq hr
    have k_E0_0 := E0.out.cell 0
    have k_E0_1 := E0.out.cell 1
    obtain ⟨A1, p1, c1, B1, q1, e1, rfl, rfl, hX⟩ := RF.of NN.out ND.out
    rw [HRN.out, HRD.out] at hX
    have HXX := Lib.hid hX
    clear hX
    have f0 := E0.out.frozen 0
    have f1 := E0.out.frozen 1
    have HX := Lib.hid (show MkR w (rn n d) (rd n d) (.returned (.agg #[.slice A1 p1 c1, .slice B1 q1 e1])) ((w4.setCell ⟨w.heap.size, 0, none⟩ (.slice A1 p1 c1)).setCell ⟨w.heap.size, 1, none⟩ (.slice B1 q1 e1)) from
      ⟨_, rfl, (HXX.out.keep (Keep.set E0.out 0 rfl _)).keep (Keep.set (E0.out.set_ 0 _) 1 rfl _), (HB0.out.setCell (p := ⟨w.heap.size, 0, none⟩) (Nat.le_refl _) _).setCell (p := ⟨w.heap.size, 1, none⟩) (Nat.le_refl _) _⟩)
    go_wp2
    exact bodyPost_ret (v := .agg #[.slice A1 p1 c1, .slice B1 q1 e1]) (by simp [results, Try.results112, go_sem, k_E0_0, k_E0_1]) rfl HX.out
set_option maxRecDepth 100000 in
set_option maxHeartbeats 4000000 in
theorem xmul_any (va vb : Value) (n d m e : Nat) (w : World) (ha : RF w va n d) (hb : RF w vb m e) (hn : wl 8 n ≤ 100000000) (hd : wl 8 d ≤ 100000000) (hm : wl 8 m ≤ 100000000) (he : wl 8 e ≤ 100000000) (hd0 : 0 < d) (he0 : 0 < e) : Calls Try.prog 77 #[va, vb] w (MkR w (rn (n * m) (d * e)) (rd (n * m) (d * e))) := by
  have Ha := Lib.hid ha
  obtain ⟨Pa, pa, ca, Qa, qa, ea, rfl, _, _⟩ := ha
  have Hb := Lib.hid hb
  obtain ⟨Pb, pb, cb, Qb, qb, eb, rfl, _, _⟩ := hb
  have hm1 := wl_mul_le (k := 8) (x := n) (y := m) (by decide) hn hm
  have HM1 := Lib.hid (fun W va vb (h1 : R256 W va (n)) (h2 : R256 W vb (m)) => rmul_any h1 h2 (by omega) (by omega))
  have hm2 := wl_mul_le (k := 8) (x := d) (y := e) (by decide) hd he
  have HM2 := Lib.hid (fun W va vb (h1 : R256 W va (d)) (h2 : R256 W vb (e)) => rmul_any h1 h2 (by omega) (by omega))
  have HMA := Lib.hid (fun va vb W h1 h2 => xof_any va vb (n * m) (d * e) W h1 h2 (by omega) (by omega) (Nat.mul_pos hd0 he0))
  clear hm1 hm2 hd0 he0
  clear hn hd hm he
  have e0 := ((Blk.new (w) 52 #[(.slice Pa pa ca), (.slice Qa qa ea)]).alloc (.cells #[(.slice Pb pb cb), (.slice Qb qb eb)] 52)).alloc (.cells #[(.slice none 0 0), (.slice none 0 0)] 52)
  have e1 := (Blk.new ((w).alloc (.cells #[(.slice Pa pa ca), (.slice Qa qa ea)] 52)) 52 #[(.slice Pb pb cb), (.slice Qb qb eb)]).alloc (.cells #[(.slice none 0 0), (.slice none 0 0)] 52)
  have e2 := Blk.new (((w).alloc (.cells #[(.slice Pa pa ca), (.slice Qa qa ea)] 52)).alloc (.cells #[(.slice Pb pb cb), (.slice Qb qb eb)] 52)) 52 #[(.slice none 0 0), (.slice none 0 0)]
  have hb := cba (cba (cba (Below.refl _ w) (.cells #[(.slice Pa pa ca), (.slice Qa qa ea)] 52)) (.cells #[(.slice Pb pb cb), (.slice Qb qb eb)] 52)) (.cells #[(.slice none 0 0), (.slice none 0 0)] 52)
  simp only [World.size_alloc] at e1 e2
  have hsz : w.heap.size ≤ w.heap.size := Nat.le_refl _
  go_enter Try.func77, Try.ntmps77
  go_upto_region 1 with (fail)
  obtain ⟨S, hS⟩ : ∃ S, (((w).alloc (.cells #[(.slice Pa pa ca), (.slice Qa qa ea)] 52)).alloc (.cells #[(.slice Pb pb cb), (.slice Qb qb eb)] 52)).alloc (.cells #[(.slice none 0 0), (.slice none 0 0)] 52) = S := ⟨_, rfl⟩
  rw [hS] at e0 e1 e2 hb ⊢
  replace Ha := Lib.hid (Ha.out.below hb)
  replace Hb := Lib.hid (Hb.out.below hb)
  have HB0 := Lib.hid hb
  have E0 := Lib.hid e0
  have E1 := Lib.hid e1
  have E2 := Lib.hid e2
  clear hS hb hsz e0 e1 e2
  have Ha0 := Lib.hid (RF.fst Ha.out)
  have Ha1 := Lib.hid (RF.snd Ha.out)
  have Hb0 := Lib.hid (RF.fst Hb.out)
  have Hb1 := Lib.hid (RF.snd Hb.out)
  go_wp2_with fail
  let FS : List Kept1 := [.eq (.pointer (some ⟨w.heap.size, 0, none⟩)), .r (n), .eq (.pointer (some ⟨w.heap.size + 1, 0, none⟩)), .r (m), .r (n * m), .eq (.pointer (some ⟨w.heap.size, 1, none⟩)), .r (d), .eq (.pointer (some ⟨w.heap.size + 1, 1, none⟩)), .r (e), .r (d * e), .rf (rn (n * m) (d * e)) (rd (n * m) (d * e)), .any]
  let BS : List Bx := [Bx.ref (.inr (w.heap.size + 1 + 1)) 11 #[(.slice none 0 0), (.slice none 0 0)] (rn (n * m) (d * e)) (rd (n * m) (d * e))]
  refine region_mono (Held S (fun j => FS.getD j .any) BS) (by kernel_rfl) (by kernel_rfl) (by kernel_rfl) (Held.start _ _ _ (by simp [BS, Bx.nat, Bx.rat, Bx.ref] <;> exact E2.out) (by simp [BS, Bx.nat, Bx.rat, Bx.ref])) ?_
  refine Steps.held ?_ ?_
  · intro L v w' hJ
    go_wp2_with fail
    exact ⟨rfl, rfl, hJ.out.same (by rfl) (rfl)⟩
  simp only [Act.put, List.setIfInBounds_toArray, List.set_cons_zero, List.set_cons_succ, Nat.reduceAdd]
  refine Steps.held ?_ ?_
  · intro L v w' hJ
    have hv0 : v 0 = .pointer (some ⟨w.heap.size, 0, none⟩) := hJ.out.fact 0 (by kernel_rfl)
    simp only [hv0]
    clear hv0
    have kb := hJ.out.blk E0.out (by simp [oldsOf, BS, Bx.nat, Bx.rat, Bx.ref] <;> omega)
    have k0 := kb.cell 0
    have k1 := kb.cell 1
    clear kb
    go_wp2_with fail
    exact ⟨rfl, rfl, hJ.out.same (by rfl) (Ha0.out.keep hJ.out.held.keep)⟩
  simp only [Act.put, List.setIfInBounds_toArray, List.set_cons_zero, List.set_cons_succ, Nat.reduceAdd]
  refine Steps.held ?_ ?_
  · intro L v w' hJ
    go_wp2_with fail
    exact ⟨rfl, rfl, hJ.out.same (by rfl) (rfl)⟩
  simp only [Act.put, List.setIfInBounds_toArray, List.set_cons_zero, List.set_cons_succ, Nat.reduceAdd]
  refine Steps.held ?_ ?_
  · intro L v w' hJ
    have hv2 : v 2 = .pointer (some ⟨w.heap.size + 1, 0, none⟩) := hJ.out.fact 2 (by kernel_rfl)
    simp only [hv2]
    clear hv2
    have kb := hJ.out.blk E1.out (by simp [oldsOf, BS, Bx.nat, Bx.rat, Bx.ref] <;> omega)
    have k0 := kb.cell 0
    have k1 := kb.cell 1
    clear kb
    go_wp2_with fail
    exact ⟨rfl, rfl, hJ.out.same (by rfl) (Hb0.out.keep hJ.out.held.keep)⟩
  simp only [Act.put, List.setIfInBounds_toArray, List.set_cons_zero, List.set_cons_succ, Nat.reduceAdd]
  refine Steps.held ?_ ?_
  · intro L v w' hJ
    have X0 := Lib.hid (show R256 w' (v 1) (n) from hJ.out.fact 1 (by kernel_rfl))
    have X1 := Lib.hid (show R256 w' (v 3) (m) from hJ.out.fact 3 (by kernel_rfl))
    go_wp2_with fail
    with_reducible refine (HM1.out _ _ _ X0.out X1.out).mono ?_
    rintro e w1 ⟨u, rfl, hu, hb⟩
    go_wp2_with fail
    exact ⟨rfl, rfl, hJ.out.call (by rfl) hb (hu)⟩
  simp only [Act.put, List.setIfInBounds_toArray, List.set_cons_zero, List.set_cons_succ, Nat.reduceAdd]
  refine Steps.held ?_ ?_
  · intro L v w' hJ
    go_wp2_with fail
    exact ⟨rfl, rfl, hJ.out.same (by rfl) (rfl)⟩
  simp only [Act.put, List.setIfInBounds_toArray, List.set_cons_zero, List.set_cons_succ, Nat.reduceAdd]
  refine Steps.held ?_ ?_
  · intro L v w' hJ
    have hv5 : v 5 = .pointer (some ⟨w.heap.size, 1, none⟩) := hJ.out.fact 5 (by kernel_rfl)
    simp only [hv5]
    clear hv5
    have kb := hJ.out.blk E0.out (by simp [oldsOf, BS, Bx.nat, Bx.rat, Bx.ref] <;> omega)
    have k0 := kb.cell 0
    have k1 := kb.cell 1
    clear kb
    go_wp2_with fail
    exact ⟨rfl, rfl, hJ.out.same (by rfl) (Ha1.out.keep hJ.out.held.keep)⟩
  simp only [Act.put, List.setIfInBounds_toArray, List.set_cons_zero, List.set_cons_succ, Nat.reduceAdd]
  refine Steps.held ?_ ?_
  · intro L v w' hJ
    go_wp2_with fail
    exact ⟨rfl, rfl, hJ.out.same (by rfl) (rfl)⟩
  simp only [Act.put, List.setIfInBounds_toArray, List.set_cons_zero, List.set_cons_succ, Nat.reduceAdd]
  refine Steps.held ?_ ?_
  · intro L v w' hJ
    have hv7 : v 7 = .pointer (some ⟨w.heap.size + 1, 1, none⟩) := hJ.out.fact 7 (by kernel_rfl)
    simp only [hv7]
    clear hv7
    have kb := hJ.out.blk E1.out (by simp [oldsOf, BS, Bx.nat, Bx.rat, Bx.ref] <;> omega)
    have k0 := kb.cell 0
    have k1 := kb.cell 1
    clear kb
    go_wp2_with fail
    exact ⟨rfl, rfl, hJ.out.same (by rfl) (Hb1.out.keep hJ.out.held.keep)⟩
  simp only [Act.put, List.setIfInBounds_toArray, List.set_cons_zero, List.set_cons_succ, Nat.reduceAdd]
  refine Steps.held ?_ ?_
  · intro L v w' hJ
    have X0 := Lib.hid (show R256 w' (v 6) (d) from hJ.out.fact 6 (by kernel_rfl))
    have X1 := Lib.hid (show R256 w' (v 8) (e) from hJ.out.fact 8 (by kernel_rfl))
    go_wp2_with fail
    with_reducible refine (HM2.out _ _ _ X0.out X1.out).mono ?_
    rintro e w1 ⟨u, rfl, hu, hb⟩
    go_wp2_with fail
    exact ⟨rfl, rfl, hJ.out.call (by rfl) hb (hu)⟩
  simp only [Act.put, List.setIfInBounds_toArray, List.set_cons_zero, List.set_cons_succ, Nat.reduceAdd]
  refine Steps.held ?_ ?_
  · intro L v w' hJ
    have X0 := Lib.hid (show R256 w' (v 4) (n * m) from hJ.out.fact 4 (by kernel_rfl))
    have X1 := Lib.hid (show R256 w' (v 9) (d * e) from hJ.out.fact 9 (by kernel_rfl))
    go_wp2_with fail
    with_reducible refine (HMA.out _ _ _ X0.out X1.out).mono ?_
    rintro e w1 ⟨u, rfl, hu, hb⟩
    go_wp2_with fail
    exact ⟨rfl, rfl, hJ.out.call (by rfl) hb (hu)⟩
  simp only [Act.put, List.setIfInBounds_toArray, List.set_cons_zero, List.set_cons_succ, Nat.reduceAdd]
  refine Steps.held ?_ ?_
  · intro L v w' hJ
    obtain ⟨hown, hst⟩ := hJ.out.oldbox 0 _ rfl (w.heap.size + 1 + 1) rfl
    have hN : RF w' (v 10) (rn (n * m) (d * e)) (rd (n * m) (d * e)) := hJ.out.fact 10 (by kernel_rfl)
    obtain ⟨A1, p1, c1, B1, q1, e1, hv, h1, h2⟩ := hN
    have HN := Lib.hid (show RF w' (.agg #[.slice A1 p1 c1, .slice B1 q1 e1]) (rn (n * m) (d * e)) (rd (n * m) (d * e)) from ⟨A1, p1, c1, B1, q1, e1, rfl, h1, h2⟩)
    have kb := hJ.out.box 0 _ rfl rfl (w.heap.size + 1 + 1) hown
    have k0 : w'.cell? ⟨(w.heap.size + 1 + 1), 0, none⟩ = some ((.slice none 0 0)) := kb.cell 0
    have k1 : w'.cell? ⟨(w.heap.size + 1 + 1), 1, none⟩ = some ((.slice none 0 0)) := kb.cell 1
    have f0 := kb.frozen 0
    have f1 := kb.frozen 1
    have HO := Lib.hid hown
    have HS := Lib.hid hst
    clear kb h1 h2 hown hst
    simp only [hv]
    clear hv
    go_wp2_with fail
    exact ⟨rfl, rfl, hJ.out.fill2 0 _ rfl rfl (by rfl) (w.heap.size + 1 + 1) HO.out HS.out _ _ rfl rfl rfl (fun W k => HN.out.keep k) (fun _ => trivial)⟩
  simp only [Act.put, List.setIfInBounds_toArray, List.set_cons_zero, List.set_cons_succ, Nat.reduceAdd]
  refine Steps.nil ?_
  intro v w' hJ
  obtain ⟨cs, hblk, hf⟩ := hJ.end_old 0 _ rfl (w.heap.size + 1 + 1) rfl (Nat.le_of_ble_eq_true rfl)
  have hf' : RF w' (.agg cs) (rn (n * m) (d * e)) (rd (n * m) (d * e)) := hf
  obtain ⟨A1, p1, c1, B1, q1, e1, hcs, h1, h2⟩ := hf'
  have hcs' := Value.agg.inj hcs
  subst hcs'
  have k0 := hblk.cell 0
  have k1 := hblk.cell 1
  have hbw : Below w.heap.size w w' := hJ.but.to_below HB0.out HB0.out.size (by intro g hg; simp [oldsOf, BS, Bx.nat, Bx.rat, Bx.ref] at hg; subst hg; omega)
  have HX := Lib.hid (show MkR w (rn (n * m) (d * e)) (rd (n * m) (d * e)) (.returned (.agg #[.slice A1 p1 c1, .slice B1 q1 e1])) w' from ⟨_, rfl, ⟨A1, p1, c1, B1, q1, e1, rfl, h1, h2⟩, hbw⟩)
  clear hJ h1 h2 hbw hblk hcs hf
  go_wp2_with fail
  exact bodyPost_ret (v := .agg #[.slice A1 p1 c1, .slice B1 q1 e1]) (by simp [results, Try.results77, go_sem, k0, k1]) rfl HX.out
set_option maxRecDepth 100000 in
set_option maxHeartbeats 4000000 in
theorem xdiv_any (va vb : Value) (n d m e : Nat) (w : World) (ha : RF w va n d) (hb : RF w vb m e) (hn : wl 8 n ≤ 100000000) (hd : wl 8 d ≤ 100000000) (hm : wl 8 m ≤ 100000000) (he : wl 8 e ≤ 100000000) (hd0 : 0 < d) (hm0 : 0 < m) : Calls Try.prog 78 #[va, vb] w (MkR w (rn (n * e) (d * m)) (rd (n * e) (d * m))) := by
  have Ha := Lib.hid ha
  obtain ⟨Pa, pa, ca, Qa, qa, ea, rfl, _, _⟩ := ha
  have Hb := Lib.hid hb
  obtain ⟨Pb, pb, cb, Qb, qb, eb, rfl, _, _⟩ := hb
  have hm1 := wl_mul_le (k := 8) (x := n) (y := e) (by decide) hn he
  have HM1 := Lib.hid (fun W va vb (h1 : R256 W va (n)) (h2 : R256 W vb (e)) => rmul_any h1 h2 (by omega) (by omega))
  have hm2 := wl_mul_le (k := 8) (x := d) (y := m) (by decide) hd hm
  have HM2 := Lib.hid (fun W va vb (h1 : R256 W va (d)) (h2 : R256 W vb (m)) => rmul_any h1 h2 (by omega) (by omega))
  have HMA := Lib.hid (fun va vb W h1 h2 => xof_any va vb (n * e) (d * m) W h1 h2 (by omega) (by omega) (Nat.mul_pos hd0 hm0))
  clear hm1 hm2 hd0 hm0
  clear hn hd hm he
  have e0 := ((Blk.new (w) 52 #[(.slice Pa pa ca), (.slice Qa qa ea)]).alloc (.cells #[(.slice Pb pb cb), (.slice Qb qb eb)] 52)).alloc (.cells #[(.slice none 0 0), (.slice none 0 0)] 52)
  have e1 := (Blk.new ((w).alloc (.cells #[(.slice Pa pa ca), (.slice Qa qa ea)] 52)) 52 #[(.slice Pb pb cb), (.slice Qb qb eb)]).alloc (.cells #[(.slice none 0 0), (.slice none 0 0)] 52)
  have e2 := Blk.new (((w).alloc (.cells #[(.slice Pa pa ca), (.slice Qa qa ea)] 52)).alloc (.cells #[(.slice Pb pb cb), (.slice Qb qb eb)] 52)) 52 #[(.slice none 0 0), (.slice none 0 0)]
  have hb := cba (cba (cba (Below.refl _ w) (.cells #[(.slice Pa pa ca), (.slice Qa qa ea)] 52)) (.cells #[(.slice Pb pb cb), (.slice Qb qb eb)] 52)) (.cells #[(.slice none 0 0), (.slice none 0 0)] 52)
  simp only [World.size_alloc] at e1 e2
  have hsz : w.heap.size ≤ w.heap.size := Nat.le_refl _
  go_enter Try.func78, Try.ntmps78
  go_upto_region 1 with (fail)
  obtain ⟨S, hS⟩ : ∃ S, (((w).alloc (.cells #[(.slice Pa pa ca), (.slice Qa qa ea)] 52)).alloc (.cells #[(.slice Pb pb cb), (.slice Qb qb eb)] 52)).alloc (.cells #[(.slice none 0 0), (.slice none 0 0)] 52) = S := ⟨_, rfl⟩
  rw [hS] at e0 e1 e2 hb ⊢
  replace Ha := Lib.hid (Ha.out.below hb)
  replace Hb := Lib.hid (Hb.out.below hb)
  have HB0 := Lib.hid hb
  have E0 := Lib.hid e0
  have E1 := Lib.hid e1
  have E2 := Lib.hid e2
  clear hS hb hsz e0 e1 e2
  have Ha0 := Lib.hid (RF.fst Ha.out)
  have Ha1 := Lib.hid (RF.snd Ha.out)
  have Hb0 := Lib.hid (RF.fst Hb.out)
  have Hb1 := Lib.hid (RF.snd Hb.out)
  go_wp2_with fail
  let FS : List Kept1 := [.eq (.pointer (some ⟨w.heap.size, 0, none⟩)), .r (n), .eq (.pointer (some ⟨w.heap.size + 1, 1, none⟩)), .r (e), .r (n * e), .eq (.pointer (some ⟨w.heap.size, 1, none⟩)), .r (d), .eq (.pointer (some ⟨w.heap.size + 1, 0, none⟩)), .r (m), .r (d * m), .rf (rn (n * e) (d * m)) (rd (n * e) (d * m)), .any]
  let BS : List Bx := [Bx.ref (.inr (w.heap.size + 1 + 1)) 11 #[(.slice none 0 0), (.slice none 0 0)] (rn (n * e) (d * m)) (rd (n * e) (d * m))]
  refine region_mono (Held S (fun j => FS.getD j .any) BS) (by kernel_rfl) (by kernel_rfl) (by kernel_rfl) (Held.start _ _ _ (by simp [BS, Bx.nat, Bx.rat, Bx.ref] <;> exact E2.out) (by simp [BS, Bx.nat, Bx.rat, Bx.ref])) ?_
  refine Steps.held ?_ ?_
  · intro L v w' hJ
    go_wp2_with fail
    exact ⟨rfl, rfl, hJ.out.same (by rfl) (rfl)⟩
  simp only [Act.put, List.setIfInBounds_toArray, List.set_cons_zero, List.set_cons_succ, Nat.reduceAdd]
  refine Steps.held ?_ ?_
  · intro L v w' hJ
    have hv0 : v 0 = .pointer (some ⟨w.heap.size, 0, none⟩) := hJ.out.fact 0 (by kernel_rfl)
    simp only [hv0]
    clear hv0
    have kb := hJ.out.blk E0.out (by simp [oldsOf, BS, Bx.nat, Bx.rat, Bx.ref] <;> omega)
    have k0 := kb.cell 0
    have k1 := kb.cell 1
    clear kb
    go_wp2_with fail
    exact ⟨rfl, rfl, hJ.out.same (by rfl) (Ha0.out.keep hJ.out.held.keep)⟩
  simp only [Act.put, List.setIfInBounds_toArray, List.set_cons_zero, List.set_cons_succ, Nat.reduceAdd]
  refine Steps.held ?_ ?_
  · intro L v w' hJ
    go_wp2_with fail
    exact ⟨rfl, rfl, hJ.out.same (by rfl) (rfl)⟩
  simp only [Act.put, List.setIfInBounds_toArray, List.set_cons_zero, List.set_cons_succ, Nat.reduceAdd]
  refine Steps.held ?_ ?_
  · intro L v w' hJ
    have hv2 : v 2 = .pointer (some ⟨w.heap.size + 1, 1, none⟩) := hJ.out.fact 2 (by kernel_rfl)
    simp only [hv2]
    clear hv2
    have kb := hJ.out.blk E1.out (by simp [oldsOf, BS, Bx.nat, Bx.rat, Bx.ref] <;> omega)
    have k0 := kb.cell 0
    have k1 := kb.cell 1
    clear kb
    go_wp2_with fail
    exact ⟨rfl, rfl, hJ.out.same (by rfl) (Hb1.out.keep hJ.out.held.keep)⟩
  simp only [Act.put, List.setIfInBounds_toArray, List.set_cons_zero, List.set_cons_succ, Nat.reduceAdd]
  refine Steps.held ?_ ?_
  · intro L v w' hJ
    have X0 := Lib.hid (show R256 w' (v 1) (n) from hJ.out.fact 1 (by kernel_rfl))
    have X1 := Lib.hid (show R256 w' (v 3) (e) from hJ.out.fact 3 (by kernel_rfl))
    go_wp2_with fail
    with_reducible refine (HM1.out _ _ _ X0.out X1.out).mono ?_
    rintro e w1 ⟨u, rfl, hu, hb⟩
    go_wp2_with fail
    exact ⟨rfl, rfl, hJ.out.call (by rfl) hb (hu)⟩
  simp only [Act.put, List.setIfInBounds_toArray, List.set_cons_zero, List.set_cons_succ, Nat.reduceAdd]
  refine Steps.held ?_ ?_
  · intro L v w' hJ
    go_wp2_with fail
    exact ⟨rfl, rfl, hJ.out.same (by rfl) (rfl)⟩
  simp only [Act.put, List.setIfInBounds_toArray, List.set_cons_zero, List.set_cons_succ, Nat.reduceAdd]
  refine Steps.held ?_ ?_
  · intro L v w' hJ
    have hv5 : v 5 = .pointer (some ⟨w.heap.size, 1, none⟩) := hJ.out.fact 5 (by kernel_rfl)
    simp only [hv5]
    clear hv5
    have kb := hJ.out.blk E0.out (by simp [oldsOf, BS, Bx.nat, Bx.rat, Bx.ref] <;> omega)
    have k0 := kb.cell 0
    have k1 := kb.cell 1
    clear kb
    go_wp2_with fail
    exact ⟨rfl, rfl, hJ.out.same (by rfl) (Ha1.out.keep hJ.out.held.keep)⟩
  simp only [Act.put, List.setIfInBounds_toArray, List.set_cons_zero, List.set_cons_succ, Nat.reduceAdd]
  refine Steps.held ?_ ?_
  · intro L v w' hJ
    go_wp2_with fail
    exact ⟨rfl, rfl, hJ.out.same (by rfl) (rfl)⟩
  simp only [Act.put, List.setIfInBounds_toArray, List.set_cons_zero, List.set_cons_succ, Nat.reduceAdd]
  refine Steps.held ?_ ?_
  · intro L v w' hJ
    have hv7 : v 7 = .pointer (some ⟨w.heap.size + 1, 0, none⟩) := hJ.out.fact 7 (by kernel_rfl)
    simp only [hv7]
    clear hv7
    have kb := hJ.out.blk E1.out (by simp [oldsOf, BS, Bx.nat, Bx.rat, Bx.ref] <;> omega)
    have k0 := kb.cell 0
    have k1 := kb.cell 1
    clear kb
    go_wp2_with fail
    exact ⟨rfl, rfl, hJ.out.same (by rfl) (Hb0.out.keep hJ.out.held.keep)⟩
  simp only [Act.put, List.setIfInBounds_toArray, List.set_cons_zero, List.set_cons_succ, Nat.reduceAdd]
  refine Steps.held ?_ ?_
  · intro L v w' hJ
    have X0 := Lib.hid (show R256 w' (v 6) (d) from hJ.out.fact 6 (by kernel_rfl))
    have X1 := Lib.hid (show R256 w' (v 8) (m) from hJ.out.fact 8 (by kernel_rfl))
    go_wp2_with fail
    with_reducible refine (HM2.out _ _ _ X0.out X1.out).mono ?_
    rintro e w1 ⟨u, rfl, hu, hb⟩
    go_wp2_with fail
    exact ⟨rfl, rfl, hJ.out.call (by rfl) hb (hu)⟩
  simp only [Act.put, List.setIfInBounds_toArray, List.set_cons_zero, List.set_cons_succ, Nat.reduceAdd]
  refine Steps.held ?_ ?_
  · intro L v w' hJ
    have X0 := Lib.hid (show R256 w' (v 4) (n * e) from hJ.out.fact 4 (by kernel_rfl))
    have X1 := Lib.hid (show R256 w' (v 9) (d * m) from hJ.out.fact 9 (by kernel_rfl))
    go_wp2_with fail
    with_reducible refine (HMA.out _ _ _ X0.out X1.out).mono ?_
    rintro e w1 ⟨u, rfl, hu, hb⟩
    go_wp2_with fail
    exact ⟨rfl, rfl, hJ.out.call (by rfl) hb (hu)⟩
  simp only [Act.put, List.setIfInBounds_toArray, List.set_cons_zero, List.set_cons_succ, Nat.reduceAdd]
  refine Steps.held ?_ ?_
  · intro L v w' hJ
    obtain ⟨hown, hst⟩ := hJ.out.oldbox 0 _ rfl (w.heap.size + 1 + 1) rfl
    have hN : RF w' (v 10) (rn (n * e) (d * m)) (rd (n * e) (d * m)) := hJ.out.fact 10 (by kernel_rfl)
    obtain ⟨A1, p1, c1, B1, q1, e1, hv, h1, h2⟩ := hN
    have HN := Lib.hid (show RF w' (.agg #[.slice A1 p1 c1, .slice B1 q1 e1]) (rn (n * e) (d * m)) (rd (n * e) (d * m)) from ⟨A1, p1, c1, B1, q1, e1, rfl, h1, h2⟩)
    have kb := hJ.out.box 0 _ rfl rfl (w.heap.size + 1 + 1) hown
    have k0 : w'.cell? ⟨(w.heap.size + 1 + 1), 0, none⟩ = some ((.slice none 0 0)) := kb.cell 0
    have k1 : w'.cell? ⟨(w.heap.size + 1 + 1), 1, none⟩ = some ((.slice none 0 0)) := kb.cell 1
    have f0 := kb.frozen 0
    have f1 := kb.frozen 1
    have HO := Lib.hid hown
    have HS := Lib.hid hst
    clear kb h1 h2 hown hst
    simp only [hv]
    clear hv
    go_wp2_with fail
    exact ⟨rfl, rfl, hJ.out.fill2 0 _ rfl rfl (by rfl) (w.heap.size + 1 + 1) HO.out HS.out _ _ rfl rfl rfl (fun W k => HN.out.keep k) (fun _ => trivial)⟩
  simp only [Act.put, List.setIfInBounds_toArray, List.set_cons_zero, List.set_cons_succ, Nat.reduceAdd]
  refine Steps.nil ?_
  intro v w' hJ
  obtain ⟨cs, hblk, hf⟩ := hJ.end_old 0 _ rfl (w.heap.size + 1 + 1) rfl (Nat.le_of_ble_eq_true rfl)
  have hf' : RF w' (.agg cs) (rn (n * e) (d * m)) (rd (n * e) (d * m)) := hf
  obtain ⟨A1, p1, c1, B1, q1, e1, hcs, h1, h2⟩ := hf'
  have hcs' := Value.agg.inj hcs
  subst hcs'
  have k0 := hblk.cell 0
  have k1 := hblk.cell 1
  have hbw : Below w.heap.size w w' := hJ.but.to_below HB0.out HB0.out.size (by intro g hg; simp [oldsOf, BS, Bx.nat, Bx.rat, Bx.ref] at hg; subst hg; omega)
  have HX := Lib.hid (show MkR w (rn (n * e) (d * m)) (rd (n * e) (d * m)) (.returned (.agg #[.slice A1 p1 c1, .slice B1 q1 e1])) w' from ⟨_, rfl, ⟨A1, p1, c1, B1, q1, e1, rfl, h1, h2⟩, hbw⟩)
  clear hJ h1 h2 hbw hblk hcs hf
  go_wp2_with fail
  exact bodyPost_ret (v := .agg #[.slice A1 p1 c1, .slice B1 q1 e1]) (by simp [results, Try.results78, go_sem, k0, k1]) rfl HX.out
set_option maxRecDepth 100000 in
set_option maxHeartbeats 4000000 in
theorem xadd_any (va vb : Value) (n d m e : Nat) (w : World) (ha : RF w va n d) (hb : RF w vb m e) (hn : wl 8 n ≤ 100000000) (hd : wl 8 d ≤ 100000000) (hm : wl 8 m ≤ 100000000) (he : wl 8 e ≤ 100000000) (hd0 : 0 < d) (he0 : 0 < e) : Calls Try.prog 68 #[va, vb] w (MkR w (rn (n * e + m * d) (d * e)) (rd (n * e + m * d) (d * e))) := by
  have Ha := Lib.hid ha
  obtain ⟨Pa, pa, ca, Qa, qa, ea, rfl, _, _⟩ := ha
  have Hb := Lib.hid hb
  obtain ⟨Pb, pb, cb, Qb, qb, eb, rfl, _, _⟩ := hb
  have hm1 := wl_mul_le (k := 8) (x := n) (y := e) (by decide) hn he
  have HM1 := Lib.hid (fun W va vb (h1 : R256 W va (n)) (h2 : R256 W vb (e)) => rmul_any h1 h2 (by omega) (by omega))
  have hm2 := wl_mul_le (k := 8) (x := m) (y := d) (by decide) hm hd
  have HM2 := Lib.hid (fun W va vb (h1 : R256 W va (m)) (h2 : R256 W vb (d)) => rmul_any h1 h2 (by omega) (by omega))
  have hm3 := wl_mul_le (k := 8) (x := d) (y := e) (by decide) hd he
  have HM3 := Lib.hid (fun W va vb (h1 : R256 W va (d)) (h2 : R256 W vb (e)) => rmul_any h1 h2 (by omega) (by omega))
  have hsm := wl_add_le (k := 8) (x := n * e) (y := m * d) (a := 200000000) (by decide) (by omega) (by omega)
  have HAD := Lib.hid (fun W va vb (h1 : R256 W va (n * e)) (h2 : R256 W vb (m * d)) => radd_any h1 h2 (by omega) (by omega))
  have HMA := Lib.hid (fun va vb W h1 h2 => xof_any va vb (n * e + m * d) (d * e) W h1 h2 (by omega) (by omega) (Nat.mul_pos hd0 he0))
  clear hm1 hm2 hm3 hsm hd0 he0
  clear hn hd hm he
  have e0 := ((Blk.new (w) 52 #[(.slice Pa pa ca), (.slice Qa qa ea)]).alloc (.cells #[(.slice Pb pb cb), (.slice Qb qb eb)] 52)).alloc (.cells #[(.slice none 0 0), (.slice none 0 0)] 52)
  have e1 := (Blk.new ((w).alloc (.cells #[(.slice Pa pa ca), (.slice Qa qa ea)] 52)) 52 #[(.slice Pb pb cb), (.slice Qb qb eb)]).alloc (.cells #[(.slice none 0 0), (.slice none 0 0)] 52)
  have e2 := Blk.new (((w).alloc (.cells #[(.slice Pa pa ca), (.slice Qa qa ea)] 52)).alloc (.cells #[(.slice Pb pb cb), (.slice Qb qb eb)] 52)) 52 #[(.slice none 0 0), (.slice none 0 0)]
  have hb := cba (cba (cba (Below.refl _ w) (.cells #[(.slice Pa pa ca), (.slice Qa qa ea)] 52)) (.cells #[(.slice Pb pb cb), (.slice Qb qb eb)] 52)) (.cells #[(.slice none 0 0), (.slice none 0 0)] 52)
  simp only [World.size_alloc] at e1 e2
  have hsz : w.heap.size ≤ w.heap.size := Nat.le_refl _
  go_enter Try.func68, Try.ntmps68
  go_upto_region 1 with (fail)
  obtain ⟨S, hS⟩ : ∃ S, (((w).alloc (.cells #[(.slice Pa pa ca), (.slice Qa qa ea)] 52)).alloc (.cells #[(.slice Pb pb cb), (.slice Qb qb eb)] 52)).alloc (.cells #[(.slice none 0 0), (.slice none 0 0)] 52) = S := ⟨_, rfl⟩
  rw [hS] at e0 e1 e2 hb ⊢
  replace Ha := Lib.hid (Ha.out.below hb)
  replace Hb := Lib.hid (Hb.out.below hb)
  have HB0 := Lib.hid hb
  have E0 := Lib.hid e0
  have E1 := Lib.hid e1
  have E2 := Lib.hid e2
  clear hS hb hsz e0 e1 e2
  have Ha0 := Lib.hid (RF.fst Ha.out)
  have Ha1 := Lib.hid (RF.snd Ha.out)
  have Hb0 := Lib.hid (RF.fst Hb.out)
  have Hb1 := Lib.hid (RF.snd Hb.out)
  go_wp2_with fail
  let FS : List Kept1 := [.eq (.pointer (some ⟨w.heap.size, 0, none⟩)), .r (n), .eq (.pointer (some ⟨w.heap.size + 1, 1, none⟩)), .r (e), .r (n * e), .eq (.pointer (some ⟨w.heap.size + 1, 0, none⟩)), .r (m), .eq (.pointer (some ⟨w.heap.size, 1, none⟩)), .r (d), .r (m * d), .r (n * e + m * d), .eq (.pointer (some ⟨w.heap.size, 1, none⟩)), .r (d), .eq (.pointer (some ⟨w.heap.size + 1, 1, none⟩)), .r (e), .r (d * e), .rf (rn (n * e + m * d) (d * e)) (rd (n * e + m * d) (d * e)), .any]
  let BS : List Bx := [Bx.ref (.inr (w.heap.size + 1 + 1)) 17 #[(.slice none 0 0), (.slice none 0 0)] (rn (n * e + m * d) (d * e)) (rd (n * e + m * d) (d * e))]
  refine region_mono (Held S (fun j => FS.getD j .any) BS) (by kernel_rfl) (by kernel_rfl) (by kernel_rfl) (Held.start _ _ _ (by simp [BS, Bx.nat, Bx.rat, Bx.ref] <;> exact E2.out) (by simp [BS, Bx.nat, Bx.rat, Bx.ref])) ?_
  refine Steps.held ?_ ?_
  · intro L v w' hJ
    go_wp2_with fail
    exact ⟨rfl, rfl, hJ.out.same (by rfl) (rfl)⟩
  simp only [Act.put, List.setIfInBounds_toArray, List.set_cons_zero, List.set_cons_succ, Nat.reduceAdd]
  refine Steps.held ?_ ?_
  · intro L v w' hJ
    have hv0 : v 0 = .pointer (some ⟨w.heap.size, 0, none⟩) := hJ.out.fact 0 (by kernel_rfl)
    simp only [hv0]
    clear hv0
    have kb := hJ.out.blk E0.out (by simp [oldsOf, BS, Bx.nat, Bx.rat, Bx.ref] <;> omega)
    have k0 := kb.cell 0
    have k1 := kb.cell 1
    clear kb
    go_wp2_with fail
    exact ⟨rfl, rfl, hJ.out.same (by rfl) (Ha0.out.keep hJ.out.held.keep)⟩
  simp only [Act.put, List.setIfInBounds_toArray, List.set_cons_zero, List.set_cons_succ, Nat.reduceAdd]
  refine Steps.held ?_ ?_
  · intro L v w' hJ
    go_wp2_with fail
    exact ⟨rfl, rfl, hJ.out.same (by rfl) (rfl)⟩
  simp only [Act.put, List.setIfInBounds_toArray, List.set_cons_zero, List.set_cons_succ, Nat.reduceAdd]
  refine Steps.held ?_ ?_
  · intro L v w' hJ
    have hv2 : v 2 = .pointer (some ⟨w.heap.size + 1, 1, none⟩) := hJ.out.fact 2 (by kernel_rfl)
    simp only [hv2]
    clear hv2
    have kb := hJ.out.blk E1.out (by simp [oldsOf, BS, Bx.nat, Bx.rat, Bx.ref] <;> omega)
    have k0 := kb.cell 0
    have k1 := kb.cell 1
    clear kb
    go_wp2_with fail
    exact ⟨rfl, rfl, hJ.out.same (by rfl) (Hb1.out.keep hJ.out.held.keep)⟩
  simp only [Act.put, List.setIfInBounds_toArray, List.set_cons_zero, List.set_cons_succ, Nat.reduceAdd]
  refine Steps.held ?_ ?_
  · intro L v w' hJ
    have X0 := Lib.hid (show R256 w' (v 1) (n) from hJ.out.fact 1 (by kernel_rfl))
    have X1 := Lib.hid (show R256 w' (v 3) (e) from hJ.out.fact 3 (by kernel_rfl))
    go_wp2_with fail
    with_reducible refine (HM1.out _ _ _ X0.out X1.out).mono ?_
    rintro e w1 ⟨u, rfl, hu, hb⟩
    go_wp2_with fail
    exact ⟨rfl, rfl, hJ.out.call (by rfl) hb (hu)⟩
  simp only [Act.put, List.setIfInBounds_toArray, List.set_cons_zero, List.set_cons_succ, Nat.reduceAdd]
  refine Steps.held ?_ ?_
  · intro L v w' hJ
    go_wp2_with fail
    exact ⟨rfl, rfl, hJ.out.same (by rfl) (rfl)⟩
  simp only [Act.put, List.setIfInBounds_toArray, List.set_cons_zero, List.set_cons_succ, Nat.reduceAdd]
  refine Steps.held ?_ ?_
  · intro L v w' hJ
    have hv5 : v 5 = .pointer (some ⟨w.heap.size + 1, 0, none⟩) := hJ.out.fact 5 (by kernel_rfl)
    simp only [hv5]
    clear hv5
    have kb := hJ.out.blk E1.out (by simp [oldsOf, BS, Bx.nat, Bx.rat, Bx.ref] <;> omega)
    have k0 := kb.cell 0
    have k1 := kb.cell 1
    clear kb
    go_wp2_with fail
    exact ⟨rfl, rfl, hJ.out.same (by rfl) (Hb0.out.keep hJ.out.held.keep)⟩
  simp only [Act.put, List.setIfInBounds_toArray, List.set_cons_zero, List.set_cons_succ, Nat.reduceAdd]
  refine Steps.held ?_ ?_
  · intro L v w' hJ
    go_wp2_with fail
    exact ⟨rfl, rfl, hJ.out.same (by rfl) (rfl)⟩
  simp only [Act.put, List.setIfInBounds_toArray, List.set_cons_zero, List.set_cons_succ, Nat.reduceAdd]
  refine Steps.held ?_ ?_
  · intro L v w' hJ
    have hv7 : v 7 = .pointer (some ⟨w.heap.size, 1, none⟩) := hJ.out.fact 7 (by kernel_rfl)
    simp only [hv7]
    clear hv7
    have kb := hJ.out.blk E0.out (by simp [oldsOf, BS, Bx.nat, Bx.rat, Bx.ref] <;> omega)
    have k0 := kb.cell 0
    have k1 := kb.cell 1
    clear kb
    go_wp2_with fail
    exact ⟨rfl, rfl, hJ.out.same (by rfl) (Ha1.out.keep hJ.out.held.keep)⟩
  simp only [Act.put, List.setIfInBounds_toArray, List.set_cons_zero, List.set_cons_succ, Nat.reduceAdd]
  refine Steps.held ?_ ?_
  · intro L v w' hJ
    have X0 := Lib.hid (show R256 w' (v 6) (m) from hJ.out.fact 6 (by kernel_rfl))
    have X1 := Lib.hid (show R256 w' (v 8) (d) from hJ.out.fact 8 (by kernel_rfl))
    go_wp2_with fail
    with_reducible refine (HM2.out _ _ _ X0.out X1.out).mono ?_
    rintro e w1 ⟨u, rfl, hu, hb⟩
    go_wp2_with fail
    exact ⟨rfl, rfl, hJ.out.call (by rfl) hb (hu)⟩
  simp only [Act.put, List.setIfInBounds_toArray, List.set_cons_zero, List.set_cons_succ, Nat.reduceAdd]
  refine Steps.held ?_ ?_
  · intro L v w' hJ
    have X0 := Lib.hid (show R256 w' (v 4) (n * e) from hJ.out.fact 4 (by kernel_rfl))
    have X1 := Lib.hid (show R256 w' (v 9) (m * d) from hJ.out.fact 9 (by kernel_rfl))
    go_wp2_with fail
    with_reducible refine (HAD.out _ _ _ X0.out X1.out).mono ?_
    rintro e w1 ⟨u, rfl, hu, hb⟩
    go_wp2_with fail
    exact ⟨rfl, rfl, hJ.out.call (by rfl) hb (hu)⟩
  simp only [Act.put, List.setIfInBounds_toArray, List.set_cons_zero, List.set_cons_succ, Nat.reduceAdd]
  refine Steps.held ?_ ?_
  · intro L v w' hJ
    go_wp2_with fail
    exact ⟨rfl, rfl, hJ.out.same (by rfl) (rfl)⟩
  simp only [Act.put, List.setIfInBounds_toArray, List.set_cons_zero, List.set_cons_succ, Nat.reduceAdd]
  refine Steps.held ?_ ?_
  · intro L v w' hJ
    have hv11 : v 11 = .pointer (some ⟨w.heap.size, 1, none⟩) := hJ.out.fact 11 (by kernel_rfl)
    simp only [hv11]
    clear hv11
    have kb := hJ.out.blk E0.out (by simp [oldsOf, BS, Bx.nat, Bx.rat, Bx.ref] <;> omega)
    have k0 := kb.cell 0
    have k1 := kb.cell 1
    clear kb
    go_wp2_with fail
    exact ⟨rfl, rfl, hJ.out.same (by rfl) (Ha1.out.keep hJ.out.held.keep)⟩
  simp only [Act.put, List.setIfInBounds_toArray, List.set_cons_zero, List.set_cons_succ, Nat.reduceAdd]
  refine Steps.held ?_ ?_
  · intro L v w' hJ
    go_wp2_with fail
    exact ⟨rfl, rfl, hJ.out.same (by rfl) (rfl)⟩
  simp only [Act.put, List.setIfInBounds_toArray, List.set_cons_zero, List.set_cons_succ, Nat.reduceAdd]
  refine Steps.held ?_ ?_
  · intro L v w' hJ
    have hv13 : v 13 = .pointer (some ⟨w.heap.size + 1, 1, none⟩) := hJ.out.fact 13 (by kernel_rfl)
    simp only [hv13]
    clear hv13
    have kb := hJ.out.blk E1.out (by simp [oldsOf, BS, Bx.nat, Bx.rat, Bx.ref] <;> omega)
    have k0 := kb.cell 0
    have k1 := kb.cell 1
    clear kb
    go_wp2_with fail
    exact ⟨rfl, rfl, hJ.out.same (by rfl) (Hb1.out.keep hJ.out.held.keep)⟩
  simp only [Act.put, List.setIfInBounds_toArray, List.set_cons_zero, List.set_cons_succ, Nat.reduceAdd]
  refine Steps.held ?_ ?_
  · intro L v w' hJ
    have X0 := Lib.hid (show R256 w' (v 12) (d) from hJ.out.fact 12 (by kernel_rfl))
    have X1 := Lib.hid (show R256 w' (v 14) (e) from hJ.out.fact 14 (by kernel_rfl))
    go_wp2_with fail
    with_reducible refine (HM3.out _ _ _ X0.out X1.out).mono ?_
    rintro e w1 ⟨u, rfl, hu, hb⟩
    go_wp2_with fail
    exact ⟨rfl, rfl, hJ.out.call (by rfl) hb (hu)⟩
  simp only [Act.put, List.setIfInBounds_toArray, List.set_cons_zero, List.set_cons_succ, Nat.reduceAdd]
  refine Steps.held ?_ ?_
  · intro L v w' hJ
    have X0 := Lib.hid (show R256 w' (v 10) (n * e + m * d) from hJ.out.fact 10 (by kernel_rfl))
    have X1 := Lib.hid (show R256 w' (v 15) (d * e) from hJ.out.fact 15 (by kernel_rfl))
    go_wp2_with fail
    with_reducible refine (HMA.out _ _ _ X0.out X1.out).mono ?_
    rintro e w1 ⟨u, rfl, hu, hb⟩
    go_wp2_with fail
    exact ⟨rfl, rfl, hJ.out.call (by rfl) hb (hu)⟩
  simp only [Act.put, List.setIfInBounds_toArray, List.set_cons_zero, List.set_cons_succ, Nat.reduceAdd]
  refine Steps.held ?_ ?_
  · intro L v w' hJ
    obtain ⟨hown, hst⟩ := hJ.out.oldbox 0 _ rfl (w.heap.size + 1 + 1) rfl
    have hN : RF w' (v 16) (rn (n * e + m * d) (d * e)) (rd (n * e + m * d) (d * e)) := hJ.out.fact 16 (by kernel_rfl)
    obtain ⟨A1, p1, c1, B1, q1, e1, hv, h1, h2⟩ := hN
    have HN := Lib.hid (show RF w' (.agg #[.slice A1 p1 c1, .slice B1 q1 e1]) (rn (n * e + m * d) (d * e)) (rd (n * e + m * d) (d * e)) from ⟨A1, p1, c1, B1, q1, e1, rfl, h1, h2⟩)
    have kb := hJ.out.box 0 _ rfl rfl (w.heap.size + 1 + 1) hown
    have k0 : w'.cell? ⟨(w.heap.size + 1 + 1), 0, none⟩ = some ((.slice none 0 0)) := kb.cell 0
    have k1 : w'.cell? ⟨(w.heap.size + 1 + 1), 1, none⟩ = some ((.slice none 0 0)) := kb.cell 1
    have f0 := kb.frozen 0
    have f1 := kb.frozen 1
    have HO := Lib.hid hown
    have HS := Lib.hid hst
    clear kb h1 h2 hown hst
    simp only [hv]
    clear hv
    go_wp2_with fail
    exact ⟨rfl, rfl, hJ.out.fill2 0 _ rfl rfl (by rfl) (w.heap.size + 1 + 1) HO.out HS.out _ _ rfl rfl rfl (fun W k => HN.out.keep k) (fun _ => trivial)⟩
  simp only [Act.put, List.setIfInBounds_toArray, List.set_cons_zero, List.set_cons_succ, Nat.reduceAdd]
  refine Steps.nil ?_
  intro v w' hJ
  obtain ⟨cs, hblk, hf⟩ := hJ.end_old 0 _ rfl (w.heap.size + 1 + 1) rfl (Nat.le_of_ble_eq_true rfl)
  have hf' : RF w' (.agg cs) (rn (n * e + m * d) (d * e)) (rd (n * e + m * d) (d * e)) := hf
  obtain ⟨A1, p1, c1, B1, q1, e1, hcs, h1, h2⟩ := hf'
  have hcs' := Value.agg.inj hcs
  subst hcs'
  have k0 := hblk.cell 0
  have k1 := hblk.cell 1
  have hbw : Below w.heap.size w w' := hJ.but.to_below HB0.out HB0.out.size (by intro g hg; simp [oldsOf, BS, Bx.nat, Bx.rat, Bx.ref] at hg; subst hg; omega)
  have HX := Lib.hid (show MkR w (rn (n * e + m * d) (d * e)) (rd (n * e + m * d) (d * e)) (.returned (.agg #[.slice A1 p1 c1, .slice B1 q1 e1])) w' from ⟨_, rfl, ⟨A1, p1, c1, B1, q1, e1, rfl, h1, h2⟩, hbw⟩)
  clear hJ h1 h2 hbw hblk hcs hf
  go_wp2_with fail
  exact bodyPost_ret (v := .agg #[.slice A1 p1 c1, .slice B1 q1 e1]) (by simp [results, Try.results68, go_sem, k0, k1]) rfl HX.out
set_option maxRecDepth 100000 in
set_option maxHeartbeats 4000000 in
theorem xcmp_any (va vb : Value) (n d m e : Nat) (w : World) (ha : RF w va n d) (hb : RF w vb m e) (hn : wl 8 n ≤ 100000000) (hd : wl 8 d ≤ 100000000) (hm : wl 8 m ≤ 100000000) (he : wl 8 e ≤ 100000000) : Calls Try.prog 76 #[va, vb] w fun x w' => x = .returned (.int .i64 (cmpN (n * e) (m * d))) ∧ Below w.heap.size w w' := by
  have Ha := Lib.hid ha
  obtain ⟨Pa, pa, ca, Qa, qa, ea, rfl, _, _⟩ := ha
  have Hb := Lib.hid hb
  obtain ⟨Pb, pb, cb, Qb, qb, eb, rfl, _, _⟩ := hb
  have hm1 := wl_mul_le (k := 8) (x := n) (y := e) (by decide) hn he
  have HM1 := Lib.hid (fun W va vb (h1 : R256 W va (n)) (h2 : R256 W vb (e)) => rmul_any h1 h2 (by omega) (by omega))
  have hm2 := wl_mul_le (k := 8) (x := m) (y := d) (by decide) hm hd
  have HM2 := Lib.hid (fun W va vb (h1 : R256 W va (m)) (h2 : R256 W vb (d)) => rmul_any h1 h2 (by omega) (by omega))
  have HCM := Lib.hid (fun W va vb (h1 : R256 W va (n * e)) (h2 : R256 W vb (m * d)) => rcmp_any h1 h2 (by omega))
  clear hn hd hm he hm1 hm2
  obtain ⟨cc, hcc⟩ : ∃ c, cmpN (n * e) (m * d) = c := ⟨_, rfl⟩
  rw [hcc] at HCM ⊢
  clear hcc
  have e0 := (Blk.new (w) 52 #[(.slice Pa pa ca), (.slice Qa qa ea)]).alloc (.cells #[(.slice Pb pb cb), (.slice Qb qb eb)] 52)
  have e1 := Blk.new ((w).alloc (.cells #[(.slice Pa pa ca), (.slice Qa qa ea)] 52)) 52 #[(.slice Pb pb cb), (.slice Qb qb eb)]
  have hb := cba (cba (Below.refl _ w) (.cells #[(.slice Pa pa ca), (.slice Qa qa ea)] 52)) (.cells #[(.slice Pb pb cb), (.slice Qb qb eb)] 52)
  simp only [World.size_alloc] at e1
  have hsz : w.heap.size ≤ w.heap.size := Nat.le_refl _
  go_enter Try.func76, Try.ntmps76
  go_upto_region 1 with (fail)
  obtain ⟨S, hS⟩ : ∃ S, ((w).alloc (.cells #[(.slice Pa pa ca), (.slice Qa qa ea)] 52)).alloc (.cells #[(.slice Pb pb cb), (.slice Qb qb eb)] 52) = S := ⟨_, rfl⟩
  rw [hS] at e0 e1 hb ⊢
  replace Ha := Lib.hid (Ha.out.below hb)
  replace Hb := Lib.hid (Hb.out.below hb)
  have HB0 := Lib.hid hb
  have E0 := Lib.hid e0
  have E1 := Lib.hid e1
  clear hS hb hsz e0 e1
  have Ha0 := Lib.hid (RF.fst Ha.out)
  have Ha1 := Lib.hid (RF.snd Ha.out)
  have Hb0 := Lib.hid (RF.fst Hb.out)
  have Hb1 := Lib.hid (RF.snd Hb.out)
  go_wp2_with fail
  let FS : List Kept1 := [.eq (.pointer (some ⟨w.heap.size, 0, none⟩)), .r (n), .eq (.pointer (some ⟨w.heap.size + 1, 1, none⟩)), .r (e), .r (n * e), .eq (.pointer (some ⟨w.heap.size + 1, 0, none⟩)), .r (m), .eq (.pointer (some ⟨w.heap.size, 1, none⟩)), .r (d), .r (m * d), .eq (.int .i64 cc), .eq (.int .i64 cc)]
  refine region_mono (Held S (fun j => FS.getD j .any) []) (by kernel_rfl) (by kernel_rfl) (by kernel_rfl) (Held.start _ _ _ (by simp) (by simp)) ?_
  refine Steps.held ?_ ?_
  · intro L v w' hJ
    go_wp2_with fail
    exact ⟨rfl, rfl, hJ.out.same (by rfl) (rfl)⟩
  simp only [Act.put, List.setIfInBounds_toArray, List.set_cons_zero, List.set_cons_succ, Nat.reduceAdd]
  refine Steps.held ?_ ?_
  · intro L v w' hJ
    have hv0 : v 0 = .pointer (some ⟨w.heap.size, 0, none⟩) := hJ.out.fact 0 (by kernel_rfl)
    simp only [hv0]
    clear hv0
    have kb := hJ.out.blk E0.out (by simp [oldsOf])
    have k0 := kb.cell 0
    have k1 := kb.cell 1
    clear kb
    go_wp2_with fail
    exact ⟨rfl, rfl, hJ.out.same (by rfl) (Ha0.out.keep hJ.out.held.keep)⟩
  simp only [Act.put, List.setIfInBounds_toArray, List.set_cons_zero, List.set_cons_succ, Nat.reduceAdd]
  refine Steps.held ?_ ?_
  · intro L v w' hJ
    go_wp2_with fail
    exact ⟨rfl, rfl, hJ.out.same (by rfl) (rfl)⟩
  simp only [Act.put, List.setIfInBounds_toArray, List.set_cons_zero, List.set_cons_succ, Nat.reduceAdd]
  refine Steps.held ?_ ?_
  · intro L v w' hJ
    have hv2 : v 2 = .pointer (some ⟨w.heap.size + 1, 1, none⟩) := hJ.out.fact 2 (by kernel_rfl)
    simp only [hv2]
    clear hv2
    have kb := hJ.out.blk E1.out (by simp [oldsOf])
    have k0 := kb.cell 0
    have k1 := kb.cell 1
    clear kb
    go_wp2_with fail
    exact ⟨rfl, rfl, hJ.out.same (by rfl) (Hb1.out.keep hJ.out.held.keep)⟩
  simp only [Act.put, List.setIfInBounds_toArray, List.set_cons_zero, List.set_cons_succ, Nat.reduceAdd]
  refine Steps.held ?_ ?_
  · intro L v w' hJ
    have X0 := Lib.hid (show R256 w' (v 1) (n) from hJ.out.fact 1 (by kernel_rfl))
    have X1 := Lib.hid (show R256 w' (v 3) (e) from hJ.out.fact 3 (by kernel_rfl))
    go_wp2_with fail
    with_reducible refine (HM1.out _ _ _ X0.out X1.out).mono ?_
    rintro e w1 ⟨u, rfl, hu, hb⟩
    go_wp2_with fail
    exact ⟨rfl, rfl, hJ.out.call (by rfl) hb (hu)⟩
  simp only [Act.put, List.setIfInBounds_toArray, List.set_cons_zero, List.set_cons_succ, Nat.reduceAdd]
  refine Steps.held ?_ ?_
  · intro L v w' hJ
    go_wp2_with fail
    exact ⟨rfl, rfl, hJ.out.same (by rfl) (rfl)⟩
  simp only [Act.put, List.setIfInBounds_toArray, List.set_cons_zero, List.set_cons_succ, Nat.reduceAdd]
  refine Steps.held ?_ ?_
  · intro L v w' hJ
    have hv5 : v 5 = .pointer (some ⟨w.heap.size + 1, 0, none⟩) := hJ.out.fact 5 (by kernel_rfl)
    simp only [hv5]
    clear hv5
    have kb := hJ.out.blk E1.out (by simp [oldsOf])
    have k0 := kb.cell 0
    have k1 := kb.cell 1
    clear kb
    go_wp2_with fail
    exact ⟨rfl, rfl, hJ.out.same (by rfl) (Hb0.out.keep hJ.out.held.keep)⟩
  simp only [Act.put, List.setIfInBounds_toArray, List.set_cons_zero, List.set_cons_succ, Nat.reduceAdd]
  refine Steps.held ?_ ?_
  · intro L v w' hJ
    go_wp2_with fail
    exact ⟨rfl, rfl, hJ.out.same (by rfl) (rfl)⟩
  simp only [Act.put, List.setIfInBounds_toArray, List.set_cons_zero, List.set_cons_succ, Nat.reduceAdd]
  refine Steps.held ?_ ?_
  · intro L v w' hJ
    have hv7 : v 7 = .pointer (some ⟨w.heap.size, 1, none⟩) := hJ.out.fact 7 (by kernel_rfl)
    simp only [hv7]
    clear hv7
    have kb := hJ.out.blk E0.out (by simp [oldsOf])
    have k0 := kb.cell 0
    have k1 := kb.cell 1
    clear kb
    go_wp2_with fail
    exact ⟨rfl, rfl, hJ.out.same (by rfl) (Ha1.out.keep hJ.out.held.keep)⟩
  simp only [Act.put, List.setIfInBounds_toArray, List.set_cons_zero, List.set_cons_succ, Nat.reduceAdd]
  refine Steps.held ?_ ?_
  · intro L v w' hJ
    have X0 := Lib.hid (show R256 w' (v 6) (m) from hJ.out.fact 6 (by kernel_rfl))
    have X1 := Lib.hid (show R256 w' (v 8) (d) from hJ.out.fact 8 (by kernel_rfl))
    go_wp2_with fail
    with_reducible refine (HM2.out _ _ _ X0.out X1.out).mono ?_
    rintro e w1 ⟨u, rfl, hu, hb⟩
    go_wp2_with fail
    exact ⟨rfl, rfl, hJ.out.call (by rfl) hb (hu)⟩
  simp only [Act.put, List.setIfInBounds_toArray, List.set_cons_zero, List.set_cons_succ, Nat.reduceAdd]
  refine Steps.held ?_ ?_
  · intro L v w' hJ
    have X0 := Lib.hid (show R256 w' (v 4) (n * e) from hJ.out.fact 4 (by kernel_rfl))
    have X1 := Lib.hid (show R256 w' (v 9) (m * d) from hJ.out.fact 9 (by kernel_rfl))
    go_wp2_with fail
    with_reducible refine (HCM.out _ _ _ X0.out X1.out).mono ?_
    rintro e w1 ⟨rfl, hd⟩
    have hb := hd.below
    go_wp2_with fail
    exact ⟨rfl, rfl, hJ.out.call (by rfl) hb (rfl)⟩
  simp only [Act.put, List.setIfInBounds_toArray, List.set_cons_zero, List.set_cons_succ, Nat.reduceAdd]
  refine Steps.held ?_ ?_
  · intro L v w' hJ
    have hv10 : v 10 = .int .i64 cc := hJ.out.fact 10 (by kernel_rfl)
    simp only [hv10]
    clear hv10
    go_wp2_with fail
    exact ⟨rfl, rfl, hJ.out.same (by rfl) (rfl)⟩
  simp only [Act.put, List.setIfInBounds_toArray, List.set_cons_zero, List.set_cons_succ, Nat.reduceAdd]
  refine Steps.nil ?_
  intro v w' hJ
  have h11 : v 11 = .int .i64 cc := hJ.end_fact 11 (by decide)
  have HF := Lib.hid (cbt HB0.out hJ.but.below)
  clear hJ
  simp only [h11]
  clear h11
  go_wp2_with fail
  go_ret
  exact ⟨rfl, HF.out⟩
set_option maxRecDepth 100000 in
set_option maxHeartbeats 4000000 in
theorem xint_any (k : Int) (x : Nat) (hx : IntKind.u64.wrap k = (x : Int)) (hx2 : x < 2 ^ 64) (w : World) : Calls Try.prog 70 #[.int .i64 k] w (MkR w x 1) := by
  have HS := Lib.hid (fun W => rsmall_any x W hx2)
  clear hx2
  have e0 := Blk.new (w) 52 #[(.slice none 0 0), (.slice none 0 0)]
  have hb := cba (Below.refl _ w) (.cells #[(.slice none 0 0), (.slice none 0 0)] 52)
  have hsz : w.heap.size ≤ w.heap.size := Nat.le_refl _
  go_enter Try.func70, Try.ntmps70
  go_upto_region 1 with (fail)
  obtain ⟨S, hS⟩ : ∃ S, (w).alloc (.cells #[(.slice none 0 0), (.slice none 0 0)] 52) = S := ⟨_, rfl⟩
  rw [hS] at e0 hb ⊢
  have HB0 := Lib.hid hb
  have E0 := Lib.hid e0
  clear hS hb hsz e0
  have k_E0_0 := E0.out.cell 0
  have k_E0_1 := E0.out.cell 1
  go_wp2_with fail
  with_reducible refine (HS.out _).mono ?_
  rintro e w1 ⟨u, rfl, hu, hb⟩
  clear k_E0_0 k_E0_1
  replace E0 := Lib.hid (blk_below E0.out hb)
  replace HB0 := Lib.hid (cbt HB0.out hb)
  have NX := Lib.hid hu
  clear hb hu
  have k_E0_0 := E0.out.cell 0
  have k_E0_1 := E0.out.cell 1
  have ZX := NX.out
  obtain ⟨A, c, rfl, _, _⟩ := ZX
  obtain ⟨nx, hnx⟩ : ∃ n, (cs 8 x).length = n := ⟨_, rfl⟩
  rw [hnx] at NX ⊢
  clear hnx
  have f0 := E0.out.frozen 0
  have f1 := E0.out.frozen 1
  have hlt := E0.out.lt
  have hne : w.heap.size ≠ w1.heap.size := by omega
  have b1 := (E0.out.set_ 0 (.slice A nx c)).set_ 1 (.slice (some ⟨w1.heap.size, 0, none⟩) 1 1)
  have b2 := b1.alloc (.cells #[.int .i64 1] 3)
  have b3 := Blk.new ((w1.setCell ⟨w.heap.size, 0, none⟩ (.slice A nx c)).setCell ⟨w.heap.size, 1, none⟩ (.slice (some ⟨w1.heap.size, 0, none⟩) 1 1)) 3 #[.int .i64 1]
  have hs : ((w1.setCell ⟨w.heap.size, 0, none⟩ (.slice A nx c)).setCell ⟨w.heap.size, 1, none⟩ (.slice (some ⟨w1.heap.size, 0, none⟩) 1 1)).heap.size = w1.heap.size := by simp
  rw [hs] at b3
  have k0 := b2.cell 0
  have k1 := b2.cell 1
  have HX := Lib.hid (show MkR w x 1 (.returned (.agg #[.slice A nx c, .slice (some ⟨w1.heap.size, 0, none⟩) 1 1])) (((w1.setCell ⟨w.heap.size, 0, none⟩ (.slice A nx c)).setCell ⟨w.heap.size, 1, none⟩ (.slice (some ⟨w1.heap.size, 0, none⟩) 1 1)).alloc (.cells #[.int .i64 1] 3)) from
    ⟨_, rfl, ⟨_, _, _, _, _, _, rfl, (((NX.out.keep (Keep.set E0.out 0 rfl _)).keep (Keep.set (E0.out.set_ 0 _) 1 rfl _)).below (cba (Below.refl _ _) _)), R256.one b3⟩, ((HB0.out.setCell (p := ⟨w.heap.size, 0, none⟩) (Nat.le_refl _) _).setCell (p := ⟨w.heap.size, 1, none⟩) (Nat.le_refl _) _).alloc (by simpa using HB0.out.size) _⟩)
  clear b1 b2 b3 hs
  go_wp2_with fail
  exact bodyPost_ret (v := .agg #[.slice A nx c, .slice (some ⟨w1.heap.size, 0, none⟩) 1 1]) (by simp [results, Try.results70, go_sem, hlt, k_E0_0, k_E0_1]) rfl HX.out
set_option maxRecDepth 100000 in
set_option maxHeartbeats 4000000 in
theorem xless_any (va vb : Value) (n d m e : Nat) (w : World) (ha : RF w va n d) (hb : RF w vb m e) (hn : wl 8 n ≤ 100000000) (hd : wl 8 d ≤ 100000000) (hm : wl 8 m ≤ 100000000) (he : wl 8 e ≤ 100000000) (hd0 : 0 < d) (he0 : 0 < e) (hle : m * d ≤ n * e) : Calls Try.prog 69 #[va, vb] w (MkR w (rn (n * e - m * d) (d * e)) (rd (n * e - m * d) (d * e))) := by
  have Ha := Lib.hid ha
  obtain ⟨Pa, pa, ca, Qa, qa, ea, rfl, _, _⟩ := ha
  have Hb := Lib.hid hb
  obtain ⟨Pb, pb, cb, Qb, qb, eb, rfl, _, _⟩ := hb
  have HCM := Lib.hid (fun va vb W h1 h2 => xcmp_any va vb n d m e W h1 h2 hn hd hm he)
  have hc0 : decide (cmpN (n * e) (m * d) < 0) = false := decide_eq_false (by have := cmpN_ge (x := n * e) (y := m * d) hle; omega)
  obtain ⟨cc, hcc⟩ : ∃ c, cmpN (n * e) (m * d) = c := ⟨_, rfl⟩
  rw [hcc] at HCM hc0
  have hm1 := wl_mul_le (k := 8) (x := n) (y := e) (by decide) hn he
  have HM1 := Lib.hid (fun W va vb (h1 : R256 W va (n)) (h2 : R256 W vb (e)) => rmul_any h1 h2 (by omega) (by omega))
  have hm2 := wl_mul_le (k := 8) (x := m) (y := d) (by decide) hm hd
  have HM2 := Lib.hid (fun W va vb (h1 : R256 W va (m)) (h2 : R256 W vb (d)) => rmul_any h1 h2 (by omega) (by omega))
  have hm3 := wl_mul_le (k := 8) (x := d) (y := e) (by decide) hd he
  have HM3 := Lib.hid (fun W va vb (h1 : R256 W va (d)) (h2 : R256 W vb (e)) => rmul_any h1 h2 (by omega) (by omega))
  have hsm := Nat.le_trans (wl_mono (k := 8) (by decide) (show n * e - m * d ≤ n * e from Nat.sub_le _ _)) hm1
  have HAD := Lib.hid (fun W va vb (h1 : R256 W va (n * e)) (h2 : R256 W vb (m * d)) => rsub_any h1 h2 (by omega) hle)
  have HMA := Lib.hid (fun va vb W h1 h2 => xof_any va vb (n * e - m * d) (d * e) W h1 h2 (by omega) (by omega) (Nat.mul_pos hd0 he0))
  clear hm1 hm2 hm3 hsm hle hcc
  clear hn hd hm he hd0 he0
  have e0 := ((Blk.new (w) 52 #[(.slice Pa pa ca), (.slice Qa qa ea)]).alloc (.cells #[(.slice Pb pb cb), (.slice Qb qb eb)] 52)).alloc (.cells #[(.slice none 0 0), (.slice none 0 0)] 52)
  have e1 := (Blk.new ((w).alloc (.cells #[(.slice Pa pa ca), (.slice Qa qa ea)] 52)) 52 #[(.slice Pb pb cb), (.slice Qb qb eb)]).alloc (.cells #[(.slice none 0 0), (.slice none 0 0)] 52)
  have e2 := Blk.new (((w).alloc (.cells #[(.slice Pa pa ca), (.slice Qa qa ea)] 52)).alloc (.cells #[(.slice Pb pb cb), (.slice Qb qb eb)] 52)) 52 #[(.slice none 0 0), (.slice none 0 0)]
  have hb := cba (cba (cba (Below.refl _ w) (.cells #[(.slice Pa pa ca), (.slice Qa qa ea)] 52)) (.cells #[(.slice Pb pb cb), (.slice Qb qb eb)] 52)) (.cells #[(.slice none 0 0), (.slice none 0 0)] 52)
  simp only [World.size_alloc] at e1 e2
  have hsz : w.heap.size ≤ w.heap.size := Nat.le_refl _
  go_enter Try.func69, Try.ntmps69
  go_upto_region 1 with (fail)
  obtain ⟨S, hS⟩ : ∃ S, (((w).alloc (.cells #[(.slice Pa pa ca), (.slice Qa qa ea)] 52)).alloc (.cells #[(.slice Pb pb cb), (.slice Qb qb eb)] 52)).alloc (.cells #[(.slice none 0 0), (.slice none 0 0)] 52) = S := ⟨_, rfl⟩
  rw [hS] at e0 e1 e2 hb ⊢
  replace Ha := Lib.hid (Ha.out.below hb)
  replace Hb := Lib.hid (Hb.out.below hb)
  have HB0 := Lib.hid hb
  have E0 := Lib.hid e0
  have E1 := Lib.hid e1
  have E2 := Lib.hid e2
  clear hS hb hsz e0 e1 e2
  have k_E0_0 := E0.out.cell 0
  have k_E0_1 := E0.out.cell 1
  have k_E1_0 := E1.out.cell 0
  have k_E1_1 := E1.out.cell 1
  have k_E2_0 := E2.out.cell 0
  have k_E2_1 := E2.out.cell 1
  go_wp2_with fail
  with_reducible refine (HCM.out _ _ _ Ha.out Hb.out).mono ?_
  rintro e w1 ⟨rfl, hb⟩
  clear k_E0_0 k_E0_1 k_E1_0 k_E1_1 k_E2_0 k_E2_1
  replace Ha := Lib.hid (Ha.out.below hb)
  replace Hb := Lib.hid (Hb.out.below hb)
  replace E0 := Lib.hid (blk_below E0.out hb)
  replace E1 := Lib.hid (blk_below E1.out hb)
  replace E2 := Lib.hid (blk_below E2.out hb)
  replace HB0 := Lib.hid (cbt HB0.out hb)
  clear hb
  have k_E0_0 := E0.out.cell 0
  have k_E0_1 := E0.out.cell 1
  have k_E1_0 := E1.out.cell 0
  have k_E1_1 := E1.out.cell 1
  have k_E2_0 := E2.out.cell 0
  have k_E2_1 := E2.out.cell 1
  have Ha0 := Lib.hid (RF.fst Ha.out)
  have Ha1 := Lib.hid (RF.snd Ha.out)
  have Hb0 := Lib.hid (RF.fst Hb.out)
  have Hb1 := Lib.hid (RF.snd Hb.out)
  go_wp2_with fail
  clear k_E0_0 k_E0_1 k_E1_0 k_E1_1 k_E2_0 k_E2_1
  let FS : List Kept1 := [.eq (.pointer (some ⟨w.heap.size, 0, none⟩)), .r (n), .eq (.pointer (some ⟨w.heap.size + 1, 1, none⟩)), .r (e), .r (n * e), .eq (.pointer (some ⟨w.heap.size + 1, 0, none⟩)), .r (m), .eq (.pointer (some ⟨w.heap.size, 1, none⟩)), .r (d), .r (m * d), .r (n * e - m * d), .eq (.pointer (some ⟨w.heap.size, 1, none⟩)), .r (d), .eq (.pointer (some ⟨w.heap.size + 1, 1, none⟩)), .r (e), .r (d * e), .rf (rn (n * e - m * d) (d * e)) (rd (n * e - m * d) (d * e)), .any]
  let BS : List Bx := [Bx.ref (.inr (w.heap.size + 1 + 1)) 17 #[(.slice none 0 0), (.slice none 0 0)] (rn (n * e - m * d) (d * e)) (rd (n * e - m * d) (d * e))]
  refine region_mono (Held w1 (fun j => FS.getD j .any) BS) (by kernel_rfl) (by kernel_rfl) (by kernel_rfl) (Held.start _ _ _ (by simp [BS, Bx.nat, Bx.rat, Bx.ref] <;> exact E2.out) (by simp [BS, Bx.nat, Bx.rat, Bx.ref])) ?_
  refine Steps.held ?_ ?_
  · intro L v w' hJ
    go_wp2_with fail
    exact ⟨rfl, rfl, hJ.out.same (by rfl) (rfl)⟩
  simp only [Act.put, List.setIfInBounds_toArray, List.set_cons_zero, List.set_cons_succ, Nat.reduceAdd]
  refine Steps.held ?_ ?_
  · intro L v w' hJ
    have hv0 : v 0 = .pointer (some ⟨w.heap.size, 0, none⟩) := hJ.out.fact 0 (by kernel_rfl)
    simp only [hv0]
    clear hv0
    have kb := hJ.out.blk E0.out (by simp [oldsOf, BS, Bx.nat, Bx.rat, Bx.ref] <;> omega)
    have k0 := kb.cell 0
    have k1 := kb.cell 1
    clear kb
    go_wp2_with fail
    exact ⟨rfl, rfl, hJ.out.same (by rfl) (Ha0.out.keep hJ.out.held.keep)⟩
  simp only [Act.put, List.setIfInBounds_toArray, List.set_cons_zero, List.set_cons_succ, Nat.reduceAdd]
  refine Steps.held ?_ ?_
  · intro L v w' hJ
    go_wp2_with fail
    exact ⟨rfl, rfl, hJ.out.same (by rfl) (rfl)⟩
  simp only [Act.put, List.setIfInBounds_toArray, List.set_cons_zero, List.set_cons_succ, Nat.reduceAdd]
  refine Steps.held ?_ ?_
  · intro L v w' hJ
    have hv2 : v 2 = .pointer (some ⟨w.heap.size + 1, 1, none⟩) := hJ.out.fact 2 (by kernel_rfl)
    simp only [hv2]
    clear hv2
    have kb := hJ.out.blk E1.out (by simp [oldsOf, BS, Bx.nat, Bx.rat, Bx.ref] <;> omega)
    have k0 := kb.cell 0
    have k1 := kb.cell 1
    clear kb
    go_wp2_with fail
    exact ⟨rfl, rfl, hJ.out.same (by rfl) (Hb1.out.keep hJ.out.held.keep)⟩
  simp only [Act.put, List.setIfInBounds_toArray, List.set_cons_zero, List.set_cons_succ, Nat.reduceAdd]
  refine Steps.held ?_ ?_
  · intro L v w' hJ
    have X0 := Lib.hid (show R256 w' (v 1) (n) from hJ.out.fact 1 (by kernel_rfl))
    have X1 := Lib.hid (show R256 w' (v 3) (e) from hJ.out.fact 3 (by kernel_rfl))
    go_wp2_with fail
    with_reducible refine (HM1.out _ _ _ X0.out X1.out).mono ?_
    rintro e w1 ⟨u, rfl, hu, hb⟩
    go_wp2_with fail
    exact ⟨rfl, rfl, hJ.out.call (by rfl) hb (hu)⟩
  simp only [Act.put, List.setIfInBounds_toArray, List.set_cons_zero, List.set_cons_succ, Nat.reduceAdd]
  refine Steps.held ?_ ?_
  · intro L v w' hJ
    go_wp2_with fail
    exact ⟨rfl, rfl, hJ.out.same (by rfl) (rfl)⟩
  simp only [Act.put, List.setIfInBounds_toArray, List.set_cons_zero, List.set_cons_succ, Nat.reduceAdd]
  refine Steps.held ?_ ?_
  · intro L v w' hJ
    have hv5 : v 5 = .pointer (some ⟨w.heap.size + 1, 0, none⟩) := hJ.out.fact 5 (by kernel_rfl)
    simp only [hv5]
    clear hv5
    have kb := hJ.out.blk E1.out (by simp [oldsOf, BS, Bx.nat, Bx.rat, Bx.ref] <;> omega)
    have k0 := kb.cell 0
    have k1 := kb.cell 1
    clear kb
    go_wp2_with fail
    exact ⟨rfl, rfl, hJ.out.same (by rfl) (Hb0.out.keep hJ.out.held.keep)⟩
  simp only [Act.put, List.setIfInBounds_toArray, List.set_cons_zero, List.set_cons_succ, Nat.reduceAdd]
  refine Steps.held ?_ ?_
  · intro L v w' hJ
    go_wp2_with fail
    exact ⟨rfl, rfl, hJ.out.same (by rfl) (rfl)⟩
  simp only [Act.put, List.setIfInBounds_toArray, List.set_cons_zero, List.set_cons_succ, Nat.reduceAdd]
  refine Steps.held ?_ ?_
  · intro L v w' hJ
    have hv7 : v 7 = .pointer (some ⟨w.heap.size, 1, none⟩) := hJ.out.fact 7 (by kernel_rfl)
    simp only [hv7]
    clear hv7
    have kb := hJ.out.blk E0.out (by simp [oldsOf, BS, Bx.nat, Bx.rat, Bx.ref] <;> omega)
    have k0 := kb.cell 0
    have k1 := kb.cell 1
    clear kb
    go_wp2_with fail
    exact ⟨rfl, rfl, hJ.out.same (by rfl) (Ha1.out.keep hJ.out.held.keep)⟩
  simp only [Act.put, List.setIfInBounds_toArray, List.set_cons_zero, List.set_cons_succ, Nat.reduceAdd]
  refine Steps.held ?_ ?_
  · intro L v w' hJ
    have X0 := Lib.hid (show R256 w' (v 6) (m) from hJ.out.fact 6 (by kernel_rfl))
    have X1 := Lib.hid (show R256 w' (v 8) (d) from hJ.out.fact 8 (by kernel_rfl))
    go_wp2_with fail
    with_reducible refine (HM2.out _ _ _ X0.out X1.out).mono ?_
    rintro e w1 ⟨u, rfl, hu, hb⟩
    go_wp2_with fail
    exact ⟨rfl, rfl, hJ.out.call (by rfl) hb (hu)⟩
  simp only [Act.put, List.setIfInBounds_toArray, List.set_cons_zero, List.set_cons_succ, Nat.reduceAdd]
  refine Steps.held ?_ ?_
  · intro L v w' hJ
    have X0 := Lib.hid (show R256 w' (v 4) (n * e) from hJ.out.fact 4 (by kernel_rfl))
    have X1 := Lib.hid (show R256 w' (v 9) (m * d) from hJ.out.fact 9 (by kernel_rfl))
    go_wp2_with fail
    with_reducible refine (HAD.out _ _ _ X0.out X1.out).mono ?_
    rintro e w1 ⟨u, rfl, hu, hb⟩
    go_wp2_with fail
    exact ⟨rfl, rfl, hJ.out.call (by rfl) hb (hu)⟩
  simp only [Act.put, List.setIfInBounds_toArray, List.set_cons_zero, List.set_cons_succ, Nat.reduceAdd]
  refine Steps.held ?_ ?_
  · intro L v w' hJ
    go_wp2_with fail
    exact ⟨rfl, rfl, hJ.out.same (by rfl) (rfl)⟩
  simp only [Act.put, List.setIfInBounds_toArray, List.set_cons_zero, List.set_cons_succ, Nat.reduceAdd]
  refine Steps.held ?_ ?_
  · intro L v w' hJ
    have hv11 : v 11 = .pointer (some ⟨w.heap.size, 1, none⟩) := hJ.out.fact 11 (by kernel_rfl)
    simp only [hv11]
    clear hv11
    have kb := hJ.out.blk E0.out (by simp [oldsOf, BS, Bx.nat, Bx.rat, Bx.ref] <;> omega)
    have k0 := kb.cell 0
    have k1 := kb.cell 1
    clear kb
    go_wp2_with fail
    exact ⟨rfl, rfl, hJ.out.same (by rfl) (Ha1.out.keep hJ.out.held.keep)⟩
  simp only [Act.put, List.setIfInBounds_toArray, List.set_cons_zero, List.set_cons_succ, Nat.reduceAdd]
  refine Steps.held ?_ ?_
  · intro L v w' hJ
    go_wp2_with fail
    exact ⟨rfl, rfl, hJ.out.same (by rfl) (rfl)⟩
  simp only [Act.put, List.setIfInBounds_toArray, List.set_cons_zero, List.set_cons_succ, Nat.reduceAdd]
  refine Steps.held ?_ ?_
  · intro L v w' hJ
    have hv13 : v 13 = .pointer (some ⟨w.heap.size + 1, 1, none⟩) := hJ.out.fact 13 (by kernel_rfl)
    simp only [hv13]
    clear hv13
    have kb := hJ.out.blk E1.out (by simp [oldsOf, BS, Bx.nat, Bx.rat, Bx.ref] <;> omega)
    have k0 := kb.cell 0
    have k1 := kb.cell 1
    clear kb
    go_wp2_with fail
    exact ⟨rfl, rfl, hJ.out.same (by rfl) (Hb1.out.keep hJ.out.held.keep)⟩
  simp only [Act.put, List.setIfInBounds_toArray, List.set_cons_zero, List.set_cons_succ, Nat.reduceAdd]
  refine Steps.held ?_ ?_
  · intro L v w' hJ
    have X0 := Lib.hid (show R256 w' (v 12) (d) from hJ.out.fact 12 (by kernel_rfl))
    have X1 := Lib.hid (show R256 w' (v 14) (e) from hJ.out.fact 14 (by kernel_rfl))
    go_wp2_with fail
    with_reducible refine (HM3.out _ _ _ X0.out X1.out).mono ?_
    rintro e w1 ⟨u, rfl, hu, hb⟩
    go_wp2_with fail
    exact ⟨rfl, rfl, hJ.out.call (by rfl) hb (hu)⟩
  simp only [Act.put, List.setIfInBounds_toArray, List.set_cons_zero, List.set_cons_succ, Nat.reduceAdd]
  refine Steps.held ?_ ?_
  · intro L v w' hJ
    have X0 := Lib.hid (show R256 w' (v 10) (n * e - m * d) from hJ.out.fact 10 (by kernel_rfl))
    have X1 := Lib.hid (show R256 w' (v 15) (d * e) from hJ.out.fact 15 (by kernel_rfl))
    go_wp2_with fail
    with_reducible refine (HMA.out _ _ _ X0.out X1.out).mono ?_
    rintro e w1 ⟨u, rfl, hu, hb⟩
    go_wp2_with fail
    exact ⟨rfl, rfl, hJ.out.call (by rfl) hb (hu)⟩
  simp only [Act.put, List.setIfInBounds_toArray, List.set_cons_zero, List.set_cons_succ, Nat.reduceAdd]
  refine Steps.held ?_ ?_
  · intro L v w' hJ
    obtain ⟨hown, hst⟩ := hJ.out.oldbox 0 _ rfl (w.heap.size + 1 + 1) rfl
    have hN : RF w' (v 16) (rn (n * e - m * d) (d * e)) (rd (n * e - m * d) (d * e)) := hJ.out.fact 16 (by kernel_rfl)
    obtain ⟨A1, p1, c1, B1, q1, e1, hv, h1, h2⟩ := hN
    have HN := Lib.hid (show RF w' (.agg #[.slice A1 p1 c1, .slice B1 q1 e1]) (rn (n * e - m * d) (d * e)) (rd (n * e - m * d) (d * e)) from ⟨A1, p1, c1, B1, q1, e1, rfl, h1, h2⟩)
    have kb := hJ.out.box 0 _ rfl rfl (w.heap.size + 1 + 1) hown
    have k0 : w'.cell? ⟨(w.heap.size + 1 + 1), 0, none⟩ = some ((.slice none 0 0)) := kb.cell 0
    have k1 : w'.cell? ⟨(w.heap.size + 1 + 1), 1, none⟩ = some ((.slice none 0 0)) := kb.cell 1
    have f0 := kb.frozen 0
    have f1 := kb.frozen 1
    have HO := Lib.hid hown
    have HS := Lib.hid hst
    clear kb h1 h2 hown hst
    simp only [hv]
    clear hv
    go_wp2_with fail
    exact ⟨rfl, rfl, hJ.out.fill2 0 _ rfl rfl (by rfl) (w.heap.size + 1 + 1) HO.out HS.out _ _ rfl rfl rfl (fun W k => HN.out.keep k) (fun _ => trivial)⟩
  simp only [Act.put, List.setIfInBounds_toArray, List.set_cons_zero, List.set_cons_succ, Nat.reduceAdd]
  refine Steps.nil ?_
  intro v w' hJ
  obtain ⟨cs, hblk, hf⟩ := hJ.end_old 0 _ rfl (w.heap.size + 1 + 1) rfl (Nat.le_of_ble_eq_true rfl)
  have hf' : RF w' (.agg cs) (rn (n * e - m * d) (d * e)) (rd (n * e - m * d) (d * e)) := hf
  obtain ⟨A1, p1, c1, B1, q1, e1, hcs, h1, h2⟩ := hf'
  have hcs' := Value.agg.inj hcs
  subst hcs'
  have k0 := hblk.cell 0
  have k1 := hblk.cell 1
  have hbw : Below w.heap.size w w' := hJ.but.to_below HB0.out HB0.out.size (by intro g hg; simp [oldsOf, BS, Bx.nat, Bx.rat, Bx.ref] at hg; subst hg; omega)
  have HX := Lib.hid (show MkR w (rn (n * e - m * d) (d * e)) (rd (n * e - m * d) (d * e)) (.returned (.agg #[.slice A1 p1 c1, .slice B1 q1 e1])) w' from ⟨_, rfl, ⟨A1, p1, c1, B1, q1, e1, rfl, h1, h2⟩, hbw⟩)
  clear hJ h1 h2 hbw hblk hcs hf
  go_wp2_with fail
  exact bodyPost_ret (v := .agg #[.slice A1 p1 c1, .slice B1 q1 e1]) (by simp [results, Try.results69, go_sem, k0, k1]) rfl HX.out
set_option maxRecDepth 100000 in
set_option maxHeartbeats 4000000 in
theorem xless_no (va vb : Value) (n d m e : Nat) (w : World) (ha : RF w va n d) (hb : RF w vb m e) (hn : wl 8 n ≤ 100000000) (hd : wl 8 d ≤ 100000000) (hm : wl 8 m ≤ 100000000) (he : wl 8 e ≤ 100000000) (hd0 : 0 < d) (he0 : 0 < e) (hle : n * e < m * d) : Calls Try.prog 69 #[va, vb] w (MkR w 0 1) := by
  have Ha := Lib.hid ha
  obtain ⟨Pa, pa, ca, Qa, qa, ea, rfl, _, _⟩ := ha
  have Hb := Lib.hid hb
  obtain ⟨Pb, pb, cb, Qb, qb, eb, rfl, _, _⟩ := hb
  have HCM := Lib.hid (fun va vb W h1 h2 => xcmp_any va vb n d m e W h1 h2 hn hd hm he)
  rw [cmpN_lt hle] at HCM
  have HIN : Hid (∀ W, Calls Try.prog 70 #[.int .i64 0] W (MkR W 0 1)) := Lib.hid (fun W => xint_any 0 0 (by decide) (by decide) W)
  clear hle
  clear hn hd hm he hd0 he0
  have e0 := ((Blk.new (w) 52 #[(.slice Pa pa ca), (.slice Qa qa ea)]).alloc (.cells #[(.slice Pb pb cb), (.slice Qb qb eb)] 52)).alloc (.cells #[(.slice none 0 0), (.slice none 0 0)] 52)
  have e1 := (Blk.new ((w).alloc (.cells #[(.slice Pa pa ca), (.slice Qa qa ea)] 52)) 52 #[(.slice Pb pb cb), (.slice Qb qb eb)]).alloc (.cells #[(.slice none 0 0), (.slice none 0 0)] 52)
  have e2 := Blk.new (((w).alloc (.cells #[(.slice Pa pa ca), (.slice Qa qa ea)] 52)).alloc (.cells #[(.slice Pb pb cb), (.slice Qb qb eb)] 52)) 52 #[(.slice none 0 0), (.slice none 0 0)]
  have hb := cba (cba (cba (Below.refl _ w) (.cells #[(.slice Pa pa ca), (.slice Qa qa ea)] 52)) (.cells #[(.slice Pb pb cb), (.slice Qb qb eb)] 52)) (.cells #[(.slice none 0 0), (.slice none 0 0)] 52)
  simp only [World.size_alloc] at e1 e2
  have hsz : w.heap.size ≤ w.heap.size := Nat.le_refl _
  go_enter Try.func69, Try.ntmps69
  go_upto_region 1 with (fail)
  obtain ⟨S, hS⟩ : ∃ S, (((w).alloc (.cells #[(.slice Pa pa ca), (.slice Qa qa ea)] 52)).alloc (.cells #[(.slice Pb pb cb), (.slice Qb qb eb)] 52)).alloc (.cells #[(.slice none 0 0), (.slice none 0 0)] 52) = S := ⟨_, rfl⟩
  rw [hS] at e0 e1 e2 hb ⊢
  replace Ha := Lib.hid (Ha.out.below hb)
  replace Hb := Lib.hid (Hb.out.below hb)
  have HB0 := Lib.hid hb
  have E0 := Lib.hid e0
  have E1 := Lib.hid e1
  have E2 := Lib.hid e2
  clear hS hb hsz e0 e1 e2
  have k_E0_0 := E0.out.cell 0
  have k_E0_1 := E0.out.cell 1
  have k_E1_0 := E1.out.cell 0
  have k_E1_1 := E1.out.cell 1
  have k_E2_0 := E2.out.cell 0
  have k_E2_1 := E2.out.cell 1
  go_wp2_with fail
  with_reducible refine (HCM.out _ _ _ Ha.out Hb.out).mono ?_
  rintro e w1 ⟨rfl, hb⟩
  clear k_E0_0 k_E0_1 k_E1_0 k_E1_1 k_E2_0 k_E2_1
  replace Ha := Lib.hid (Ha.out.below hb)
  replace Hb := Lib.hid (Hb.out.below hb)
  replace E0 := Lib.hid (blk_below E0.out hb)
  replace E1 := Lib.hid (blk_below E1.out hb)
  replace E2 := Lib.hid (blk_below E2.out hb)
  replace HB0 := Lib.hid (cbt HB0.out hb)
  clear hb
  have k_E0_0 := E0.out.cell 0
  have k_E0_1 := E0.out.cell 1
  have k_E1_0 := E1.out.cell 0
  have k_E1_1 := E1.out.cell 1
  have k_E2_0 := E2.out.cell 0
  have k_E2_1 := E2.out.cell 1
  go_wp2_with fail
  with_reducible refine (HIN.out _).mono ?_
  rintro e w2 ⟨u, rfl, hu, hb⟩
  clear k_E0_0 k_E0_1 k_E1_0 k_E1_1 k_E2_0 k_E2_1
  replace Ha := Lib.hid (Ha.out.below hb)
  replace Hb := Lib.hid (Hb.out.below hb)
  replace E0 := Lib.hid (blk_below E0.out hb)
  replace E1 := Lib.hid (blk_below E1.out hb)
  replace E2 := Lib.hid (blk_below E2.out hb)
  replace HB0 := Lib.hid (cbt HB0.out hb)
  have NR := Lib.hid hu
  clear hb hu
  have k_E0_0 := E0.out.cell 0
  have k_E0_1 := E0.out.cell 1
  have k_E1_0 := E1.out.cell 0
  have k_E1_1 := E1.out.cell 1
  have k_E2_0 := E2.out.cell 0
  have k_E2_1 := E2.out.cell 1
  have ZR := NR.out
  obtain ⟨A1, p1, c1, B1, q1, e1, rfl, _, _⟩ := ZR
  have f0 := E2.out.frozen 0
  have f1 := E2.out.frozen 1
  have HX := Lib.hid (show MkR w 0 1 (.returned (.agg #[.slice A1 p1 c1, .slice B1 q1 e1])) ((w2.setCell ⟨w.heap.size + 1 + 1, 0, none⟩ (.slice A1 p1 c1)).setCell ⟨w.heap.size + 1 + 1, 1, none⟩ (.slice B1 q1 e1)) from
    ⟨_, rfl, (NR.out.keep (Keep.set E2.out 0 rfl _)).keep (Keep.set (E2.out.set_ 0 _) 1 rfl _), (HB0.out.setCell (p := ⟨w.heap.size + 1 + 1, 0, none⟩) (by simp only []; omega) _).setCell (p := ⟨w.heap.size + 1 + 1, 1, none⟩) (by simp only []; omega) _⟩)
  go_wp2
  exact bodyPost_ret (v := .agg #[.slice A1 p1 c1, .slice B1 q1 e1]) (by simp [results, Try.results69, go_sem, k_E2_0, k_E2_1]) rfl HX.out
set_option maxRecDepth 100000 in
set_option maxHeartbeats 4000000 in
theorem isF_yes (va vb : Value) (n d : Nat) (w : World) (ha : F64 w va n d) (hb : RF w vb n d) (hn : wl 64 n ≤ 1099511627) (hn8 : wl 8 n ≤ 1000000000) (hd : wl 64 d ≤ 1099511627) (hd8 : wl 8 d ≤ 1000000000) : Calls Try.prog 67 #[va, vb] w fun x w' => x = .returned (.bool true) ∧ Below w.heap.size w w' := by
  have Ha := Lib.hid ha
  obtain ⟨Pa, pa, ca, Qa, qa, ea, xa, rfl, _, _, _⟩ := ha
  have Hb := Lib.hid hb
  obtain ⟨Pb, pb, cb, Qb, qb, eb, rfl, _, _⟩ := hb
  have HNU := Lib.hid num_any
  have HDE := Lib.hid den_any
  have HI1 := Lib.hid (fun va vb W h1 h2 => is_yes va vb n W h1 h2 hn hn8)
  have HI2 := Lib.hid (fun va vb W h1 h2 => is_yes va vb d W h1 h2 hd hd8)
  clear hn hn8 hd hd8
  have e0 := (Blk.new (w) 47 #[(.slice Pa pa ca), (.slice Qa qa ea)]).alloc (.cells #[(.slice Pb pb cb), (.slice Qb qb eb)] 52)
  have e1 := Blk.new ((w).alloc (.cells #[(.slice Pa pa ca), (.slice Qa qa ea)] 47)) 52 #[(.slice Pb pb cb), (.slice Qb qb eb)]
  have hb := cba (cba (Below.refl _ w) (.cells #[(.slice Pa pa ca), (.slice Qa qa ea)] 47)) (.cells #[(.slice Pb pb cb), (.slice Qb qb eb)] 52)
  simp only [World.size_alloc] at e1
  have hsz : w.heap.size ≤ w.heap.size := Nat.le_refl _
  go_enter Try.func67, Try.ntmps67
  go_upto_region 1 with (fail)
  obtain ⟨S, hS⟩ : ∃ S, ((w).alloc (.cells #[(.slice Pa pa ca), (.slice Qa qa ea)] 47)).alloc (.cells #[(.slice Pb pb cb), (.slice Qb qb eb)] 52) = S := ⟨_, rfl⟩
  rw [hS] at e0 e1 hb ⊢
  replace Ha := Lib.hid (Ha.out.below hb)
  replace Hb := Lib.hid (Hb.out.below hb)
  have HB0 := Lib.hid hb
  have E0 := Lib.hid e0
  have E1 := Lib.hid e1
  clear hS hb hsz e0 e1
  have Hb0 := Lib.hid (RF.fst Hb.out)
  have Hb1 := Lib.hid (RF.snd Hb.out)
  go_wp2_with fail
  let FS : List Kept1 := [.f (n) (d), .n (n), .eq (.pointer (some ⟨w.heap.size + 1, 0, none⟩)), .r (n), .eq (.bool true), .eq (.bool true), .f (n) (d), .n (d), .eq (.pointer (some ⟨w.heap.size + 1, 1, none⟩)), .r (d), .eq (.bool true), .eq (.bool true), .eq (.bool true)]
  refine region_mono (Held S (fun j => FS.getD j .any) []) (by kernel_rfl) (by kernel_rfl) (by kernel_rfl) (Held.start _ _ _ (by simp) (by simp)) ?_
  refine Steps.held ?_ ?_
  · intro L v w' hJ
    have kb := hJ.out.blk E0.out (by simp [oldsOf])
    have k0 := kb.cell 0
    have k1 := kb.cell 1
    clear kb
    go_wp2_with fail
    exact ⟨rfl, rfl, hJ.out.same (by rfl) (Ha.out.keep hJ.out.held.keep)⟩
  simp only [Act.put, List.setIfInBounds_toArray, List.set_cons_zero, List.set_cons_succ, Nat.reduceAdd]
  refine Steps.held ?_ ?_
  · intro L v w' hJ
    have X0 := Lib.hid (show F64 w' (v 0) (n) (d) from hJ.out.fact 0 (by kernel_rfl))
    go_wp2_with fail
    with_reducible refine (HNU.out _ _ _ _ X0.out).mono ?_
    rintro e w1 ⟨u, rfl, hu, hb⟩
    go_wp2_with fail
    exact ⟨rfl, rfl, hJ.out.call (by rfl) hb (hu)⟩
  simp only [Act.put, List.setIfInBounds_toArray, List.set_cons_zero, List.set_cons_succ, Nat.reduceAdd]
  refine Steps.held ?_ ?_
  · intro L v w' hJ
    go_wp2_with fail
    exact ⟨rfl, rfl, hJ.out.same (by rfl) (rfl)⟩
  simp only [Act.put, List.setIfInBounds_toArray, List.set_cons_zero, List.set_cons_succ, Nat.reduceAdd]
  refine Steps.held ?_ ?_
  · intro L v w' hJ
    have hv2 : v 2 = .pointer (some ⟨w.heap.size + 1, 0, none⟩) := hJ.out.fact 2 (by kernel_rfl)
    simp only [hv2]
    clear hv2
    have kb := hJ.out.blk E1.out (by simp [oldsOf])
    have k0 := kb.cell 0
    have k1 := kb.cell 1
    clear kb
    go_wp2_with fail
    exact ⟨rfl, rfl, hJ.out.same (by rfl) (Hb0.out.keep hJ.out.held.keep)⟩
  simp only [Act.put, List.setIfInBounds_toArray, List.set_cons_zero, List.set_cons_succ, Nat.reduceAdd]
  refine Steps.held ?_ ?_
  · intro L v w' hJ
    have X0 := Lib.hid (show N64 w' (v 1) (n) from hJ.out.fact 1 (by kernel_rfl))
    have X1 := Lib.hid (show R256 w' (v 3) (n) from hJ.out.fact 3 (by kernel_rfl))
    go_wp2_with fail
    with_reducible refine (HI1.out _ _ _ X0.out X1.out).mono ?_
    rintro e w1 ⟨rfl, hb⟩
    go_wp2_with fail
    exact ⟨rfl, rfl, hJ.out.call (by rfl) hb (rfl)⟩
  simp only [Act.put, List.setIfInBounds_toArray, List.set_cons_zero, List.set_cons_succ, Nat.reduceAdd]
  refine Steps.held ?_ ?_
  · intro L v w' hJ
    have hv4 : v 4 = .bool true := hJ.out.fact 4 (by kernel_rfl)
    simp only [hv4]
    clear hv4
    go_wp2_with fail
    exact ⟨rfl, rfl, hJ.out.same (by rfl) (rfl)⟩
  simp only [Act.put, List.setIfInBounds_toArray, List.set_cons_zero, List.set_cons_succ, Nat.reduceAdd]
  refine Steps.held ?_ ?_
  · intro L v w' hJ
    have hv5 : v 5 = .bool true := hJ.out.fact 5 (by kernel_rfl)
    simp only [hv5]
    clear hv5
    have kb := hJ.out.blk E0.out (by simp [oldsOf])
    have k0 := kb.cell 0
    have k1 := kb.cell 1
    clear kb
    go_wp2_with fail
    exact ⟨rfl, rfl, hJ.out.same (by rfl) (Ha.out.keep hJ.out.held.keep)⟩
  simp only [Act.put, List.setIfInBounds_toArray, List.set_cons_zero, List.set_cons_succ, Nat.reduceAdd]
  refine Steps.held ?_ ?_
  · intro L v w' hJ
    have hv5 : v 5 = .bool true := hJ.out.fact 5 (by kernel_rfl)
    simp only [hv5]
    clear hv5
    have X0 := Lib.hid (show F64 w' (v 6) (n) (d) from hJ.out.fact 6 (by kernel_rfl))
    go_wp2_with fail
    with_reducible refine (HDE.out _ _ _ _ X0.out).mono ?_
    rintro e w1 ⟨u, rfl, hu, hb⟩
    go_wp2_with fail
    exact ⟨rfl, rfl, hJ.out.call (by rfl) hb (hu)⟩
  simp only [Act.put, List.setIfInBounds_toArray, List.set_cons_zero, List.set_cons_succ, Nat.reduceAdd]
  refine Steps.held ?_ ?_
  · intro L v w' hJ
    have hv5 : v 5 = .bool true := hJ.out.fact 5 (by kernel_rfl)
    simp only [hv5]
    clear hv5
    go_wp2_with fail
    exact ⟨rfl, rfl, hJ.out.same (by rfl) (rfl)⟩
  simp only [Act.put, List.setIfInBounds_toArray, List.set_cons_zero, List.set_cons_succ, Nat.reduceAdd]
  refine Steps.held ?_ ?_
  · intro L v w' hJ
    have hv8 : v 8 = .pointer (some ⟨w.heap.size + 1, 1, none⟩) := hJ.out.fact 8 (by kernel_rfl)
    simp only [hv8]
    clear hv8
    have hv5 : v 5 = .bool true := hJ.out.fact 5 (by kernel_rfl)
    simp only [hv5]
    clear hv5
    have kb := hJ.out.blk E1.out (by simp [oldsOf])
    have k0 := kb.cell 0
    have k1 := kb.cell 1
    clear kb
    go_wp2_with fail
    exact ⟨rfl, rfl, hJ.out.same (by rfl) (Hb1.out.keep hJ.out.held.keep)⟩
  simp only [Act.put, List.setIfInBounds_toArray, List.set_cons_zero, List.set_cons_succ, Nat.reduceAdd]
  refine Steps.held ?_ ?_
  · intro L v w' hJ
    have hv5 : v 5 = .bool true := hJ.out.fact 5 (by kernel_rfl)
    simp only [hv5]
    clear hv5
    have X0 := Lib.hid (show N64 w' (v 7) (d) from hJ.out.fact 7 (by kernel_rfl))
    have X1 := Lib.hid (show R256 w' (v 9) (d) from hJ.out.fact 9 (by kernel_rfl))
    go_wp2_with fail
    with_reducible refine (HI2.out _ _ _ X0.out X1.out).mono ?_
    rintro e w1 ⟨rfl, hb⟩
    go_wp2_with fail
    exact ⟨rfl, rfl, hJ.out.call (by rfl) hb (rfl)⟩
  simp only [Act.put, List.setIfInBounds_toArray, List.set_cons_zero, List.set_cons_succ, Nat.reduceAdd]
  refine Steps.held ?_ ?_
  · intro L v w' hJ
    have hv5 : v 5 = .bool true := hJ.out.fact 5 (by kernel_rfl)
    simp only [hv5]
    clear hv5
    have hv10 : v 10 = .bool true := hJ.out.fact 10 (by kernel_rfl)
    simp only [hv10]
    clear hv10
    go_wp2_with fail
    exact ⟨rfl, rfl, hJ.out.same (by rfl) (rfl)⟩
  simp only [Act.put, List.setIfInBounds_toArray, List.set_cons_zero, List.set_cons_succ, Nat.reduceAdd]
  refine Steps.held ?_ ?_
  · intro L v w' hJ
    have hv11 : v 11 = .bool true := hJ.out.fact 11 (by kernel_rfl)
    simp only [hv11]
    clear hv11
    go_wp2_with fail
    exact ⟨rfl, rfl, hJ.out.same (by rfl) (rfl)⟩
  simp only [Act.put, List.setIfInBounds_toArray, List.set_cons_zero, List.set_cons_succ, Nat.reduceAdd]
  refine Steps.nil ?_
  intro v w' hJ
  have h12 : v 12 = .bool true := hJ.end_fact 12 (by decide)
  have HF := Lib.hid (cbt HB0.out hJ.but.below)
  clear hJ
  simp only [h12]
  clear h12
  go_wp2_with fail
  go_ret
  exact ⟨rfl, HF.out⟩
end Go.Proofs.Yteikhnmmkanndaa
namespace Go.Proofs.Yteikhnmmkanndaa
open Go.RowKit Go.Proofs.YteikhnmmkanndaaW.PrintWords
set_option linter.unusedSimpArgs false
set_option linter.unusedVariables false
def addR (a b : Nat × Nat) : Nat × Nat := (rn (a.1 * b.2 + b.1 * a.2) (a.2 * b.2), rd (a.1 * b.2 + b.1 * a.2) (a.2 * b.2))
def sumR (f : Nat → Nat × Nat) : Nat → Nat × Nat
  | 0 => (0, 1)
  | k + 1 => addR (sumR f k) (f k)
theorem wl_one64 : wl 64 1 = 1 := by decide +kernel
theorem sumR_pos {f : Nat → Nat × Nat} {K : Nat} (hf : ∀ i, i < K → 0 < (f i).2) : ∀ k, k ≤ K → 0 < (sumR f k).2
  | 0, _ => Nat.one_pos
  | k + 1, h => rd_pos (Nat.mul_pos (sumR_pos hf k (by omega)) (hf k (by omega)))
theorem sumR_wl {f : Nat → Nat × Nat} {K B : Nat} (hf : ∀ i, i < K → wl 64 (f i).1 ≤ B ∧ wl 64 (f i).2 ≤ B) : ∀ k, k ≤ K → wl 64 (sumR f k).1 ≤ 1 + k * (B + 1) ∧ wl 64 (sumR f k).2 ≤ 1 + k * (B + 1)
  | 0, _ => ⟨by show wl 64 0 ≤ _; rw [wl_zero (by decide)]; omega, by show wl 64 1 ≤ _; rw [wl_one64]; omega⟩
  | k + 1, h => by
    obtain ⟨h1, h2⟩ := sumR_wl hf k (by omega)
    obtain ⟨g1, g2⟩ := hf k (by omega)
    have a := wl_mul_le (k := 64) (by decide) h1 g2
    have b := wl_mul_le (k := 64) (by decide) g1 h2
    have c := wl_mul_le (k := 64) (by decide) h2 g2
    have s := wl_add_le (k := 64) (x := (sumR f k).1 * (f k).2) (y := (f k).1 * (sumR f k).2) (a := 1 + k * (B + 1) + B) (by decide) a (by omega)
    rw [Nat.succ_mul]
    exact ⟨Nat.le_trans (wl_rn (by decide) s) (by omega), Nat.le_trans (wl_rd (by decide) c) (by omega)⟩
def Rats (w : World) (A : Option Addr) (K : Nat) (f : Nat → Nat × Nat) : Prop :=
  ∀ i, i < K → ∃ b o P p c Q q e, A = some ⟨b, o, none⟩ ∧ b < w.heap.size ∧ w.cell? ⟨b, o + i * 2, none⟩ = some (.slice P p c) ∧ w.cell? ⟨b, o + i * 2 + 1, none⟩ = some (.slice Q q e) ∧ F64 w (.agg #[.slice P p c, .slice Q q e]) (f i).1 (f i).2
theorem Rats.below {w w' : World} {A : Option Addr} {K : Nat} {f : Nat → Nat × Nat} (h : Rats w A K f) (hb : Below w.heap.size w w') : Rats w' A K f := by
  intro i hi
  obtain ⟨b, o, P, p, c, Q, q, e, hA, hlt, h1, h2, h3⟩ := h i hi
  exact ⟨b, o, P, p, c, Q, q, e, hA, Nat.lt_of_lt_of_le hlt hb.size, (hb.cell (p := ⟨b, o + i * 2, none⟩) hlt).trans h1, (hb.cell (p := ⟨b, o + i * 2 + 1, none⟩) hlt).trans h2, h3.below hb⟩
def RowF (w : World) (v : Value) (K : Nat) (f : Nat → Nat × Nat) : Prop :=
  2 ≤ K ∧ ∃ g cs, v = .slice (some ⟨g, 0, none⟩) K K ∧ Blk w g 47 cs ∧ 2 * K ≤ cs.size ∧ ∀ i, i < K → ∃ P p c Q q e, cs[i * 2]? = some (.slice P p c) ∧ cs[i * 2 + 1]? = some (.slice Q q e) ∧ F64 w (.agg #[.slice P p c, .slice Q q e]) (f i).1 (f i).2
theorem RowF.keep {w w' : World} {v : Value} {K : Nat} {f : Nat → Nat × Nat} (h : RowF w v K f) (k : Keep w w') : RowF w' v K f := by
  obtain ⟨h2, g, cs, hv, hb, hs, hf⟩ := h
  refine ⟨h2, g, cs, hv, k.rats g cs hb (by omega), hs, fun i hi => ?_⟩
  obtain ⟨P, p, c, Q, q, e, h1, h2, h3⟩ := hf i hi
  exact ⟨P, p, c, Q, q, e, h1, h2, h3.keep k⟩
def Kept1.rats (K : Nat) (f : Nat → Nat × Nat) : Kept1 := ⟨fun v w => RowF w v K f, fun h k => h.keep k⟩
theorem RowF.rats {w : World} {v : Value} {K : Nat} {f : Nat → Nat × Nat} (h : RowF w v K f) : ∃ g, v = .slice (some ⟨g, 0, none⟩) K K ∧ Rats w (some ⟨g, 0, none⟩) K f := by
  obtain ⟨h2, g, cs, hv, hb, hs, hf⟩ := h
  refine ⟨g, hv, fun i hi => ?_⟩
  obtain ⟨P, p, c, Q, q, e, h1, h2, h3⟩ := hf i hi
  refine ⟨g, 0, P, p, c, Q, q, e, rfl, hb.lt, ?_, ?_, h3⟩
  · rw [hb.cell, Nat.zero_add]; exact h1
  · rw [hb.cell, Nat.zero_add]; exact h2
def ofL (l : List (Nat × Nat)) : Nat → Nat × Nat := fun i => l.getD i (0, 1)
theorem RowF.three {w : World} {g : Nat} {P Q P' Q' P2 Q2 : Option Addr} {p c q e p' c' q' e' p2 c2 q2 e2 n d m f r s : Nat} (h : Blk w g 47 #[.slice P p c, .slice Q q e, .slice P' p' c', .slice Q' q' e', .slice P2 p2 c2, .slice Q2 q2 e2])
    (h1 : F64 w (.agg #[.slice P p c, .slice Q q e]) n d) (h2 : F64 w (.agg #[.slice P' p' c', .slice Q' q' e']) m f) (h3 : F64 w (.agg #[.slice P2 p2 c2, .slice Q2 q2 e2]) r s) : RowF w (.slice (some ⟨g, 0, none⟩) 3 3) 3 (ofL [(n, d), (m, f), (r, s)]) := by
  refine ⟨by decide, g, _, rfl, h, Nat.le_of_ble_eq_true rfl, fun i hi => ?_⟩
  match i, hi with
  | 0, _ => exact ⟨_, _, _, _, _, _, rfl, rfl, h1⟩
  | 1, _ => exact ⟨_, _, _, _, _, _, rfl, rfl, h2⟩
  | 2, _ => exact ⟨_, _, _, _, _, _, rfl, rfl, h3⟩
set_option maxRecDepth 100000 in
set_option maxHeartbeats 4000000 in
theorem raddF_any (A : Option Addr) (K c : Nat) (f : Nat → Nat × Nat) (B : Nat) (w : World) (hc : K ≤ c) (hK : K ≤ 100) (hB : B ≤ 100000) (h : Rats w A K f) (hp : ∀ i, i < K → 0 < (f i).2) (hf : ∀ i, i < K → wl 64 (f i).1 ≤ B ∧ wl 64 (f i).2 ≤ B) :
    Calls Try.prog 66 #[.slice A K c] w (MkF w (sumR f K).1 (sumR f K).2) := by
  have HRW := Lib.hid h
  have HIN : Hid (∀ W, Calls Try.prog 74 #[.int .u64 0] W (MkF W 0 1)) := Lib.hid (fun W => rint_any 0 (by decide) W)
  have HP := Lib.hid hp
  have HF := Lib.hid hf
  have HNU := Lib.hid num_any
  have HDE := Lib.hid den_any
  have HBB := Lib.hid hB
  have HKK := Lib.hid hK
  clear h hp hf hB
  have e0 := Blk.new (w) 47 #[(.slice none 0 0), (.slice none 0 0)]
  have hb := cba (Below.refl _ w) (.cells #[(.slice none 0 0), (.slice none 0 0)] 47)
  have hsz : w.heap.size ≤ w.heap.size := Nat.le_refl _
  go_enter Try.func66, Try.ntmps66
  go_upto_region 1 with (fail)
  obtain ⟨S, hS⟩ : ∃ S, (w).alloc (.cells #[(.slice none 0 0), (.slice none 0 0)] 47) = S := ⟨_, rfl⟩
  rw [hS] at e0 hb ⊢
  have HB0 := Lib.hid hb
  have E0 := Lib.hid e0
  clear hS hb hsz e0
  have k_E0_0 := E0.out.cell 0
  have k_E0_1 := E0.out.cell 1
  go_wp2_with fail
  with_reducible refine (HIN.out _).mono ?_
  rintro e w1 ⟨u, rfl, hu, hb⟩
  clear k_E0_0 k_E0_1
  replace E0 := Lib.hid (blk_below E0.out hb)
  replace HB0 := Lib.hid (cbt HB0.out hb)
  have NI := Lib.hid hu
  clear hb hu
  have k_E0_0 := E0.out.cell 0
  have k_E0_1 := E0.out.cell 1
  have ZI := NI.out
  obtain ⟨P3, p3, c3, Q3, q3, e3, x3, rfl, _, _, _⟩ := ZI
  have e1 := Blk.new w1 47 #[.slice P3 p3 c3, .slice Q3 q3 e3]
  have hb := cba (Below.refl _ w1) (.cells #[.slice P3 p3 c3, .slice Q3 q3 e3] 47)
  go_upto_region 2 with (fail)
  have hg3 : w.heap.size < w1.heap.size := E0.out.lt
  obtain ⟨T, hT⟩ : ∃ T, w1.alloc (.cells #[.slice P3 p3 c3, .slice Q3 q3 e3] 47) = T := ⟨_, rfl⟩
  rw [hT] at e1 hb ⊢
  obtain ⟨g3, hg⟩ : ∃ g, w1.heap.size = g := ⟨_, rfl⟩
  rw [hg] at e1 hg3
  simp only [hg]
  replace E0 := Lib.hid (blk_below E0.out hb)
  replace HB0 := Lib.hid (cbt HB0.out hb)
  have BO := Lib.hid (show BoxF T g3 (sumR f 0).1 (sumR f 0).2 from ⟨_, _, _, _, _, _, e1, NI.out.below hb⟩)
  clear hT hg hb e1 NI k_E0_0 k_E0_1 hK
  go_wp2_with fail
  go_loopw [10] (fun v10 wr => ∃ k : Nat, k ≤ K ∧ v10 = .int .i64 k ∧ Hid (BoxF wr g3 (sumR f k).1 (sumR f k).2) ∧ Hid (Blk wr w.heap.size 47 #[.slice none 0 0, .slice none 0 0]) ∧ Hid (Below w.heap.size w wr)) (fun v10 _ => K - (intOf v10).toNat)
  case atStart => exact ⟨0, Nat.zero_le _, rfl, BO, E0, HB0⟩
  case round =>
    obtain ⟨k, hk, rfl, hBO, hE, hBW⟩ := hrel
    by_cases hlt : k < K
    · obtain ⟨bb, oo, P5, p5, c5, Q5, q5, e5, hA, hltb, k50, k51, hF5⟩ := (HRW.out.below hBW.out) k hlt
      subst hA
      obtain ⟨P3', p3', c3', Q3', q3', e3', hb3, hF3⟩ := hBO.out
      have N5 := Lib.hid hF5
      have N3 := Lib.hid hF3
      have E3 := Lib.hid hb3
      clear hF5 hF3 hb3
      have hpk := sumR_pos HP.out k hk
      obtain ⟨hw1, hw2⟩ := sumR_wl HF.out k hk
      obtain ⟨hw3, hw4⟩ := HF.out k hlt
      have hp4 := HP.out k hlt
      have hT : k * (B + 1) ≤ 100 * 100001 := Nat.mul_le_mul (by have := HKK.out; omega) (by have := HBB.out; omega)
      have hT2 := HBB.out
      have HS1 : Hid ((sumR f (k + 1)).1 = rn ((sumR f k).1 * (f k).2 + (f k).1 * (sumR f k).2) ((sumR f k).2 * (f k).2)) := Lib.hid rfl
      have HS2 : Hid ((sumR f (k + 1)).2 = rd ((sumR f k).1 * (f k).2 + (f k).1 * (sumR f k).2) ((sumR f k).2 * (f k).2)) := Lib.hid rfl
      obtain ⟨n, hn⟩ : ∃ n, (sumR f k).1 = n := ⟨_, rfl⟩
      obtain ⟨d, hd⟩ : ∃ n, (sumR f k).2 = n := ⟨_, rfl⟩
      obtain ⟨m, hm⟩ : ∃ n, (f k).1 = n := ⟨_, rfl⟩
      obtain ⟨e, he⟩ : ∃ n, (f k).2 = n := ⟨_, rfl⟩
      rw [hn, hm, hd, he] at HS1 HS2
      rw [hn, hd] at N3
      rw [hm, he] at N5
      rw [hn] at hw1
      rw [hd] at hw2 hpk
      rw [hm] at hw3
      rw [he] at hw4 hp4
      clear hn hd hm he
      have hm1 := wl_mul_le (k := 64) (x := n) (y := e) (a := 10000101) (b := 100000) (by decide) (by omega) (by omega)
      have HM1 := Lib.hid (fun va vb W h1 h2 => nmul_any va vb n e W h1 h2 (by omega) (by omega))
      have hm2 := wl_mul_le (k := 64) (x := m) (y := d) (a := 100000) (b := 10000101) (by decide) (by omega) (by omega)
      have HM2 := Lib.hid (fun va vb W h1 h2 => nmul_any va vb m d W h1 h2 (by omega) (by omega))
      have hm3 := wl_mul_le (k := 64) (x := d) (y := e) (a := 10000101) (b := 100000) (by decide) (by omega) (by omega)
      have HM3 := Lib.hid (fun va vb W h1 h2 => nmul_any va vb d e W h1 h2 (by omega) (by omega))
      have hsm := wl_add_le (k := 64) (x := n * e) (y := m * d) (a := 20000000) (by decide) (by omega) (by omega)
      have HAD := Lib.hid (fun va vb W h1 h2 => nadd_any va vb (n * e) (m * d) W h1 h2 (by omega) (by omega))
      have HMA := Lib.hid (fun va vb W h1 h2 => rmade_any va vb (n * e + m * d) (d * e) W h1 h2 (by omega) (by omega) (Nat.mul_pos hpk hp4))
      clear hm1 hm2 hm3 hsm hw1 hw2 hw3 hw4 hT hT2 hpk hp4
      have dlt : decide ((k : Int) < (K : Int)) = true := decide_eq_true (by omega)
      have HLT := Lib.hid hlt
      go_upto_region 5 with (fail)
      have e5' := Blk.new wr 47 #[.slice P5 p5 c5, .slice Q5 q5 e5]
      have hb5 := cba (Below.refl _ wr) (.cells #[.slice P5 p5 c5, .slice Q5 q5 e5] 47)
      have hg35 : g3 < wr.heap.size := E3.out.lt
      have hg05 : w.heap.size < wr.heap.size := hE.out.lt
      obtain ⟨X, hX⟩ : ∃ X, wr.alloc (.cells #[.slice P5 p5 c5, .slice Q5 q5 e5] 47) = X := ⟨_, rfl⟩
      rw [hX] at e5' hb5 ⊢
      obtain ⟨g5, hg5⟩ : ∃ g, wr.heap.size = g := ⟨_, rfl⟩
      rw [hg5] at e5' hg35 hg05
      simp only [hg5]
      replace N5 := Lib.hid (N5.out.below hb5)
      replace N3 := Lib.hid (N3.out.below hb5)
      replace E3 := Lib.hid (blk_below E3.out hb5)
      replace hE := Lib.hid (blk_below hE.out hb5)
      replace hBW := Lib.hid (cbt hBW.out hb5)
      have E5 := Lib.hid e5'
      have hX3 := E3.out.lt
      clear hX hg5 e5' hb5 k50 k51 hltb hBO dlt hlt
      let FS : List Kept1 := [.f (n) (d), .n (n), .f (m) (e), .n (e), .n (n * e), .f (m) (e), .n (m), .f (n) (d), .n (d), .n (m * d), .n (n * e + m * d), .any, .any]
      let BS : List Bx := [Bx.nat (.inl 11) 12 #[.slice none 0 0] (n * e + m * d)]
      refine region_mono (Held X (fun j => FS.getD j .any) BS) (by kernel_rfl) (by kernel_rfl) (by kernel_rfl) (Held.start _ _ _ (by simp [BS, Bx.nat, Bx.rat, Bx.ref]) (by simp [BS, Bx.nat, Bx.rat, Bx.ref])) ?_
      refine Steps.held ?_ ?_
      · intro L v w' hJ
        have kb := hJ.out.blk E3.out (by simp [oldsOf, BS, Bx.nat, Bx.rat, Bx.ref])
        have k0 := kb.cell 0
        have k1 := kb.cell 1
        clear kb
        go_wp2_with fail
        exact ⟨rfl, rfl, hJ.out.same (by rfl) (N3.out.keep hJ.out.held.keep)⟩
      simp only [Act.put, List.setIfInBounds_toArray, List.set_cons_zero, List.set_cons_succ, Nat.reduceAdd]
      refine Steps.held ?_ ?_
      · intro L v w' hJ
        have X0 := Lib.hid (show F64 w' (v 0) (n) (d) from hJ.out.fact 0 (by kernel_rfl))
        go_wp2_with fail
        with_reducible refine (HNU.out _ _ _ _ X0.out).mono ?_
        rintro e w1 ⟨u, rfl, hu, hb⟩
        go_wp2_with fail
        exact ⟨rfl, rfl, hJ.out.call (by rfl) hb (hu)⟩
      simp only [Act.put, List.setIfInBounds_toArray, List.set_cons_zero, List.set_cons_succ, Nat.reduceAdd]
      refine Steps.held ?_ ?_
      · intro L v w' hJ
        have kb := hJ.out.blk E5.out (by simp [oldsOf, BS, Bx.nat, Bx.rat, Bx.ref])
        have k0 := kb.cell 0
        have k1 := kb.cell 1
        clear kb
        go_wp2_with fail
        exact ⟨rfl, rfl, hJ.out.same (by rfl) (N5.out.keep hJ.out.held.keep)⟩
      simp only [Act.put, List.setIfInBounds_toArray, List.set_cons_zero, List.set_cons_succ, Nat.reduceAdd]
      refine Steps.held ?_ ?_
      · intro L v w' hJ
        have X0 := Lib.hid (show F64 w' (v 2) (m) (e) from hJ.out.fact 2 (by kernel_rfl))
        go_wp2_with fail
        with_reducible refine (HDE.out _ _ _ _ X0.out).mono ?_
        rintro e w1 ⟨u, rfl, hu, hb⟩
        go_wp2_with fail
        exact ⟨rfl, rfl, hJ.out.call (by rfl) hb (hu)⟩
      simp only [Act.put, List.setIfInBounds_toArray, List.set_cons_zero, List.set_cons_succ, Nat.reduceAdd]
      refine Steps.held ?_ ?_
      · intro L v w' hJ
        have X0 := Lib.hid (show N64 w' (v 1) (n) from hJ.out.fact 1 (by kernel_rfl))
        have X1 := Lib.hid (show N64 w' (v 3) (e) from hJ.out.fact 3 (by kernel_rfl))
        go_wp2_with fail
        with_reducible refine (HM1.out _ _ _ X0.out X1.out).mono ?_
        rintro e w1 ⟨u, rfl, hu, hb⟩
        go_wp2_with fail
        exact ⟨rfl, rfl, hJ.out.call (by rfl) hb (hu)⟩
      simp only [Act.put, List.setIfInBounds_toArray, List.set_cons_zero, List.set_cons_succ, Nat.reduceAdd]
      refine Steps.held ?_ ?_
      · intro L v w' hJ
        have kb := hJ.out.blk E5.out (by simp [oldsOf, BS, Bx.nat, Bx.rat, Bx.ref])
        have k0 := kb.cell 0
        have k1 := kb.cell 1
        clear kb
        go_wp2_with fail
        exact ⟨rfl, rfl, hJ.out.same (by rfl) (N5.out.keep hJ.out.held.keep)⟩
      simp only [Act.put, List.setIfInBounds_toArray, List.set_cons_zero, List.set_cons_succ, Nat.reduceAdd]
      refine Steps.held ?_ ?_
      · intro L v w' hJ
        have X0 := Lib.hid (show F64 w' (v 5) (m) (e) from hJ.out.fact 5 (by kernel_rfl))
        go_wp2_with fail
        with_reducible refine (HNU.out _ _ _ _ X0.out).mono ?_
        rintro e w1 ⟨u, rfl, hu, hb⟩
        go_wp2_with fail
        exact ⟨rfl, rfl, hJ.out.call (by rfl) hb (hu)⟩
      simp only [Act.put, List.setIfInBounds_toArray, List.set_cons_zero, List.set_cons_succ, Nat.reduceAdd]
      refine Steps.held ?_ ?_
      · intro L v w' hJ
        have kb := hJ.out.blk E3.out (by simp [oldsOf, BS, Bx.nat, Bx.rat, Bx.ref])
        have k0 := kb.cell 0
        have k1 := kb.cell 1
        clear kb
        go_wp2_with fail
        exact ⟨rfl, rfl, hJ.out.same (by rfl) (N3.out.keep hJ.out.held.keep)⟩
      simp only [Act.put, List.setIfInBounds_toArray, List.set_cons_zero, List.set_cons_succ, Nat.reduceAdd]
      refine Steps.held ?_ ?_
      · intro L v w' hJ
        have X0 := Lib.hid (show F64 w' (v 7) (n) (d) from hJ.out.fact 7 (by kernel_rfl))
        go_wp2_with fail
        with_reducible refine (HDE.out _ _ _ _ X0.out).mono ?_
        rintro e w1 ⟨u, rfl, hu, hb⟩
        go_wp2_with fail
        exact ⟨rfl, rfl, hJ.out.call (by rfl) hb (hu)⟩
      simp only [Act.put, List.setIfInBounds_toArray, List.set_cons_zero, List.set_cons_succ, Nat.reduceAdd]
      refine Steps.held ?_ ?_
      · intro L v w' hJ
        have X0 := Lib.hid (show N64 w' (v 6) (m) from hJ.out.fact 6 (by kernel_rfl))
        have X1 := Lib.hid (show N64 w' (v 8) (d) from hJ.out.fact 8 (by kernel_rfl))
        go_wp2_with fail
        with_reducible refine (HM2.out _ _ _ X0.out X1.out).mono ?_
        rintro e w1 ⟨u, rfl, hu, hb⟩
        go_wp2_with fail
        exact ⟨rfl, rfl, hJ.out.call (by rfl) hb (hu)⟩
      simp only [Act.put, List.setIfInBounds_toArray, List.set_cons_zero, List.set_cons_succ, Nat.reduceAdd]
      refine Steps.held ?_ ?_
      · intro L v w' hJ
        have X0 := Lib.hid (show N64 w' (v 4) (n * e) from hJ.out.fact 4 (by kernel_rfl))
        have X1 := Lib.hid (show N64 w' (v 9) (m * d) from hJ.out.fact 9 (by kernel_rfl))
        go_wp2_with fail
        with_reducible refine (HAD.out _ _ _ X0.out X1.out).mono ?_
        rintro e w1 ⟨u, rfl, hu, hb⟩
        go_wp2_with fail
        exact ⟨rfl, rfl, hJ.out.call (by rfl) hb (hu)⟩
      simp only [Act.put, List.setIfInBounds_toArray, List.set_cons_zero, List.set_cons_succ, Nat.reduceAdd]
      refine Steps.held ?_ ?_
      · intro L v w' hJ
        go_wp2_with fail
        exact ⟨rfl, rfl, hJ.out.made 0 _ rfl rfl (by rfl) trivial⟩
      simp only [Act.put, List.setIfInBounds_toArray, List.set_cons_zero, List.set_cons_succ, Nat.reduceAdd]
      refine Steps.held ?_ ?_
      · intro L v w' hJ
        obtain ⟨g, hg, hge, hown, hst⟩ := hJ.out.newbox 0 _ rfl 11 rfl (by kernel_rfl)
        have hN : N64 w' (v 10) (n * e + m * d) := hJ.out.fact 10 (by kernel_rfl)
        obtain ⟨P, c, hv, h1, h2, h3⟩ := hN
        have HN := Lib.hid (show N64 w' (.agg #[.slice P (wl 64 (n * e + m * d)) c]) (n * e + m * d) from ⟨P, c, rfl, h1, h2, h3⟩)
        have kb := hJ.out.box 0 _ rfl rfl g hown
        have k0 : w'.cell? ⟨g, 0, none⟩ = some (.slice none 0 0) := kb.cell 0
        have f0 := kb.frozen 0
        have HO := Lib.hid hown
        have HS := Lib.hid hst
        clear kb h1 h2 h3 hown hst
        simp only [hg, hv]
        clear hg hv
        go_wp2_with fail
        exact ⟨rfl, rfl, hJ.out.fill1 0 _ rfl rfl (by rfl) g HO.out HS.out _ rfl rfl (fun W k => ⟨P, c, rfl, HN.out.keep k⟩) (fun _ => trivial)⟩
      simp only [Act.put, List.setIfInBounds_toArray, List.set_cons_zero, List.set_cons_succ, Nat.reduceAdd]
      refine Steps.nil ?_
      intro v w' hJ
      obtain ⟨g6, cs11, hv11, hge11, hb11, A11, c11, rfl, hn11⟩ := hJ.end_new 0 _ rfl 11 rfl (by decide) (Nat.le_of_ble_eq_true rfl)
      simp only [hv11]
      have E6 := Lib.hid (show Blk _ _ 26 _ from hb11)
      have NE6 := Lib.hid hn11
      clear hv11 hb11 hn11
      have hbr := hJ.but.below
      replace N5 := Lib.hid (N5.out.below hbr)
      replace N3 := Lib.hid (N3.out.below hbr)
      replace E3 := Lib.hid (blk_below E3.out hbr)
      replace E5 := Lib.hid (blk_below E5.out hbr)
      replace hE := Lib.hid (blk_below hE.out hbr)
      replace hBW := Lib.hid (cbt hBW.out hbr)
      have hg36 : g3 < g6 := by omega
      clear hJ hbr
      go_wp2_with fail
      let FS : List Kept1 := [.n (n * e + m * d), .f (n) (d), .n (d), .f (m) (e), .n (e), .n (d * e), .f (rn (n * e + m * d) (d * e)) (rd (n * e + m * d) (d * e)), .any]
      let BS : List Bx := [Bx.rat (.inr (g3)) 7 #[(.slice P3' p3' c3'), (.slice Q3' q3' e3')] (rn (n * e + m * d) (d * e)) (rd (n * e + m * d) (d * e))]
      refine region_mono (Held w' (fun j => FS.getD j .any) BS) (by kernel_rfl) (by kernel_rfl) (by kernel_rfl) (Held.start _ _ _ (by simp [BS, Bx.nat, Bx.rat, Bx.ref] <;> exact E3.out) (by simp [BS, Bx.nat, Bx.rat, Bx.ref])) ?_
      refine Steps.held ?_ ?_
      · intro L v w' hJ
        have kb := hJ.out.blk E6.out (by simp [oldsOf, BS, Bx.nat, Bx.rat, Bx.ref] <;> omega)
        have k0 := kb.cell 0
        clear kb
        go_wp2_with fail
        exact ⟨rfl, rfl, hJ.out.same (by rfl) (NE6.out.keep hJ.out.held.keep)⟩
      simp only [Act.put, List.setIfInBounds_toArray, List.set_cons_zero, List.set_cons_succ, Nat.reduceAdd]
      refine Steps.held ?_ ?_
      · intro L v w' hJ
        have kb := hJ.out.yet 0 _ rfl (g3) rfl (by kernel_rfl)
        have k0 : w'.cell? ⟨g3, 0, none⟩ = some (.slice P3' p3' c3') := kb.cell 0
        have k1 : w'.cell? ⟨g3, 1, none⟩ = some (.slice Q3' q3' e3') := kb.cell 1
        clear kb
        go_wp2_with fail
        exact ⟨rfl, rfl, hJ.out.same (by rfl) (N3.out.keep hJ.out.held.keep)⟩
      simp only [Act.put, List.setIfInBounds_toArray, List.set_cons_zero, List.set_cons_succ, Nat.reduceAdd]
      refine Steps.held ?_ ?_
      · intro L v w' hJ
        have X0 := Lib.hid (show F64 w' (v 1) (n) (d) from hJ.out.fact 1 (by kernel_rfl))
        go_wp2_with fail
        with_reducible refine (HDE.out _ _ _ _ X0.out).mono ?_
        rintro e w1 ⟨u, rfl, hu, hb⟩
        go_wp2_with fail
        exact ⟨rfl, rfl, hJ.out.call (by rfl) hb (hu)⟩
      simp only [Act.put, List.setIfInBounds_toArray, List.set_cons_zero, List.set_cons_succ, Nat.reduceAdd]
      refine Steps.held ?_ ?_
      · intro L v w' hJ
        have kb := hJ.out.blk E5.out (by simp [oldsOf, BS, Bx.nat, Bx.rat, Bx.ref] <;> omega)
        have k0 := kb.cell 0
        have k1 := kb.cell 1
        clear kb
        go_wp2_with fail
        exact ⟨rfl, rfl, hJ.out.same (by rfl) (N5.out.keep hJ.out.held.keep)⟩
      simp only [Act.put, List.setIfInBounds_toArray, List.set_cons_zero, List.set_cons_succ, Nat.reduceAdd]
      refine Steps.held ?_ ?_
      · intro L v w' hJ
        have X0 := Lib.hid (show F64 w' (v 3) (m) (e) from hJ.out.fact 3 (by kernel_rfl))
        go_wp2_with fail
        with_reducible refine (HDE.out _ _ _ _ X0.out).mono ?_
        rintro e w1 ⟨u, rfl, hu, hb⟩
        go_wp2_with fail
        exact ⟨rfl, rfl, hJ.out.call (by rfl) hb (hu)⟩
      simp only [Act.put, List.setIfInBounds_toArray, List.set_cons_zero, List.set_cons_succ, Nat.reduceAdd]
      refine Steps.held ?_ ?_
      · intro L v w' hJ
        have X0 := Lib.hid (show N64 w' (v 2) (d) from hJ.out.fact 2 (by kernel_rfl))
        have X1 := Lib.hid (show N64 w' (v 4) (e) from hJ.out.fact 4 (by kernel_rfl))
        go_wp2_with fail
        with_reducible refine (HM3.out _ _ _ X0.out X1.out).mono ?_
        rintro e w1 ⟨u, rfl, hu, hb⟩
        go_wp2_with fail
        exact ⟨rfl, rfl, hJ.out.call (by rfl) hb (hu)⟩
      simp only [Act.put, List.setIfInBounds_toArray, List.set_cons_zero, List.set_cons_succ, Nat.reduceAdd]
      refine Steps.held ?_ ?_
      · intro L v w' hJ
        have X0 := Lib.hid (show N64 w' (v 0) (n * e + m * d) from hJ.out.fact 0 (by kernel_rfl))
        have X1 := Lib.hid (show N64 w' (v 5) (d * e) from hJ.out.fact 5 (by kernel_rfl))
        go_wp2_with fail
        with_reducible refine (HMA.out _ _ _ X0.out X1.out).mono ?_
        rintro e w1 ⟨u, rfl, hu, hb⟩
        go_wp2_with fail
        exact ⟨rfl, rfl, hJ.out.call (by rfl) hb (hu)⟩
      simp only [Act.put, List.setIfInBounds_toArray, List.set_cons_zero, List.set_cons_succ, Nat.reduceAdd]
      refine Steps.held ?_ ?_
      · intro L v w' hJ
        obtain ⟨hown, hst⟩ := hJ.out.oldbox 0 _ rfl (g3) rfl
        have hN : F64 w' (v 6) (rn (n * e + m * d) (d * e)) (rd (n * e + m * d) (d * e)) := hJ.out.fact 6 (by kernel_rfl)
        obtain ⟨A1, p1, c1, B1, q1, e1, x1, hv, h1, h2, h3⟩ := hN
        have HN := Lib.hid (show F64 w' (.agg #[.slice A1 p1 c1, .slice B1 q1 e1]) (rn (n * e + m * d) (d * e)) (rd (n * e + m * d) (d * e)) from ⟨A1, p1, c1, B1, q1, e1, x1, rfl, h1, h2, h3⟩)
        have kb := hJ.out.box 0 _ rfl rfl (g3) hown
        have k0 : w'.cell? ⟨(g3), 0, none⟩ = some ((.slice P3' p3' c3')) := kb.cell 0
        have k1 : w'.cell? ⟨(g3), 1, none⟩ = some ((.slice Q3' q3' e3')) := kb.cell 1
        have f0 := kb.frozen 0
        have f1 := kb.frozen 1
        have HO := Lib.hid hown
        have HS := Lib.hid hst
        clear kb h1 h2 h3 hown hst
        simp only [hv]
        clear hv
        go_wp2_with fail
        exact ⟨rfl, rfl, hJ.out.fill2 0 _ rfl rfl (by rfl) (g3) HO.out HS.out _ _ rfl rfl rfl (fun W k => HN.out.keep k) (fun _ => trivial)⟩
      simp only [Act.put, List.setIfInBounds_toArray, List.set_cons_zero, List.set_cons_succ, Nat.reduceAdd]
      refine Steps.nil ?_
      intro v w' hJ
      obtain ⟨cs, hblk, hf⟩ := hJ.end_old 0 _ rfl g3 rfl (Nat.le_of_ble_eq_true rfl)
      have hf' : F64 w' (.agg cs) (rn (n * e + m * d) (d * e)) (rd (n * e + m * d) (d * e)) := hf
      obtain ⟨A1, p1, c1, B1, q1, e1, x1, hcs, h1, h2, h3⟩ := hf'
      have hcs' := Value.agg.inj hcs
      subst hcs'
      have hk2 := hJ.keep
      have HBO := Lib.hid (show BoxF w' g3 (sumR f (k + 1)).1 (sumR f (k + 1)).2 from ⟨_, _, _, _, _, _, hblk, by rw [HS1.out, HS2.out]; exact ⟨A1, p1, c1, B1, q1, e1, x1, rfl, h1, h2, h3⟩⟩)
      have HEE := Lib.hid (hJ.but.blk hE.out (by simp [oldsOf, BS, Bx.nat, Bx.rat, Bx.ref]; omega))
      have HBW := Lib.hid (hJ.but.to_below hBW.out hBW.out.size (by intro g hg; simp [oldsOf, BS, Bx.nat, Bx.rat, Bx.ref] at hg; subst hg; omega))
      clear hJ hf h1 h2 hblk hcs hk2
      go_wp2_with fail
      have hlt2 := HLT.out
      have hK2 := HKK.out
      have hw64 : wrap64 ((k : Int) + 1) = ((k + 1 : Nat) : Int) := by
        rw [Go.IntWalk.wrap64_in _ (by omega)]
        rfl
      go_roundw
      case rel => exact ⟨k + 1, by omega, by rw [hw64], HBO, HEE, HBW⟩
      case measure => rw [hw64]; simp [intOf]; omega
    · have hkK : k = K := by omega
      subst hkK
      obtain ⟨P3', p3', c3', Q3', q3', e3', hb3, hF3⟩ := hBO.out
      have k30 := hb3.cell 0
      have k31 := hb3.cell 1
      have N3 := Lib.hid hF3
      have k00 := hE.out.cell 0
      have k01 := hE.out.cell 1
      have f0 := hE.out.frozen 0
      have f1 := hE.out.frozen 1
      have HX := Lib.hid (show MkF w (sumR f k).1 (sumR f k).2 (.returned (.agg #[.slice P3' p3' c3', .slice Q3' q3' e3'])) ((wr.setCell ⟨w.heap.size, 0, none⟩ (.slice P3' p3' c3')).setCell ⟨w.heap.size, 1, none⟩ (.slice Q3' q3' e3')) from
        ⟨_, rfl, (hF3.keep (Keep.set hE.out 0 rfl _)).keep (Keep.set (hE.out.set_ 0 _) 1 rfl _), (hBW.out.setCell (p := ⟨w.heap.size, 0, none⟩) (Nat.le_refl _) _).setCell (p := ⟨w.heap.size, 1, none⟩) (Nat.le_refl _) _⟩)
      clear hb3 hF3 hk
      go_wp2
      exact bodyPost_ret (v := .agg #[.slice P3' p3' c3', .slice Q3' q3' e3']) (by simp [results, Try.results66, go_sem, k00, k01]) rfl HX.out
theorem radd_row (v : Value) (K : Nat) (f : Nat → Nat × Nat) (B : Nat) (w : World) (hK : K ≤ 100) (hB : B ≤ 100000) (h : RowF w v K f) (hp : ∀ i, i < K → 0 < (f i).2) (hf : ∀ i, i < K → wl 64 (f i).1 ≤ B ∧ wl 64 (f i).2 ≤ B) :
    Calls Try.prog 66 #[v] w (MkF w (sumR f K).1 (sumR f K).2) := by
  obtain ⟨g, rfl, hr⟩ := h.rats
  exact raddF_any _ K K f B w (Nat.le_refl _) hK hB hr hp hf
theorem radd_three (v : Value) (n d m e r s B : Nat) (w : World) (hB : B ≤ 100000) (h : RowF w v 3 (ofL [(n, d), (m, e), (r, s)])) (hd : 0 < d) (he : 0 < e) (hs : 0 < s) (h1 : wl 64 n ≤ B) (h2 : wl 64 d ≤ B) (h3 : wl 64 m ≤ B) (h4 : wl 64 e ≤ B) (h5 : wl 64 r ≤ B) (h6 : wl 64 s ≤ B) :
    Calls Try.prog 66 #[v] w (MkF w (addR (addR (addR (0, 1) (n, d)) (m, e)) (r, s)).1 (addR (addR (addR (0, 1) (n, d)) (m, e)) (r, s)).2) :=
  radd_row v 3 (ofL [(n, d), (m, e), (r, s)]) B w (by decide) hB h (fun i hi => match i, hi with | 0, _ => hd | 1, _ => he | 2, _ => hs) (fun i hi => match i, hi with | 0, _ => ⟨h1, h2⟩ | 1, _ => ⟨h3, h4⟩ | 2, _ => ⟨h5, h6⟩)
end Go.Proofs.Yteikhnmmkanndaa
namespace Go.Proofs.Yteikhnmmkanndaa
open Go.RowKit Go.Proofs.YteikhnmmkanndaaW.PrintWords
set_option linter.unusedSimpArgs false
set_option linter.unusedVariables false
set_option maxRecDepth 100000 in
set_option maxHeartbeats 4000000 in
theorem rtext_of (v : Value) (n d : Nat) (sn sd : ByteArray) (w : World) (ha : F64 w v n d) (t1 : ∀ (u : Value) (W : World), N64 W u n → Calls Try.prog 46 #[u] W fun x w' => x = .returned (.string sn) ∧ Below W.heap.size W w') (t2 : ∀ (u : Value) (W : World), N64 W u d → Calls Try.prog 46 #[u] W fun x w' => x = .returned (.string sd) ∧ Below W.heap.size W w') (z1 : sn.size ≤ 100000) (z2 : sd.size ≤ 100000) : Calls Try.prog 72 #[v] w fun x w' => x = .returned (.string (sn ++ ⟨#[47]⟩ ++ sd)) ∧ Below w.heap.size w w' := by
  have Ha := Lib.hid ha
  obtain ⟨Pa, pa, ca, Qa, qa, ea, xa, rfl, _, _, _⟩ := ha
  have HNU := Lib.hid num_any
  have HDE := Lib.hid den_any
  have HT1 := Lib.hid t1
  have HT2 := Lib.hid t2
  have q1 : ¬ 9223372036854775807 < sn.size + 1 := by omega
  have q2 : ¬ 9223372036854775807 < sn.size + 1 + sd.size := by omega
  clear t1 t2 z1 z2
  have e0 := Blk.new (w) 47 #[(.slice Pa pa ca), (.slice Qa qa ea)]
  have hb := cba (Below.refl _ w) (.cells #[(.slice Pa pa ca), (.slice Qa qa ea)] 47)
  have hsz : w.heap.size ≤ w.heap.size := Nat.le_refl _
  go_enter Try.func72, Try.ntmps72
  go_upto_region 1 with (fail)
  obtain ⟨S, hS⟩ : ∃ S, (w).alloc (.cells #[(.slice Pa pa ca), (.slice Qa qa ea)] 47) = S := ⟨_, rfl⟩
  rw [hS] at e0 hb ⊢
  replace Ha := Lib.hid (Ha.out.below hb)
  have HB0 := Lib.hid hb
  have E0 := Lib.hid e0
  clear hS hb hsz e0
  go_wp2_with fail
  let FS : List Kept1 := [.f (n) (d), .n (n), .eq (.string sn), .eq (.string (sn ++ ⟨#[47]⟩)), .f (n) (d), .n (d), .eq (.string sd), .eq (.string (sn ++ ⟨#[47]⟩ ++ sd)), .eq (.string (sn ++ ⟨#[47]⟩ ++ sd))]
  refine region_mono (Held S (fun j => FS.getD j .any) []) (by kernel_rfl) (by kernel_rfl) (by kernel_rfl) (Held.start _ _ _ (by simp) (by simp)) ?_
  refine Steps.held ?_ ?_
  · intro L v w' hJ
    have kb := hJ.out.blk E0.out (by simp [oldsOf])
    have k0 := kb.cell 0
    have k1 := kb.cell 1
    clear kb
    go_wp2_with fail
    exact ⟨rfl, rfl, hJ.out.same (by rfl) (Ha.out.keep hJ.out.held.keep)⟩
  simp only [Act.put, List.setIfInBounds_toArray, List.set_cons_zero, List.set_cons_succ, Nat.reduceAdd]
  refine Steps.held ?_ ?_
  · intro L v w' hJ
    have X0 := Lib.hid (show F64 w' (v 0) (n) (d) from hJ.out.fact 0 (by kernel_rfl))
    go_wp2_with fail
    with_reducible refine (HNU.out _ _ _ _ X0.out).mono ?_
    rintro e w1 ⟨u, rfl, hu, hb⟩
    go_wp2_with fail
    exact ⟨rfl, rfl, hJ.out.call (by rfl) hb (hu)⟩
  simp only [Act.put, List.setIfInBounds_toArray, List.set_cons_zero, List.set_cons_succ, Nat.reduceAdd]
  refine Steps.held ?_ ?_
  · intro L v w' hJ
    have X0 := Lib.hid (show N64 w' (v 1) (n) from hJ.out.fact 1 (by kernel_rfl))
    go_wp2_with fail
    with_reducible refine (HT1.out _ _ X0.out).mono ?_
    rintro e w1 ⟨rfl, hb⟩
    go_wp2_with fail
    exact ⟨rfl, rfl, hJ.out.call (by rfl) hb (rfl)⟩
  simp only [Act.put, List.setIfInBounds_toArray, List.set_cons_zero, List.set_cons_succ, Nat.reduceAdd]
  refine Steps.held ?_ ?_
  · intro L v w' hJ
    have hv2 : v 2 = .string sn := hJ.out.fact 2 (by kernel_rfl)
    simp only [hv2]
    clear hv2
    go_wp2_with fail
    exact ⟨rfl, rfl, hJ.out.same (by rfl) (rfl)⟩
  simp only [Act.put, List.setIfInBounds_toArray, List.set_cons_zero, List.set_cons_succ, Nat.reduceAdd]
  refine Steps.held ?_ ?_
  · intro L v w' hJ
    have kb := hJ.out.blk E0.out (by simp [oldsOf])
    have k0 := kb.cell 0
    have k1 := kb.cell 1
    clear kb
    go_wp2_with fail
    exact ⟨rfl, rfl, hJ.out.same (by rfl) (Ha.out.keep hJ.out.held.keep)⟩
  simp only [Act.put, List.setIfInBounds_toArray, List.set_cons_zero, List.set_cons_succ, Nat.reduceAdd]
  refine Steps.held ?_ ?_
  · intro L v w' hJ
    have X0 := Lib.hid (show F64 w' (v 4) (n) (d) from hJ.out.fact 4 (by kernel_rfl))
    go_wp2_with fail
    with_reducible refine (HDE.out _ _ _ _ X0.out).mono ?_
    rintro e w1 ⟨u, rfl, hu, hb⟩
    go_wp2_with fail
    exact ⟨rfl, rfl, hJ.out.call (by rfl) hb (hu)⟩
  simp only [Act.put, List.setIfInBounds_toArray, List.set_cons_zero, List.set_cons_succ, Nat.reduceAdd]
  refine Steps.held ?_ ?_
  · intro L v w' hJ
    have X0 := Lib.hid (show N64 w' (v 5) (d) from hJ.out.fact 5 (by kernel_rfl))
    go_wp2_with fail
    with_reducible refine (HT2.out _ _ X0.out).mono ?_
    rintro e w1 ⟨rfl, hb⟩
    go_wp2_with fail
    exact ⟨rfl, rfl, hJ.out.call (by rfl) hb (rfl)⟩
  simp only [Act.put, List.setIfInBounds_toArray, List.set_cons_zero, List.set_cons_succ, Nat.reduceAdd]
  refine Steps.held ?_ ?_
  · intro L v w' hJ
    have hv3 : v 3 = .string (sn ++ ⟨#[47]⟩) := hJ.out.fact 3 (by kernel_rfl)
    simp only [hv3]
    clear hv3
    have hv6 : v 6 = .string sd := hJ.out.fact 6 (by kernel_rfl)
    simp only [hv6]
    clear hv6
    go_wp2_with fail
    exact ⟨rfl, rfl, hJ.out.same (by rfl) (rfl)⟩
  simp only [Act.put, List.setIfInBounds_toArray, List.set_cons_zero, List.set_cons_succ, Nat.reduceAdd]
  refine Steps.held ?_ ?_
  · intro L v w' hJ
    have hv7 : v 7 = .string (sn ++ ⟨#[47]⟩ ++ sd) := hJ.out.fact 7 (by kernel_rfl)
    simp only [hv7]
    clear hv7
    go_wp2_with fail
    exact ⟨rfl, rfl, hJ.out.same (by rfl) (rfl)⟩
  simp only [Act.put, List.setIfInBounds_toArray, List.set_cons_zero, List.set_cons_succ, Nat.reduceAdd]
  refine Steps.nil ?_
  intro v w' hJ
  have h8 : v 8 = .string (sn ++ ⟨#[47]⟩ ++ sd) := hJ.end_fact 8 (by decide)
  have HF := Lib.hid (cbt HB0.out hJ.but.below)
  clear hJ
  simp only [h8]
  clear h8
  go_wp2_with fail
  go_ret
  exact ⟨rfl, HF.out⟩
end Go.Proofs.Yteikhnmmkanndaa
namespace Go.Proofs.Yteikhnmmkanndaa
open Go.RowKit Go.Proofs.YteikhnmmkanndaaW.PrintWords
set_option linter.unusedSimpArgs false
set_option linter.unusedVariables false
theorem dig_5 : nat_digits_f 100 5 [53] := ⟨by kernel_rfl, by decide, by decide⟩
theorem dig_3 : nat_digits_f 100 3 [51] := ⟨by kernel_rfl, by decide, by decide⟩
theorem dig_2 : nat_digits_f 100 2 [50] := ⟨by kernel_rfl, by decide, by decide⟩
theorem dig_1 : nat_digits_f 100 1 [49] := ⟨by kernel_rfl, by decide, by decide⟩
theorem rtext_lit (v : Value) (n d : Nat) (ln ld : List Int) (s : ByteArray) (w : World) (ha : F64 w v n d) (hn : n < 10 ^ 19) (hd : d < 10 ^ 19) (hln : nat_digits_f 100 n ln) (hld : nat_digits_f 100 d ld) (z1 : (strOfNums ln).size ≤ 100000) (z2 : (strOfNums ld).size ≤ 100000) (hs : strOfNums ln ++ ⟨#[47]⟩ ++ strOfNums ld = s) :
    Calls Try.prog 72 #[v] w fun x w' => x = .returned (.string s) ∧ Below w.heap.size w w' := by
  have := rtext_of v n d _ _ w ha (fun u W h => ntext_one u n ln W h hn hln) (fun u W h => ntext_one u d ld W h hd hld) z1 z2
  rwa [hs] at this
end Go.Proofs.Yteikhnmmkanndaa
namespace Go.Proofs.Yteikhnmmkanndaa
open Go.RowKit Go.Proofs.YteikhnmmkanndaaW.PrintWords
theorem rn_mul (n d : Nat) : rn n d * d = n * rd n d := by
  obtain ⟨x, hx⟩ := Nat.gcd_dvd_left n d
  obtain ⟨y, hy⟩ := Nat.gcd_dvd_right n d
  unfold rn rd
  rcases Nat.eq_zero_or_pos (Nat.gcd n d) with h0 | h0
  · rw [h0, Nat.div_zero, Nat.div_zero, Nat.zero_mul, Nat.mul_zero]
  · have h1 : n / Nat.gcd n d = x := Nat.div_eq_of_eq_mul_right h0 hx
    have h2 : d / Nat.gcd n d = y := Nat.div_eq_of_eq_mul_right h0 hy
    rw [h1, h2]
    calc x * d = x * (Nat.gcd n d * y) := by rw [← hy]
      _ = Nat.gcd n d * x * y := by rw [Nat.mul_left_comm, Nat.mul_assoc]
      _ = n * y := by rw [← hx]
def Red (a : Nat × Nat) : Prop := Nat.gcd a.1 a.2 = 1 ∧ 0 < a.2
theorem Red.rn {a : Nat × Nat} (h : Red a) : rn a.1 a.2 = a.1 := by unfold Yteikhnmmkanndaa.rn; rw [h.1, Nat.div_one]
theorem Red.rd {a : Nat × Nat} (h : Red a) : rd a.1 a.2 = a.2 := by unfold Yteikhnmmkanndaa.rd; rw [h.1, Nat.div_one]
theorem red_of {n d : Nat} (h : 0 < d) : Red (Yteikhnmmkanndaa.rn n d, Yteikhnmmkanndaa.rd n d) := ⟨Nat.coprime_div_gcd_div_gcd (Nat.gcd_pos_of_pos_right n h), rd_pos h⟩
theorem red_zero : Red (0, 1) := ⟨rfl, Nat.one_pos⟩
def lessR (a b : Nat × Nat) : Nat × Nat := if a.1 * b.2 < b.1 * a.2 then (0, 1) else (rn (a.1 * b.2 - b.1 * a.2) (a.2 * b.2), rd (a.1 * b.2 - b.1 * a.2) (a.2 * b.2))
def mulR (a b : Nat × Nat) : Nat × Nat := (rn (a.1 * b.1) (a.2 * b.2), rd (a.1 * b.1) (a.2 * b.2))
def divR (a b : Nat × Nat) : Nat × Nat := (rn (a.1 * b.2) (a.2 * b.1), rd (a.1 * b.2) (a.2 * b.1))
theorem addR_zero {a : Nat × Nat} (h : Red a) : addR (0, 1) a = a := by
  unfold addR
  simp only [Nat.zero_mul, Nat.zero_add, Nat.mul_one, Nat.one_mul]
  rw [h.rn, h.rd]
theorem addR_red {a b : Nat × Nat} (ha : Red a) (hb : Red b) : Red (addR a b) := red_of (Nat.mul_pos ha.2 hb.2)
theorem lessR_red {a b : Nat × Nat} (ha : Red a) (hb : Red b) : Red (lessR a b) := by
  unfold lessR
  split
  · exact red_zero
  · exact red_of (Nat.mul_pos ha.2 hb.2)
theorem mulR_red {a b : Nat × Nat} (ha : Red a) (hb : Red b) : Red (mulR a b) := red_of (Nat.mul_pos ha.2 hb.2)
theorem divR_red {a b : Nat × Nat} (ha : Red a) (h0 : 0 < b.1) : Red (divR a b) := red_of (Nat.mul_pos ha.2 h0)
theorem mulR_div {a b : Nat × Nat} (ha : Red a) (hb : Red b) (h0 : 0 < b.1) : (mulR (divR a b) b).1 * a.2 = a.1 * (mulR (divR a b) b).2 := by
  have h1 := rn_mul (a.1 * b.2) (a.2 * b.1)
  have hq := divR_red (b := b) ha h0
  unfold divR at *
  generalize rn (a.1 * b.2) (a.2 * b.1) = q1 at *
  generalize rd (a.1 * b.2) (a.2 * b.1) = q2 at *
  unfold mulR
  simp only [] at hq ⊢
  have h2 := rn_mul (q1 * b.1) (q2 * b.2)
  generalize rn (q1 * b.1) (q2 * b.2) = p1 at *
  generalize rd (q1 * b.1) (q2 * b.2) = p2 at *
  refine Nat.eq_of_mul_eq_mul_right (Nat.mul_pos hq.2 hb.2) ?_
  calc p1 * a.2 * (q2 * b.2) = p1 * (q2 * b.2) * a.2 := by rw [Nat.mul_right_comm]
    _ = q1 * b.1 * p2 * a.2 := by rw [h2]
    _ = q1 * (a.2 * b.1) * p2 := by rw [Nat.mul_right_comm (q1 * b.1), Nat.mul_assoc q1 b.1, Nat.mul_comm b.1]
    _ = a.1 * b.2 * q2 * p2 := by rw [h1]
    _ = a.1 * p2 * (q2 * b.2) := by rw [Nat.mul_comm q2 b.2, ← Nat.mul_assoc, Nat.mul_right_comm a.1 p2, Nat.mul_right_comm (a.1 * b.2) p2]
def Sz (B : Nat) (a : Nat × Nat) : Prop := wl 8 a.1 ≤ B ∧ wl 8 a.2 ≤ B
theorem wl64_le (x : Nat) : wl 64 x ≤ wl 8 x := by
  rw [wl_le (by decide)]
  exact Nat.lt_of_lt_of_le (wl_lt (k := 8) (by decide) x) (Nat.pow_le_pow_right (by decide) (by omega))
theorem Sz.mono {B C : Nat} {a : Nat × Nat} (h : Sz B a) (hc : B ≤ C) : Sz C a := ⟨Nat.le_trans h.1 hc, Nat.le_trans h.2 hc⟩
theorem Sz.add {B C : Nat} {a b : Nat × Nat} (ha : Sz B a) (hb : Sz C b) : Sz (B + C + 1) (addR a b) := by
  have h1 := wl_mul_le (k := 8) (by decide) ha.1 hb.2
  have h2 := wl_mul_le (k := 8) (by decide) hb.1 ha.2
  have h3 := wl_mul_le (k := 8) (by decide) ha.2 hb.2
  have h4 := wl_add_le (k := 8) (x := a.1 * b.2) (y := b.1 * a.2) (a := B + C) (by decide) h1 (by omega)
  exact ⟨wl_rn (by decide) h4, wl_rd (by decide) (by omega)⟩
theorem Sz.less {B C : Nat} {a b : Nat × Nat} (ha : Sz B a) (hb : Sz C b) : Sz (B + C + 1) (lessR a b) := by
  have h1 := wl_mul_le (k := 8) (by decide) ha.1 hb.2
  have h3 := wl_mul_le (k := 8) (by decide) ha.2 hb.2
  have h4 := wl_mono (k := 8) (by decide) (Nat.sub_le (a.1 * b.2) (b.1 * a.2))
  unfold lessR
  split
  · refine ⟨?_, ?_⟩
    · show wl 8 0 ≤ _
      rw [wl_zero (by decide)]; omega
    · show wl 8 1 ≤ _
      rw [show wl 8 1 = 1 by decide +kernel]; omega
  · exact ⟨wl_rn (by decide) (by omega), wl_rd (by decide) (by omega)⟩
theorem Sz.mul {B C : Nat} {a b : Nat × Nat} (ha : Sz B a) (hb : Sz C b) : Sz (B + C) (mulR a b) :=
  ⟨wl_rn (by decide) (wl_mul_le (k := 8) (by decide) ha.1 hb.1), wl_rd (by decide) (wl_mul_le (k := 8) (by decide) ha.2 hb.2)⟩
theorem Sz.div {B C : Nat} {a b : Nat × Nat} (ha : Sz B a) (hb : Sz C b) : Sz (B + C) (divR a b) :=
  ⟨wl_rn (by decide) (wl_mul_le (k := 8) (by decide) ha.1 hb.2), wl_rd (by decide) (wl_mul_le (k := 8) (by decide) ha.2 hb.1)⟩
theorem Sz.w1 {B : Nat} {a : Nat × Nat} (h : Sz B a) : wl 64 a.1 ≤ B := Nat.le_trans (wl64_le _) h.1
theorem Sz.w2 {B : Nat} {a : Nat × Nat} (h : Sz B a) : wl 64 a.2 ≤ B := Nat.le_trans (wl64_le _) h.2
theorem Sz.zero : Sz 1 (0, 1) := ⟨by decide +kernel, by decide +kernel⟩
section
variable {a b c : Nat × Nat} {va vb v : Value} {W : World} {B : Nat}
theorem c_add3 (hB : B ≤ 100000) (ha : Red a) (hb : Red b) (hc : Red c) (sa : Sz B a) (sb : Sz B b) (sc : Sz B c) (h : RowF W v 3 (ofL [a, b, c])) : Calls Try.prog 66 #[v] W (MkF W (addR (addR a b) c).1 (addR (addR a b) c).2) := by
  have := radd_three v a.1 a.2 b.1 b.2 c.1 c.2 B W hB h ha.2 hb.2 hc.2 sa.w1 sa.w2 sb.w1 sb.w2 sc.w1 sc.w2
  rwa [show (a.1, a.2) = a from rfl, show (b.1, b.2) = b from rfl, show (c.1, c.2) = c from rfl, addR_zero ha] at this
theorem c_xadd (hB : B ≤ 100000) (ha : Red a) (hb : Red b) (sa : Sz B a) (sb : Sz B b) (h1 : RF W va a.1 a.2) (h2 : RF W vb b.1 b.2) : Calls Try.prog 68 #[va, vb] W (MkR W (addR a b).1 (addR a b).2) :=
  xadd_any va vb a.1 a.2 b.1 b.2 W h1 h2 (Nat.le_trans sa.1 (by omega)) (Nat.le_trans sa.2 (by omega)) (Nat.le_trans sb.1 (by omega)) (Nat.le_trans sb.2 (by omega)) ha.2 hb.2
theorem c_less (hB : B ≤ 100000) (sa : Sz B a) (sb : Sz B b) (h1 : F64 W va a.1 a.2) (h2 : F64 W vb b.1 b.2) : Calls Try.prog 62 #[va, vb] W (MkF W (lessR a b).1 (lessR a b).2) := by
  have q1 := sa.w1; have q2 := sa.w2; have q3 := sb.w1; have q4 := sb.w2
  unfold lessR
  split
  · rename_i h
    exact rlessF_no va vb a.1 a.2 b.1 b.2 W h1 h2 (by omega) (by omega) (by omega) (by omega) h
  · rename_i h
    exact rlessF_any va vb a.1 a.2 b.1 b.2 W h1 h2 (by omega) (by omega) (by omega) (by omega) (by omega)
theorem c_xless (hB : B ≤ 100000) (ha : Red a) (hb : Red b) (sa : Sz B a) (sb : Sz B b) (h1 : RF W va a.1 a.2) (h2 : RF W vb b.1 b.2) : Calls Try.prog 69 #[va, vb] W (MkR W (lessR a b).1 (lessR a b).2) := by
  have q1 := sa.1; have q2 := sa.2; have q3 := sb.1; have q4 := sb.2
  unfold lessR
  split
  · rename_i h
    exact xless_no va vb a.1 a.2 b.1 b.2 W h1 h2 (by omega) (by omega) (by omega) (by omega) ha.2 hb.2 h
  · rename_i h
    exact xless_any va vb a.1 a.2 b.1 b.2 W h1 h2 (by omega) (by omega) (by omega) (by omega) ha.2 hb.2 (by omega)
theorem c_mul (hB : B ≤ 100000) (sa : Sz B a) (sb : Sz B b) (h1 : F64 W va a.1 a.2) (h2 : F64 W vb b.1 b.2) : Calls Try.prog 43 #[va, vb] W (MkF W (mulR a b).1 (mulR a b).2) := by
  have q1 := sa.w1; have q2 := sa.w2; have q3 := sb.w1; have q4 := sb.w2
  exact rmulF_any va vb a.1 a.2 b.1 b.2 W h1 h2 (by omega) (by omega) (by omega) (by omega)
theorem c_xmul (hB : B ≤ 100000) (ha : Red a) (hb : Red b) (sa : Sz B a) (sb : Sz B b) (h1 : RF W va a.1 a.2) (h2 : RF W vb b.1 b.2) : Calls Try.prog 77 #[va, vb] W (MkR W (mulR a b).1 (mulR a b).2) := by
  have q1 := sa.1; have q2 := sa.2; have q3 := sb.1; have q4 := sb.2
  exact xmul_any va vb a.1 a.2 b.1 b.2 W h1 h2 (by omega) (by omega) (by omega) (by omega) ha.2 hb.2
theorem c_div (hB : B ≤ 100000) (sa : Sz B a) (sb : Sz B b) (h0 : 0 < b.1) (h1 : F64 W va a.1 a.2) (h2 : F64 W vb b.1 b.2) : Calls Try.prog 71 #[va, vb] W fun x w' => ∃ v, x = .returned (.tuple #[v, .int .i64 0]) ∧ F64 w' v (divR a b).1 (divR a b).2 ∧ Below W.heap.size W w' := by
  have q1 := sa.w1; have q2 := sa.w2; have q3 := sb.w1; have q4 := sb.w2
  exact rdivF_any va vb a.1 a.2 b.1 b.2 W h1 h2 (by omega) (by omega) (by omega) (by omega) h0
theorem c_divno (h0 : b.1 = 0) (h1 : F64 W va a.1 a.2) (h2 : F64 W vb b.1 b.2) : Calls Try.prog 71 #[va, vb] W fun x w' => ∃ v, x = .returned (.tuple #[v, .int .i64 1]) ∧ F64 w' v 0 1 ∧ Below W.heap.size W w' :=
  rdivF_no va vb a.1 a.2 b.1 b.2 W h1 h2 h0
theorem c_xdiv (hB : B ≤ 100000) (ha : Red a) (h0 : 0 < b.1) (sa : Sz B a) (sb : Sz B b) (h1 : RF W va a.1 a.2) (h2 : RF W vb b.1 b.2) : Calls Try.prog 78 #[va, vb] W (MkR W (divR a b).1 (divR a b).2) := by
  have q1 := sa.1; have q2 := sa.2; have q3 := sb.1; have q4 := sb.2
  exact xdiv_any va vb a.1 a.2 b.1 b.2 W h1 h2 (by omega) (by omega) (by omega) (by omega) ha.2 h0
theorem c_cmp (hB : B ≤ 100000) (sa : Sz B a) (sb : Sz B b) (h1 : F64 W va a.1 a.2) (h2 : F64 W vb b.1 b.2) : Calls Try.prog 44 #[va, vb] W fun x w' => x = .returned (.int .i64 (cmpN (a.1 * b.2) (b.1 * a.2))) ∧ Below W.heap.size W w' := by
  have q1 := sa.w1; have q2 := sa.w2; have q3 := sb.w1; have q4 := sb.w2
  exact rcmpF_any va vb a.1 a.2 b.1 b.2 W h1 h2 (by omega) (by omega) (by omega) (by omega)
theorem c_cmpeq (hB : B ≤ 100000) (sa : Sz B a) (sb : Sz B b) (he : a.1 * b.2 = b.1 * a.2) (h1 : F64 W va a.1 a.2) (h2 : F64 W vb b.1 b.2) : Calls Try.prog 44 #[va, vb] W fun x w' => x = .returned (.int .i64 0) ∧ Below W.heap.size W w' := by
  have := c_cmp hB sa sb h1 h2
  rwa [he, cmpN_self] at this
theorem c_is (hB : B ≤ 100000) (sa : Sz B a) (h1 : F64 W va a.1 a.2) (h2 : RF W vb a.1 a.2) : Calls Try.prog 67 #[va, vb] W fun x w' => x = .returned (.bool true) ∧ Below W.heap.size W w' := by
  have q1 := sa.w1; have q2 := sa.w2; have q3 := sa.1; have q4 := sa.2
  exact isF_yes va vb a.1 a.2 W h1 h2 (by omega) (by omega) (by omega) (by omega)
end
end Go.Proofs.Yteikhnmmkanndaa
namespace Go.Proofs.Yteikhnmmkanndaa
open Go.RowKit Go.Proofs.YteikhnmmkanndaaW.PrintWords
set_option linter.unusedSimpArgs false
set_option linter.unusedVariables false
theorem retF {w w1 : World} {g : Nat} {A B : Option Addr} {p c q e n d : Nat} (E : Blk w1 g 47 #[.slice none 0 0, .slice none 0 0]) (hg : w.heap.size ≤ g) (hb : Below w.heap.size w w1) (h : F64 w1 (.agg #[.slice A p c, .slice B q e]) n d) :
    MkF w n d (.returned (.agg #[.slice A p c, .slice B q e])) ((w1.setCell ⟨g, 0, none⟩ (.slice A p c)).setCell ⟨g, 1, none⟩ (.slice B q e)) :=
  ⟨_, rfl, (h.keep (Keep.set E 0 rfl _)).keep (Keep.set (E.set_ 0 _) 1 rfl _), (hb.setCell (p := ⟨g, 0, none⟩) hg _).setCell (p := ⟨g, 1, none⟩) hg _⟩
theorem retR {w w1 : World} {g : Nat} {A B : Option Addr} {p c q e n d : Nat} (E : Blk w1 g 52 #[.slice none 0 0, .slice none 0 0]) (hg : w.heap.size ≤ g) (hb : Below w.heap.size w w1) (h : RF w1 (.agg #[.slice A p c, .slice B q e]) n d) :
    MkR w n d (.returned (.agg #[.slice A p c, .slice B q e])) ((w1.setCell ⟨g, 0, none⟩ (.slice A p c)).setCell ⟨g, 1, none⟩ (.slice B q e)) :=
  ⟨_, rfl, (h.keep (Keep.set E 0 rfl _)).keep (Keep.set (E.set_ 0 _) 1 rfl _), (hb.setCell (p := ⟨g, 0, none⟩) hg _).setCell (p := ⟨g, 1, none⟩) hg _⟩
def byR (a b : Nat × Nat) : Nat × Nat := if b.1 = 0 then (0, 1) else divR a b
set_option maxRecDepth 100000 in
set_option maxHeartbeats 4000000 in
theorem whole_any (k : Int) (x : Nat) (hx : max k 0 = (x : Int)) (hx2 : x < 2 ^ 63) (w : World) : Calls Try.prog 122 #[.int .i64 k] w (MkF w x 1) := by
  have HF := Lib.hid (fun W => rint_any x (Nat.lt_trans hx2 (by decide)) W)
  have e0 := Blk.new (w) 47 #[(.slice none 0 0), (.slice none 0 0)]
  have hb := cba (Below.refl _ w) (.cells #[(.slice none 0 0), (.slice none 0 0)] 47)
  have hsz : w.heap.size ≤ w.heap.size := Nat.le_refl _
  go_enter Try.func122, Try.ntmps122
  go_upto_region 1 with (fail)
  obtain ⟨S, hS⟩ : ∃ S, (w).alloc (.cells #[(.slice none 0 0), (.slice none 0 0)] 47) = S := ⟨_, rfl⟩
  rw [hS] at e0 hb ⊢
  have HB0 := Lib.hid hb
  have E0 := Lib.hid e0
  clear hS hb hsz e0
  have k_E0_0 := E0.out.cell 0
  have k_E0_1 := E0.out.cell 1
  go_wp2_with fail
  with_reducible refine (HF.out _).mono ?_
  rintro e w1 ⟨u, rfl, hu, hb⟩
  clear k_E0_0 k_E0_1
  replace E0 := Lib.hid (blk_below E0.out hb)
  replace HB0 := Lib.hid (cbt HB0.out hb)
  have NV := Lib.hid hu
  clear hb hu
  have k_E0_0 := E0.out.cell 0
  have k_E0_1 := E0.out.cell 1
  clear k_E0_0 k_E0_1
  have ZV := NV.out
  obtain ⟨AV, pV, cV, BV, qV, eV, xV, rfl, _, _, _⟩ := ZV
  have f0 := E0.out.frozen 0
  have f1 := E0.out.frozen 1
  have HX := Lib.hid (retF E0.out (Nat.le_refl _) HB0.out NV.out)
  have j0 := E0.out.cell 0
  have j1 := E0.out.cell 1
  go_wp2_with fail
  exact bodyPost_ret (v := .agg #[.slice AV pV cV, .slice BV qV eV]) (by simp [results, Try.results122, go_sem, j0, j1]) rfl HX.out
set_option maxRecDepth 100000 in
set_option maxHeartbeats 4000000 in
theorem clo1_any (gc : Nat) (T S n0 n1 n2 n3 n4 : Int) (x : Nat) (hx : max n1 0 = (x : Int)) (hx2 : x < 2 ^ 63) (w : World) (hc : Blk w gc 96 #[.int .i64 T, .int .i64 S, .int .i64 n0, .int .i64 n1, .int .i64 n2, .int .i64 n3, .int .i64 n4]) : Calls Try.prog 121 #[.int .i64 1, .pointer (some ⟨gc, 0, none⟩)] w (MkF w x 1) := by
  have HF := Lib.hid (fun W => whole_any n1 x hx hx2 W)
  have EC := Lib.hid hc
  clear hx hx2
  have e0 := Blk.new (w) 47 #[(.slice none 0 0), (.slice none 0 0)]
  have hb := cba (Below.refl _ w) (.cells #[(.slice none 0 0), (.slice none 0 0)] 47)
  have hsz : w.heap.size ≤ w.heap.size := Nat.le_refl _
  go_enter Try.func121, Try.ntmps121
  go_upto_region 1 with (fail)
  obtain ⟨S, hS⟩ : ∃ S, (w).alloc (.cells #[(.slice none 0 0), (.slice none 0 0)] 47) = S := ⟨_, rfl⟩
  rw [hS] at e0 hb ⊢
  have HB0 := Lib.hid hb
  replace EC := Lib.hid (blk_below EC.out hb)
  have E0 := Lib.hid e0
  clear hS hb hsz e0
  have k_E0_0 := E0.out.cell 0
  have k_E0_1 := E0.out.cell 1
  have kc := EC.out.cell 3
  go_wp2_with fail
  with_reducible refine (HF.out _).mono ?_
  rintro e w1 ⟨u, rfl, hu, hb⟩
  clear k_E0_0 k_E0_1
  replace E0 := Lib.hid (blk_below E0.out hb)
  replace HB0 := Lib.hid (cbt HB0.out hb)
  have NV := Lib.hid hu
  clear hb hu
  have k_E0_0 := E0.out.cell 0
  have k_E0_1 := E0.out.cell 1
  clear k_E0_0 k_E0_1
  have ZV := NV.out
  obtain ⟨AV, pV, cV, BV, qV, eV, xV, rfl, _, _, _⟩ := ZV
  have f0 := E0.out.frozen 0
  have f1 := E0.out.frozen 1
  have HX := Lib.hid (retF E0.out (Nat.le_refl _) HB0.out NV.out)
  have j0 := E0.out.cell 0
  have j1 := E0.out.cell 1
  go_wp2_with fail
  exact bodyPost_ret (v := .agg #[.slice AV pV cV, .slice BV qV eV]) (by simp [results, Try.results121, go_sem, j0, j1]) rfl HX.out
set_option maxRecDepth 100000 in
set_option maxHeartbeats 4000000 in
theorem clo2_any (gc : Nat) (T S n0 n1 n2 n3 n4 : Int) (x : Nat) (hx : max n2 0 = (x : Int)) (hx2 : x < 2 ^ 63) (w : World) (hc : Blk w gc 96 #[.int .i64 T, .int .i64 S, .int .i64 n0, .int .i64 n1, .int .i64 n2, .int .i64 n3, .int .i64 n4]) : Calls Try.prog 121 #[.int .i64 2, .pointer (some ⟨gc, 0, none⟩)] w (MkF w x 1) := by
  have HF := Lib.hid (fun W => whole_any n2 x hx hx2 W)
  have EC := Lib.hid hc
  clear hx hx2
  have e0 := Blk.new (w) 47 #[(.slice none 0 0), (.slice none 0 0)]
  have hb := cba (Below.refl _ w) (.cells #[(.slice none 0 0), (.slice none 0 0)] 47)
  have hsz : w.heap.size ≤ w.heap.size := Nat.le_refl _
  go_enter Try.func121, Try.ntmps121
  go_upto_region 1 with (fail)
  obtain ⟨S, hS⟩ : ∃ S, (w).alloc (.cells #[(.slice none 0 0), (.slice none 0 0)] 47) = S := ⟨_, rfl⟩
  rw [hS] at e0 hb ⊢
  have HB0 := Lib.hid hb
  replace EC := Lib.hid (blk_below EC.out hb)
  have E0 := Lib.hid e0
  clear hS hb hsz e0
  have k_E0_0 := E0.out.cell 0
  have k_E0_1 := E0.out.cell 1
  have kc := EC.out.cell 4
  go_wp2_with fail
  with_reducible refine (HF.out _).mono ?_
  rintro e w1 ⟨u, rfl, hu, hb⟩
  clear k_E0_0 k_E0_1
  replace E0 := Lib.hid (blk_below E0.out hb)
  replace HB0 := Lib.hid (cbt HB0.out hb)
  have NV := Lib.hid hu
  clear hb hu
  have k_E0_0 := E0.out.cell 0
  have k_E0_1 := E0.out.cell 1
  clear k_E0_0 k_E0_1
  have ZV := NV.out
  obtain ⟨AV, pV, cV, BV, qV, eV, xV, rfl, _, _, _⟩ := ZV
  have f0 := E0.out.frozen 0
  have f1 := E0.out.frozen 1
  have HX := Lib.hid (retF E0.out (Nat.le_refl _) HB0.out NV.out)
  have j0 := E0.out.cell 0
  have j1 := E0.out.cell 1
  go_wp2_with fail
  exact bodyPost_ret (v := .agg #[.slice AV pV cV, .slice BV qV eV]) (by simp [results, Try.results121, go_sem, j0, j1]) rfl HX.out
set_option maxRecDepth 100000 in
set_option maxHeartbeats 4000000 in
theorem clo3_any (gc : Nat) (T S n0 n1 n2 n3 n4 : Int) (x : Nat) (hx : max n3 0 = (x : Int)) (hx2 : x < 2 ^ 63) (w : World) (hc : Blk w gc 96 #[.int .i64 T, .int .i64 S, .int .i64 n0, .int .i64 n1, .int .i64 n2, .int .i64 n3, .int .i64 n4]) : Calls Try.prog 121 #[.int .i64 3, .pointer (some ⟨gc, 0, none⟩)] w (MkF w x 1) := by
  have HF := Lib.hid (fun W => whole_any n3 x hx hx2 W)
  have EC := Lib.hid hc
  clear hx hx2
  have e0 := Blk.new (w) 47 #[(.slice none 0 0), (.slice none 0 0)]
  have hb := cba (Below.refl _ w) (.cells #[(.slice none 0 0), (.slice none 0 0)] 47)
  have hsz : w.heap.size ≤ w.heap.size := Nat.le_refl _
  go_enter Try.func121, Try.ntmps121
  go_upto_region 1 with (fail)
  obtain ⟨S, hS⟩ : ∃ S, (w).alloc (.cells #[(.slice none 0 0), (.slice none 0 0)] 47) = S := ⟨_, rfl⟩
  rw [hS] at e0 hb ⊢
  have HB0 := Lib.hid hb
  replace EC := Lib.hid (blk_below EC.out hb)
  have E0 := Lib.hid e0
  clear hS hb hsz e0
  have k_E0_0 := E0.out.cell 0
  have k_E0_1 := E0.out.cell 1
  have kc := EC.out.cell 5
  go_wp2_with fail
  with_reducible refine (HF.out _).mono ?_
  rintro e w1 ⟨u, rfl, hu, hb⟩
  clear k_E0_0 k_E0_1
  replace E0 := Lib.hid (blk_below E0.out hb)
  replace HB0 := Lib.hid (cbt HB0.out hb)
  have NV := Lib.hid hu
  clear hb hu
  have k_E0_0 := E0.out.cell 0
  have k_E0_1 := E0.out.cell 1
  clear k_E0_0 k_E0_1
  have ZV := NV.out
  obtain ⟨AV, pV, cV, BV, qV, eV, xV, rfl, _, _, _⟩ := ZV
  have f0 := E0.out.frozen 0
  have f1 := E0.out.frozen 1
  have HX := Lib.hid (retF E0.out (Nat.le_refl _) HB0.out NV.out)
  have j0 := E0.out.cell 0
  have j1 := E0.out.cell 1
  go_wp2_with fail
  exact bodyPost_ret (v := .agg #[.slice AV pV cV, .slice BV qV eV]) (by simp [results, Try.results121, go_sem, j0, j1]) rfl HX.out
set_option maxRecDepth 100000 in
set_option maxHeartbeats 4000000 in
theorem clo4_any (gc : Nat) (T S n0 n1 n2 n3 n4 : Int) (x : Nat) (hx : max n4 0 = (x : Int)) (hx2 : x < 2 ^ 63) (w : World) (hc : Blk w gc 96 #[.int .i64 T, .int .i64 S, .int .i64 n0, .int .i64 n1, .int .i64 n2, .int .i64 n3, .int .i64 n4]) : Calls Try.prog 121 #[.int .i64 4, .pointer (some ⟨gc, 0, none⟩)] w (MkF w x 1) := by
  have HF := Lib.hid (fun W => whole_any n4 x hx hx2 W)
  have EC := Lib.hid hc
  clear hx hx2
  have e0 := Blk.new (w) 47 #[(.slice none 0 0), (.slice none 0 0)]
  have hb := cba (Below.refl _ w) (.cells #[(.slice none 0 0), (.slice none 0 0)] 47)
  have hsz : w.heap.size ≤ w.heap.size := Nat.le_refl _
  go_enter Try.func121, Try.ntmps121
  go_upto_region 1 with (fail)
  obtain ⟨S, hS⟩ : ∃ S, (w).alloc (.cells #[(.slice none 0 0), (.slice none 0 0)] 47) = S := ⟨_, rfl⟩
  rw [hS] at e0 hb ⊢
  have HB0 := Lib.hid hb
  replace EC := Lib.hid (blk_below EC.out hb)
  have E0 := Lib.hid e0
  clear hS hb hsz e0
  have k_E0_0 := E0.out.cell 0
  have k_E0_1 := E0.out.cell 1
  have kc := EC.out.cell 6
  go_wp2_with fail
  with_reducible refine (HF.out _).mono ?_
  rintro e w1 ⟨u, rfl, hu, hb⟩
  clear k_E0_0 k_E0_1
  replace E0 := Lib.hid (blk_below E0.out hb)
  replace HB0 := Lib.hid (cbt HB0.out hb)
  have NV := Lib.hid hu
  clear hb hu
  have k_E0_0 := E0.out.cell 0
  have k_E0_1 := E0.out.cell 1
  clear k_E0_0 k_E0_1
  have ZV := NV.out
  obtain ⟨AV, pV, cV, BV, qV, eV, xV, rfl, _, _, _⟩ := ZV
  have f0 := E0.out.frozen 0
  have f1 := E0.out.frozen 1
  have HX := Lib.hid (retF E0.out (Nat.le_refl _) HB0.out NV.out)
  have j0 := E0.out.cell 0
  have j1 := E0.out.cell 1
  go_wp2_with fail
  exact bodyPost_ret (v := .agg #[.slice AV pV cV, .slice BV qV eV]) (by simp [results, Try.results121, go_sem, j0, j1]) rfl HX.out
set_option maxRecDepth 100000 in
set_option maxHeartbeats 4000000 in
theorem by_any {a b : Nat × Nat} {va vb : Value} {w : World} {B : Nat} (hB : B ≤ 100000) (sa : Sz B a) (sb : Sz B b) (ha : F64 w va a.1 a.2) (hb : F64 w vb b.1 b.2) : Calls Try.prog 123 #[va, vb] w (MkF w (byR a b).1 (byR a b).2) := by
  have Ha := Lib.hid ha
  obtain ⟨Pa, pa, ca, Qa, qa, ea, xa, rfl, _, _, _⟩ := ha
  have Hb := Lib.hid hb
  obtain ⟨Pb, pb, cb, Qb, qb, eb, xb, rfl, _, _, _⟩ := hb
  by_cases hz : b.1 = 0
  · have hby : byR a b = (0, 1) := if_pos hz
    rw [hby]
    have HDV := Lib.hid (fun va vb W h1 h2 => c_divno (a := a) (b := b) (va := va) (vb := vb) (W := W) hz h1 h2)
    have HI0 : Hid (∀ W, Calls Try.prog 74 #[.int .u64 0] W (MkF W 0 1)) := Lib.hid (fun W => rint_any 0 (by decide) W)
    clear hby hz sa sb
    have e0 := ((Blk.new (w) 47 #[(.slice Pa pa ca), (.slice Qa qa ea)]).alloc (.cells #[(.slice Pb pb cb), (.slice Qb qb eb)] 47)).alloc (.cells #[(.slice none 0 0), (.slice none 0 0)] 47)
    have e1 := (Blk.new ((w).alloc (.cells #[(.slice Pa pa ca), (.slice Qa qa ea)] 47)) 47 #[(.slice Pb pb cb), (.slice Qb qb eb)]).alloc (.cells #[(.slice none 0 0), (.slice none 0 0)] 47)
    have e2 := Blk.new (((w).alloc (.cells #[(.slice Pa pa ca), (.slice Qa qa ea)] 47)).alloc (.cells #[(.slice Pb pb cb), (.slice Qb qb eb)] 47)) 47 #[(.slice none 0 0), (.slice none 0 0)]
    have hb := cba (cba (cba (Below.refl _ w) (.cells #[(.slice Pa pa ca), (.slice Qa qa ea)] 47)) (.cells #[(.slice Pb pb cb), (.slice Qb qb eb)] 47)) (.cells #[(.slice none 0 0), (.slice none 0 0)] 47)
    simp only [World.size_alloc] at e1 e2
    have hsz : w.heap.size ≤ w.heap.size := Nat.le_refl _
    go_enter Try.func123, Try.ntmps123
    go_upto_region 1 with (fail)
    obtain ⟨S, hS⟩ : ∃ S, (((w).alloc (.cells #[(.slice Pa pa ca), (.slice Qa qa ea)] 47)).alloc (.cells #[(.slice Pb pb cb), (.slice Qb qb eb)] 47)).alloc (.cells #[(.slice none 0 0), (.slice none 0 0)] 47) = S := ⟨_, rfl⟩
    rw [hS] at e0 e1 e2 hb ⊢
    replace Ha := Lib.hid (Ha.out.below hb)
    replace Hb := Lib.hid (Hb.out.below hb)
    have HB0 := Lib.hid hb
    have E0 := Lib.hid e0
    have E1 := Lib.hid e1
    have E2 := Lib.hid e2
    clear hS hb hsz e0 e1 e2
    have k_E0_0 := E0.out.cell 0
    have k_E0_1 := E0.out.cell 1
    have k_E1_0 := E1.out.cell 0
    have k_E1_1 := E1.out.cell 1
    have k_E2_0 := E2.out.cell 0
    have k_E2_1 := E2.out.cell 1
    go_wp2_with fail
    with_reducible refine (HDV.out _ _ _ Ha.out Hb.out).mono ?_
    rintro e w1 ⟨u, rfl, hu, hb⟩
    clear k_E0_0 k_E0_1 k_E1_0 k_E1_1 k_E2_0 k_E2_1
    replace Ha := Lib.hid (Ha.out.below hb)
    replace Hb := Lib.hid (Hb.out.below hb)
    replace E0 := Lib.hid (blk_below E0.out hb)
    replace E1 := Lib.hid (blk_below E1.out hb)
    replace E2 := Lib.hid (blk_below E2.out hb)
    replace HB0 := Lib.hid (cbt HB0.out hb)
    have NQ := Lib.hid hu
    clear hb hu
    have k_E0_0 := E0.out.cell 0
    have k_E0_1 := E0.out.cell 1
    have k_E1_0 := E1.out.cell 0
    have k_E1_1 := E1.out.cell 1
    have k_E2_0 := E2.out.cell 0
    have k_E2_1 := E2.out.cell 1
    have hl2 := E2.out.lt
    have Z0 := NQ.out
    obtain ⟨AT0, pT0, cT0, BT0, qT0, eT0, xT0, rfl, _, _, _⟩ := Z0
    have e3 := Blk.new w1 47 #[.slice AT0 pT0 cT0, .slice BT0 qT0 eT0]
    have hb := cba (Below.refl _ w1) (.cells #[.slice AT0 pT0 cT0, .slice BT0 qT0 eT0] 47)
    go_upto_region 2 with (fail)
    obtain ⟨T, hS⟩ : ∃ S, (w1.alloc (.cells #[.slice AT0 pT0 cT0, .slice BT0 qT0 eT0] 47)) = S := ⟨_, rfl⟩
    rw [hS] at e3 hb ⊢
    obtain ⟨g3, hg⟩ : ∃ g, w1.heap.size = g := ⟨_, rfl⟩
    rw [hg] at e3 hl2
    simp only [hg]
    replace NQ := Lib.hid (NQ.out.below hb)
    replace E2 := Lib.hid (blk_below E2.out hb)
    replace HB0 := Lib.hid (cbt HB0.out hb)
    have E3 := Lib.hid e3
    clear hS hg hb e3 k_E0_0 k_E0_1 k_E1_0 k_E1_1 k_E2_0 k_E2_1 Ha Hb E0 E1
    have k_E2_0 := E2.out.cell 0
    have k_E2_1 := E2.out.cell 1
    have k_E3_0 := E3.out.cell 0
    have k_E3_1 := E3.out.cell 1
    go_wp2_with fail
    with_reducible refine (HI0.out _).mono ?_
    rintro e w2 ⟨u, rfl, hu, hb⟩
    clear k_E2_0 k_E2_1 k_E3_0 k_E3_1
    replace NQ := Lib.hid (NQ.out.below hb)
    replace E2 := Lib.hid (blk_below E2.out hb)
    replace E3 := Lib.hid (blk_below E3.out hb)
    replace HB0 := Lib.hid (cbt HB0.out hb)
    have N0 := Lib.hid hu
    clear hb hu
    have k_E2_0 := E2.out.cell 0
    have k_E2_1 := E2.out.cell 1
    have k_E3_0 := E3.out.cell 0
    have k_E3_1 := E3.out.cell 1
    clear k_E2_0 k_E2_1 k_E3_0 k_E3_1
    have ZV := N0.out
    obtain ⟨AV, pV, cV, BV, qV, eV, xV, rfl, _, _, _⟩ := ZV
    have f0 := E2.out.frozen 0
    have f1 := E2.out.frozen 1
    have HX := Lib.hid (retF E2.out (by omega) HB0.out N0.out)
    have j0 := E2.out.cell 0
    have j1 := E2.out.cell 1
    go_wp2_with fail
    exact bodyPost_ret (v := .agg #[.slice AV pV cV, .slice BV qV eV]) (by simp [results, Try.results123, go_sem, j0, j1]) rfl HX.out
  · have hby : byR a b = divR a b := if_neg hz
    rw [hby]
    have HDV := Lib.hid (fun va vb W h1 h2 => c_div (a := a) (b := b) (va := va) (vb := vb) (W := W) hB sa sb (Nat.pos_of_ne_zero hz) h1 h2)
    obtain ⟨r, hr⟩ : ∃ r, divR a b = r := ⟨_, rfl⟩
    rw [hr] at HDV ⊢
    clear hr
    clear hby hz sa sb
    have e0 := ((Blk.new (w) 47 #[(.slice Pa pa ca), (.slice Qa qa ea)]).alloc (.cells #[(.slice Pb pb cb), (.slice Qb qb eb)] 47)).alloc (.cells #[(.slice none 0 0), (.slice none 0 0)] 47)
    have e1 := (Blk.new ((w).alloc (.cells #[(.slice Pa pa ca), (.slice Qa qa ea)] 47)) 47 #[(.slice Pb pb cb), (.slice Qb qb eb)]).alloc (.cells #[(.slice none 0 0), (.slice none 0 0)] 47)
    have e2 := Blk.new (((w).alloc (.cells #[(.slice Pa pa ca), (.slice Qa qa ea)] 47)).alloc (.cells #[(.slice Pb pb cb), (.slice Qb qb eb)] 47)) 47 #[(.slice none 0 0), (.slice none 0 0)]
    have hb := cba (cba (cba (Below.refl _ w) (.cells #[(.slice Pa pa ca), (.slice Qa qa ea)] 47)) (.cells #[(.slice Pb pb cb), (.slice Qb qb eb)] 47)) (.cells #[(.slice none 0 0), (.slice none 0 0)] 47)
    simp only [World.size_alloc] at e1 e2
    have hsz : w.heap.size ≤ w.heap.size := Nat.le_refl _
    go_enter Try.func123, Try.ntmps123
    go_upto_region 1 with (fail)
    obtain ⟨S, hS⟩ : ∃ S, (((w).alloc (.cells #[(.slice Pa pa ca), (.slice Qa qa ea)] 47)).alloc (.cells #[(.slice Pb pb cb), (.slice Qb qb eb)] 47)).alloc (.cells #[(.slice none 0 0), (.slice none 0 0)] 47) = S := ⟨_, rfl⟩
    rw [hS] at e0 e1 e2 hb ⊢
    replace Ha := Lib.hid (Ha.out.below hb)
    replace Hb := Lib.hid (Hb.out.below hb)
    have HB0 := Lib.hid hb
    have E0 := Lib.hid e0
    have E1 := Lib.hid e1
    have E2 := Lib.hid e2
    clear hS hb hsz e0 e1 e2
    have k_E0_0 := E0.out.cell 0
    have k_E0_1 := E0.out.cell 1
    have k_E1_0 := E1.out.cell 0
    have k_E1_1 := E1.out.cell 1
    have k_E2_0 := E2.out.cell 0
    have k_E2_1 := E2.out.cell 1
    go_wp2_with fail
    with_reducible refine (HDV.out _ _ _ Ha.out Hb.out).mono ?_
    rintro e w1 ⟨u, rfl, hu, hb⟩
    clear k_E0_0 k_E0_1 k_E1_0 k_E1_1 k_E2_0 k_E2_1
    replace Ha := Lib.hid (Ha.out.below hb)
    replace Hb := Lib.hid (Hb.out.below hb)
    replace E0 := Lib.hid (blk_below E0.out hb)
    replace E1 := Lib.hid (blk_below E1.out hb)
    replace E2 := Lib.hid (blk_below E2.out hb)
    replace HB0 := Lib.hid (cbt HB0.out hb)
    have NQ := Lib.hid hu
    clear hb hu
    have k_E0_0 := E0.out.cell 0
    have k_E0_1 := E0.out.cell 1
    have k_E1_0 := E1.out.cell 0
    have k_E1_1 := E1.out.cell 1
    have k_E2_0 := E2.out.cell 0
    have k_E2_1 := E2.out.cell 1
    have hl2 := E2.out.lt
    have Z0 := NQ.out
    obtain ⟨AT0, pT0, cT0, BT0, qT0, eT0, xT0, rfl, _, _, _⟩ := Z0
    have e3 := Blk.new w1 47 #[.slice AT0 pT0 cT0, .slice BT0 qT0 eT0]
    have hb := cba (Below.refl _ w1) (.cells #[.slice AT0 pT0 cT0, .slice BT0 qT0 eT0] 47)
    go_upto_region 2 with (fail)
    obtain ⟨T, hS⟩ : ∃ S, (w1.alloc (.cells #[.slice AT0 pT0 cT0, .slice BT0 qT0 eT0] 47)) = S := ⟨_, rfl⟩
    rw [hS] at e3 hb ⊢
    obtain ⟨g3, hg⟩ : ∃ g, w1.heap.size = g := ⟨_, rfl⟩
    rw [hg] at e3 hl2
    simp only [hg]
    replace NQ := Lib.hid (NQ.out.below hb)
    replace E2 := Lib.hid (blk_below E2.out hb)
    replace HB0 := Lib.hid (cbt HB0.out hb)
    have E3 := Lib.hid e3
    clear hS hg hb e3 k_E0_0 k_E0_1 k_E1_0 k_E1_1 k_E2_0 k_E2_1 Ha Hb E0 E1
    have k_E2_0 := E2.out.cell 0
    have k_E2_1 := E2.out.cell 1
    have k_E3_0 := E3.out.cell 0
    have k_E3_1 := E3.out.cell 1
    have f0 := E2.out.frozen 0
    have f1 := E2.out.frozen 1
    have HX := Lib.hid (retF E2.out (by omega) HB0.out NQ.out)
    go_wp2_with fail
    exact bodyPost_ret (v := .agg #[.slice AT0 pT0 cT0, .slice BT0 qT0 eT0]) (by simp [results, Try.results123, go_sem, k_E2_0, k_E2_1]) rfl HX.out
end Go.Proofs.Yteikhnmmkanndaa
namespace Go.Proofs.Yteikhnmmkanndaa
open Go.RowKit Go.Proofs.YteikhnmmkanndaaW.PrintWords
set_option linter.unusedSimpArgs false
set_option linter.unusedVariables false
def Set4 (P : World → Value → Nat → Nat → Prop) (w : World) (v : Value) (a0 a1 a2 a3 : Nat × Nat) : Prop := ∃ (A0 : Option Addr) (p0 c0 : Nat) (B0 : Option Addr) (q0 e0 : Nat) (A1 : Option Addr) (p1 c1 : Nat) (B1 : Option Addr) (q1 e1 : Nat) (A2 : Option Addr) (p2 c2 : Nat) (B2 : Option Addr) (q2 e2 : Nat) (A3 : Option Addr) (p3 c3 : Nat) (B3 : Option Addr) (q3 e3 : Nat), v = .agg #[.slice A0 p0 c0, .slice B0 q0 e0, .slice A1 p1 c1, .slice B1 q1 e1, .slice A2 p2 c2, .slice B2 q2 e2, .slice A3 p3 c3, .slice B3 q3 e3] ∧ P w (.agg #[.slice A0 p0 c0, .slice B0 q0 e0]) a0.1 a0.2 ∧ P w (.agg #[.slice A1 p1 c1, .slice B1 q1 e1]) a1.1 a1.2 ∧ P w (.agg #[.slice A2 p2 c2, .slice B2 q2 e2]) a2.1 a2.2 ∧ P w (.agg #[.slice A3 p3 c3, .slice B3 q3 e3]) a3.1 a3.2
def Box4 (P : World → Value → Nat → Nat → Prop) (t : TypeId) (w : World) (g : Nat) (a0 a1 a2 a3 : Nat × Nat) : Prop := ∃ (A0 : Option Addr) (p0 c0 : Nat) (B0 : Option Addr) (q0 e0 : Nat) (A1 : Option Addr) (p1 c1 : Nat) (B1 : Option Addr) (q1 e1 : Nat) (A2 : Option Addr) (p2 c2 : Nat) (B2 : Option Addr) (q2 e2 : Nat) (A3 : Option Addr) (p3 c3 : Nat) (B3 : Option Addr) (q3 e3 : Nat), Blk w g t #[.slice A0 p0 c0, .slice B0 q0 e0, .slice A1 p1 c1, .slice B1 q1 e1, .slice A2 p2 c2, .slice B2 q2 e2, .slice A3 p3 c3, .slice B3 q3 e3] ∧ P w (.agg #[.slice A0 p0 c0, .slice B0 q0 e0]) a0.1 a0.2 ∧ P w (.agg #[.slice A1 p1 c1, .slice B1 q1 e1]) a1.1 a1.2 ∧ P w (.agg #[.slice A2 p2 c2, .slice B2 q2 e2]) a2.1 a2.2 ∧ P w (.agg #[.slice A3 p3 c3, .slice B3 q3 e3]) a3.1 a3.2
section
variable {P : World → Value → Nat → Nat → Prop} {w w' : World} {v : Value} {g t : Nat} {a0 a1 a2 a3 : Nat × Nat}
theorem Set4.keep (hP : ∀ {v w w' n d}, P w v n d → Keep w w' → P w' v n d) (h : Set4 P w v a0 a1 a2 a3) (k : Keep w w') : Set4 P w' v a0 a1 a2 a3 := by
  obtain ⟨A0, p0, c0, B0, q0, e0, A1, p1, c1, B1, q1, e1, A2, p2, c2, B2, q2, e2, A3, p3, c3, B3, q3, e3, hv, h0, h1, h2, h3⟩ := h
  exact ⟨A0, p0, c0, B0, q0, e0, A1, p1, c1, B1, q1, e1, A2, p2, c2, B2, q2, e2, A3, p3, c3, B3, q3, e3, hv, hP h0 k, hP h1 k, hP h2 k, hP h3 k⟩
end
theorem keepF {v : Value} {w w' : World} {n d : Nat} (h : F64 w v n d) (k : Keep w w') : F64 w' v n d := h.keep k
theorem keepR {v : Value} {w w' : World} {n d : Nat} (h : RF w v n d) (k : Keep w w') : RF w' v n d := h.keep k
abbrev SetF := Set4 F64
abbrev SetR := Set4 RF
abbrev BoxSF := Box4 F64 99
abbrev BoxSR := Box4 RF 101
def Kept1.setF (a0 a1 a2 a3 : Nat × Nat) : Kept1 := ⟨fun v w => SetF w v a0 a1 a2 a3, fun h k => Set4.keep keepF h k⟩
def Kept1.setR (a0 a1 a2 a3 : Nat × Nat) : Kept1 := ⟨fun v w => SetR w v a0 a1 a2 a3, fun h k => Set4.keep keepR h k⟩
def MkS (P : World → Value → Nat → Nat → Prop) (w : World) (a0 a1 a2 a3 : Nat × Nat) : Ending → World → Prop := fun e w' => ∃ v, e = .returned v ∧ Set4 P w' v a0 a1 a2 a3 ∧ Below w.heap.size w w'
theorem keep8 {w1 : World} {g t : Nat} {o0 o1 o2 o3 o4 o5 o6 o7 : Value} (E : Blk w1 g t #[o0, o1, o2, o3, o4, o5, o6, o7]) (ht : (t != 47) = true) (hn : (noInt o0 && noInt o1 && noInt o2 && noInt o3 && noInt o4 && noInt o5 && noInt o6 && noInt o7) = true) (u0 u1 u2 u3 u4 u5 u6 u7 : Value) :
    Keep w1 ((((((((w1.setCell ⟨g, 0, none⟩ u0).setCell ⟨g, 1, none⟩ u1).setCell ⟨g, 2, none⟩ u2).setCell ⟨g, 3, none⟩ u3).setCell ⟨g, 4, none⟩ u4).setCell ⟨g, 5, none⟩ u5).setCell ⟨g, 6, none⟩ u6).setCell ⟨g, 7, none⟩ u7) := by
  simp only [Bool.and_eq_true] at hn
  obtain ⟨⟨⟨⟨⟨⟨⟨h0, h1⟩, h2⟩, h3⟩, h4⟩, h5⟩, h6⟩, h7⟩ := hn
  have k0 := Keep.set E 0 (by simp [h0, ht]) u0
  have e1 := E.set_ 0 u0
  simp only [List.setIfInBounds_toArray, List.set_cons_zero, List.set_cons_succ] at e1
  have k1 := Keep.set e1 1 (by simp [h1, ht]) u1
  have e2 := e1.set_ 1 u1
  simp only [List.setIfInBounds_toArray, List.set_cons_zero, List.set_cons_succ] at e2
  have k2 := Keep.set e2 2 (by simp [h2, ht]) u2
  have e3 := e2.set_ 2 u2
  simp only [List.setIfInBounds_toArray, List.set_cons_zero, List.set_cons_succ] at e3
  have k3 := Keep.set e3 3 (by simp [h3, ht]) u3
  have e4 := e3.set_ 3 u3
  simp only [List.setIfInBounds_toArray, List.set_cons_zero, List.set_cons_succ] at e4
  have k4 := Keep.set e4 4 (by simp [h4, ht]) u4
  have e5 := e4.set_ 4 u4
  simp only [List.setIfInBounds_toArray, List.set_cons_zero, List.set_cons_succ] at e5
  have k5 := Keep.set e5 5 (by simp [h5, ht]) u5
  have e6 := e5.set_ 5 u5
  simp only [List.setIfInBounds_toArray, List.set_cons_zero, List.set_cons_succ] at e6
  have k6 := Keep.set e6 6 (by simp [h6, ht]) u6
  have e7 := e6.set_ 6 u6
  simp only [List.setIfInBounds_toArray, List.set_cons_zero, List.set_cons_succ] at e7
  have k7 := Keep.set e7 7 (by simp [h7, ht]) u7
  have e8 := e7.set_ 7 u7
  simp only [List.setIfInBounds_toArray, List.set_cons_zero, List.set_cons_succ] at e8
  exact (((((((k0).trans k1).trans k2).trans k3).trans k4).trans k5).trans k6).trans k7
theorem below8 {w w1 : World} {g : Nat} (hg : w.heap.size ≤ g) (hb : Below w.heap.size w w1) (u0 u1 u2 u3 u4 u5 u6 u7 : Value) : Below w.heap.size w ((((((((w1.setCell ⟨g, 0, none⟩ u0).setCell ⟨g, 1, none⟩ u1).setCell ⟨g, 2, none⟩ u2).setCell ⟨g, 3, none⟩ u3).setCell ⟨g, 4, none⟩ u4).setCell ⟨g, 5, none⟩ u5).setCell ⟨g, 6, none⟩ u6).setCell ⟨g, 7, none⟩ u7) :=
  ((((((((hb.setCell (p := ⟨g, 0, none⟩) hg u0).setCell (p := ⟨g, 1, none⟩) hg u1).setCell (p := ⟨g, 2, none⟩) hg u2).setCell (p := ⟨g, 3, none⟩) hg u3).setCell (p := ⟨g, 4, none⟩) hg u4).setCell (p := ⟨g, 5, none⟩) hg u5).setCell (p := ⟨g, 6, none⟩) hg u6).setCell (p := ⟨g, 7, none⟩) hg u7)
theorem retS {P : World → Value → Nat → Nat → Prop} {w w1 : World} {g t : Nat} {A0 : Option Addr} {p0 c0 : Nat} {B0 : Option Addr} {q0 e0 : Nat} {A1 : Option Addr} {p1 c1 : Nat} {B1 : Option Addr} {q1 e1 : Nat} {A2 : Option Addr} {p2 c2 : Nat} {B2 : Option Addr} {q2 e2 : Nat} {A3 : Option Addr} {p3 c3 : Nat} {B3 : Option Addr} {q3 e3 : Nat} {a0 a1 a2 a3 : Nat × Nat} (hP : ∀ {v w w' n d}, P w v n d → Keep w w' → P w' v n d) (E : Blk w1 g t #[.slice none 0 0, .slice none 0 0, .slice none 0 0, .slice none 0 0, .slice none 0 0, .slice none 0 0, .slice none 0 0, .slice none 0 0]) (ht : (t != 47) = true) (hg : w.heap.size ≤ g) (hb : Below w.heap.size w w1)
    (h0 : P w1 (.agg #[.slice A0 p0 c0, .slice B0 q0 e0]) a0.1 a0.2) (h1 : P w1 (.agg #[.slice A1 p1 c1, .slice B1 q1 e1]) a1.1 a1.2) (h2 : P w1 (.agg #[.slice A2 p2 c2, .slice B2 q2 e2]) a2.1 a2.2) (h3 : P w1 (.agg #[.slice A3 p3 c3, .slice B3 q3 e3]) a3.1 a3.2) :
    MkS P w a0 a1 a2 a3 (.returned (.agg #[.slice A0 p0 c0, .slice B0 q0 e0, .slice A1 p1 c1, .slice B1 q1 e1, .slice A2 p2 c2, .slice B2 q2 e2, .slice A3 p3 c3, .slice B3 q3 e3])) ((((((((w1.setCell ⟨g, 0, none⟩ (.slice A0 p0 c0)).setCell ⟨g, 1, none⟩ (.slice B0 q0 e0)).setCell ⟨g, 2, none⟩ (.slice A1 p1 c1)).setCell ⟨g, 3, none⟩ (.slice B1 q1 e1)).setCell ⟨g, 4, none⟩ (.slice A2 p2 c2)).setCell ⟨g, 5, none⟩ (.slice B2 q2 e2)).setCell ⟨g, 6, none⟩ (.slice A3 p3 c3)).setCell ⟨g, 7, none⟩ (.slice B3 q3 e3)) :=
  ⟨_, rfl, ⟨_, _, _, _, _, _, _, _, _, _, _, _, _, _, _, _, _, _, _, _, _, _, _, _, rfl, hP h0 (keep8 E ht rfl _ _ _ _ _ _ _ _), hP h1 (keep8 E ht rfl _ _ _ _ _ _ _ _), hP h2 (keep8 E ht rfl _ _ _ _ _ _ _ _), hP h3 (keep8 E ht rfl _ _ _ _ _ _ _ _)⟩, below8 hg hb _ _ _ _ _ _ _ _⟩
def Bx.part (P : World → Value → Nat → Nat → Prop) (hP : ∀ {v w w' n d}, P w v n d → Keep w w' → P w' v n d) (at_ : Nat ⊕ Nat) (by_ : Nat) (ty : TypeId) (old : Array Value) (o n d : Nat) : Bx :=
  ⟨at_, by_, ty, old, fun cs w => ∃ A p c B q e, cs = (old.setIfInBounds o (.slice A p c)).setIfInBounds (o + 1) (.slice B q e) ∧ P w (.agg #[.slice A p c, .slice B q e]) n d, fun ⟨A, p, c, B, q, e, h1, h2⟩ k => ⟨A, p, c, B, q, e, h1, hP h2 k⟩⟩
section
variable {ops : Array Oper} {S0 : World} {A : Nat → Kept1} {bs : List Bx} {L : Nat → Bool} {v : Nat → Value} {w w' : World} {k : Nat} {u : Value}
theorem Amid.fillAt (h : Amid S0 A bs ops k L v w) (p : Nat) (b0 : Bx) (hp : bs[p]? = some b0) (hby : b0.by_ = k) (hB : ((bs.filter fun b => b.by_ == k).length == 1 && bs.all fun b => !b.makes k) = true)
    (g : Nat) (hg : b0.own L v g) (hst : ∀ j, b0.at_ = .inl j → L j = true) (o : Nat) (x y : Value)
    (h1 : (noInt (b0.old.getD o undef) && (b0.ty != 47 || Nat.ble b0.old.size 2)) = true) (h2 : (noInt ((b0.old.setIfInBounds o x).getD (o + 1) undef) && (b0.ty != 47 || Nat.ble (b0.old.setIfInBounds o x).size 2)) = true)
    (hf : ∀ W, Keep w W → b0.full ((b0.old.setIfInBounds o x).setIfInBounds (o + 1) y) W) (hA : ∀ W, (A k).holds u W) : Held S0 A bs (setB L k) (setV v k u) ((w.setCell ⟨g, o, none⟩ x).setCell ⟨g, o + 1, none⟩ y) := by
  have hb := h.box p b0 hp hby g hg
  have hb1 := hb.set_ o x
  have hb2 := hb1.set_ (o + 1) y
  have hk := (Keep.set hb o h1 x).trans (Keep.set hb1 (o + 1) h2 y)
  exact h.filled_ p b0 hp hby hB g hg hst ((One.set w g o x).trans (One.set _ g (o + 1) y)) hk hb2 (hf _ hk) (hA _)
end
end Go.Proofs.Yteikhnmmkanndaa
