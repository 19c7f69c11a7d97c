/- Laid together by prune.py out of the texts that the row needs: the declarations that its theorem uses. -/
import Derived.Test.YteikhnmmkanndaaXRatTells5
import Derived.Maps.AppendAt
namespace Go.Proofs.Yteikhnmmkanndaa
open Go.RowKit Go.Proofs.YteikhnmmkanndaaW.PrintWords
set_option linter.unusedSimpArgs false
set_option linter.unusedVariables false
theorem RF.fst {w : World} {A B : Option Addr} {p c q e n d : Nat} (h : RF w (.agg #[.slice A p c, .slice B q e]) n d) : R256 w (.slice A p c) n := by
  obtain ⟨_, _, _, _, _, _, hv, h1, _⟩ := h
  cases hv
  exact h1
theorem RF.snd {w : World} {A B : Option Addr} {p c q e n d : Nat} (h : RF w (.agg #[.slice A p c, .slice B q e]) n d) : R256 w (.slice B q e) d := by
  obtain ⟨_, _, _, _, _, _, hv, _, h2⟩ := h
  cases hv
  exact h2
theorem RF.of {w : World} {v u : Value} {n d : Nat} (h1 : R256 w v n) (h2 : R256 w u d) : ∃ A p c B q e, v = .slice A p c ∧ u = .slice B q e ∧ RF w (.agg #[.slice A p c, .slice B q e]) n d := by
  have h1' := h1
  have h2' := h2
  obtain ⟨A, c, rfl, _, _⟩ := h1
  obtain ⟨B, e, rfl, _, _⟩ := h2
  exact ⟨_, _, _, _, _, _, rfl, rfl, _, _, _, _, _, _, rfl, h1', h2'⟩
theorem R256.one {w : World} {g : Nat} {t : TypeId} (h : Blk w g t #[.int .i64 1]) : R256 w (.slice (some ⟨g, 0, none⟩) 1 1) 1 := by
  unfold R256
  rw [cs1]
  refine ⟨some ⟨g, 0, none⟩, 1, rfl, Nat.le_refl _, ?_⟩
  intro W' hW
  refine Kd.C_of_reads (d := 0) ⟨rfl, by decide, fun h0 => ⟨⟨g, 0, none⟩, rfl, fun j hj => ?_⟩⟩
  have hj0 : j = 0 := by
    have : ([1] : List Int).length = 1 := rfl
    omega
  subst hj0
  have hb : Blk W' g t #[.int .i64 1] := (hW g trivial h.lt).trans h
  exact hb.cell 0
theorem len_R256 {w : World} {A : Option Addr} {n c x : Nat} (h : R256 w (.slice A n c) x) : n = wl 8 x := by
  obtain ⟨A', c', hv, _, _⟩ := h
  cases hv
  exact cs_len 8 x
set_option maxRecDepth 100000 in
set_option maxHeartbeats 4000000 in
theorem xof_any (va vb : Value) (n d : Nat) (w : World) (ha : R256 w va n) (hb : R256 w vb d) (hn : wl 8 n ≤ 400000000) (hd : wl 8 d ≤ 400000000) (h0 : 0 < d) : Calls Try.prog 112 #[va, vb] w (MkR w (rn n d) (rd n d)) := by
  have HA := Lib.hid ha
  have HB := Lib.hid hb
  have hla := ha
  obtain ⟨A, ca, rfl, _, _⟩ := ha
  obtain ⟨B, cb, rfl, _, _⟩ := hb
  have hl := len_R256 hla
  clear hla
  have hg0 : 0 < Nat.gcd n d := Nat.gcd_pos_of_pos_right n h0
  have HRN : Hid (n / Nat.gcd n d = rn n d) := Lib.hid rfl
  have HRD : Hid (d / Nat.gcd n d = rd n d) := Lib.hid rfl
  have HZ1 := Lib.hid (rd_zero h0)
  have hgd : wl 8 (Nat.gcd n d) ≤ 400000000 := Nat.le_trans (wl_mono (by decide) (Nat.gcd_le_right n h0)) hd
  have HG := Lib.hid (fun W va vb (h1 : R256 W va n) (h2 : R256 W vb d) => rgcd_any h1 h2 (by omega) (by omega))
  have HD1 := Lib.hid (fun W va vb (h1 : R256 W va n) (h2 : R256 W vb (Nat.gcd n d)) => rdiv_any h1 h2 (by omega) (by omega) hg0)
  have HD2 := Lib.hid (fun W va vb (h1 : R256 W va d) (h2 : R256 W vb (Nat.gcd n d)) => rdiv_any h1 h2 (by omega) (by omega) hg0)
  obtain ⟨g, hg⟩ : ∃ g, Nat.gcd n d = g := ⟨_, rfl⟩
  rw [hg] at HG HD1 HD2 HRN HRD
  clear hn hd hg hgd hg0 h0
  obtain ⟨la, hla⟩ : ∃ k, (cs 8 n).length = k := ⟨_, rfl⟩
  rw [hla] at HA hl ⊢
  by_cases hz : la = 0
  · have hn0 : n = 0 := by have := (wl_eq_zero (k := 8) (by decide) (x := n)).1; omega
    have HN0 := Lib.hid hn0
    have hd1 : ((la : Int) == 0) = true := beq_iff_eq.2 (by omega)
    clear hn0 hl hz hla
    have e0 := Blk.new (w) 52 #[(.slice none 0 0), (.slice none 0 0)]
    have hb := cba (Below.refl _ w) (.cells #[(.slice none 0 0), (.slice none 0 0)] 52)
    have hsz : w.heap.size ≤ w.heap.size := Nat.le_refl _
    go_enter Try.func112, Try.ntmps112
    go_upto_region 1 with (fail)
    obtain ⟨S, hS⟩ : ∃ S, (w).alloc (.cells #[(.slice none 0 0), (.slice none 0 0)] 52) = S := ⟨_, rfl⟩
    rw [hS] at e0 hb ⊢
    replace HA := Lib.hid (HA.out.below hb)
    replace HB := Lib.hid (HB.out.below hb)
    have HB0 := Lib.hid hb
    have E0 := Lib.hid e0
    clear hS hb hsz e0
    have k_E0_0 := E0.out.cell 0
    have k_E0_1 := E0.out.cell 1
    go_wp2_with fail
    with_reducible refine (HG.out _ _ _ HA.out HB.out).mono ?_
    rintro e w2 ⟨u, rfl, hu, hb⟩
    clear k_E0_0 k_E0_1
    replace HA := Lib.hid (HA.out.below hb)
    replace HB := Lib.hid (HB.out.below hb)
    replace E0 := Lib.hid (blk_below E0.out hb)
    replace HB0 := Lib.hid (cbt HB0.out hb)
    have NG := Lib.hid hu
    clear hb hu
    have k_E0_0 := E0.out.cell 0
    have k_E0_1 := E0.out.cell 1
    have f0 := E0.out.frozen 0
    have f1 := E0.out.frozen 1
    have hlt := E0.out.lt
    have hne : w.heap.size ≠ w2.heap.size := by omega
    have g0 := (E0.out.alloc (.cells #[.int .i64 1] 3)).frozen 0
    have g1 := (E0.out.alloc (.cells #[.int .i64 1] 3)).frozen 1
    have c0 := (E0.out.alloc (.cells #[.int .i64 1] 3)).cell 0
    have c1 := (E0.out.alloc (.cells #[.int .i64 1] 3)).cell 1
    have b1 := (E0.out.set_ 0 (.slice none 0 0)).set_ 1 (.slice (some ⟨w2.heap.size, 0, none⟩) 1 1)
    have b2 := b1.alloc (.cells #[.int .i64 1] 3)
    have b3 := Blk.new ((w2.setCell ⟨w.heap.size, 0, none⟩ (.slice none 0 0)).setCell ⟨w.heap.size, 1, none⟩ (.slice (some ⟨w2.heap.size, 0, none⟩) 1 1)) 3 #[.int .i64 1]
    have hs : ((w2.setCell ⟨w.heap.size, 0, none⟩ (.slice none 0 0)).setCell ⟨w.heap.size, 1, none⟩ (.slice (some ⟨w2.heap.size, 0, none⟩) 1 1)).heap.size = w2.heap.size := by simp
    rw [hs] at b3
    have k0 := b2.cell 0
    have k1 := b2.cell 1
    have HX := Lib.hid (show MkR w (rn n d) (rd n d) (.returned (.agg #[.slice none 0 0, .slice (some ⟨w2.heap.size, 0, none⟩) 1 1])) (((w2.setCell ⟨w.heap.size, 0, none⟩ (.slice none 0 0)).setCell ⟨w.heap.size, 1, none⟩ (.slice (some ⟨w2.heap.size, 0, none⟩) 1 1)).alloc (.cells #[.int .i64 1] 3)) from by
      rw [HN0.out, rn_zero, HZ1.out]
      exact ⟨_, rfl, ⟨_, _, _, _, _, _, rfl, R256.zero _, R256.one b3⟩, ((HB0.out.setCell (p := ⟨w.heap.size, 0, none⟩) (Nat.le_refl _) _).setCell (p := ⟨w.heap.size, 1, none⟩) (Nat.le_refl _) _).alloc (by simpa using HB0.out.size) _⟩)
    clear b1 b2 b3 hs
    go_wp2_with fail
    exact bodyPost_ret (v := .agg #[.slice none 0 0, .slice (some ⟨w2.heap.size, 0, none⟩) 1 1]) (by simp [results, Try.results112, go_sem, hlt, k_E0_0, k_E0_1]) rfl HX.out
  · have hd1 : ((la : Int) == 0) = false := beq_eq_false_iff_ne.2 (by omega)
    clear HZ1 hl hz hla
    have e0 := Blk.new (w) 52 #[(.slice none 0 0), (.slice none 0 0)]
    have hb := cba (Below.refl _ w) (.cells #[(.slice none 0 0), (.slice none 0 0)] 52)
    have hsz : w.heap.size ≤ w.heap.size := Nat.le_refl _
    go_enter Try.func112, Try.ntmps112
    go_upto_region 1 with (fail)
    obtain ⟨S, hS⟩ : ∃ S, (w).alloc (.cells #[(.slice none 0 0), (.slice none 0 0)] 52) = S := ⟨_, rfl⟩
    rw [hS] at e0 hb ⊢
    replace HA := Lib.hid (HA.out.below hb)
    replace HB := Lib.hid (HB.out.below hb)
    have HB0 := Lib.hid hb
    have E0 := Lib.hid e0
    clear hS hb hsz e0
    have k_E0_0 := E0.out.cell 0
    have k_E0_1 := E0.out.cell 1
    go_wp2_with fail
    with_reducible refine (HG.out _ _ _ HA.out HB.out).mono ?_
    rintro e w2 ⟨u, rfl, hu, hb⟩
    clear k_E0_0 k_E0_1
    replace HA := Lib.hid (HA.out.below hb)
    replace HB := Lib.hid (HB.out.below hb)
    replace E0 := Lib.hid (blk_below E0.out hb)
    replace HB0 := Lib.hid (cbt HB0.out hb)
    have NG := Lib.hid hu
    clear hb hu
    have k_E0_0 := E0.out.cell 0
    have k_E0_1 := E0.out.cell 1
    go_wp2_with fail
    with_reducible refine (HD1.out _ _ _ HA.out NG.out).mono ?_
    rintro e w3 ⟨u, r, rfl, hq, hr, hb⟩
    clear k_E0_0 k_E0_1
    replace HA := Lib.hid (HA.out.below hb)
    replace HB := Lib.hid (HB.out.below hb)
    replace NG := Lib.hid (NG.out.below hb)
    replace E0 := Lib.hid (blk_below E0.out hb)
    replace HB0 := Lib.hid (cbt HB0.out hb)
    have NN := Lib.hid hq
    clear hb hq hr
    have k_E0_0 := E0.out.cell 0
    have k_E0_1 := E0.out.cell 1
    go_wp2_with fail
    with_reducible refine (HD2.out _ _ _ HB.out NG.out).mono ?_
    rintro e w4 ⟨u', r', rfl, hq, hr, hb⟩
    clear k_E0_0 k_E0_1
    replace HA := Lib.hid (HA.out.below hb)
    replace HB := Lib.hid (HB.out.below hb)
    replace NG := Lib.hid (NG.out.below hb)
    replace NN := Lib.hid (NN.out.below hb)
    replace E0 := Lib.hid (blk_below E0.out hb)
    replace HB0 := Lib.hid (cbt HB0.out hb)
    have ND := Lib.hid hq
    clear hb hq hr
    have k_E0_0 := E0.out.cell 0
    have k_E0_1 := E0.out.cell 1
    obtain ⟨A1, p1, c1, B1, q1, e1, rfl, rfl, hX⟩ := RF.of NN.out ND.out
    rw [HRN.out, HRD.out] at hX
    have HXX := Lib.hid hX
    clear hX
    have f0 := E0.out.frozen 0
    have f1 := E0.out.frozen 1
    have HX := Lib.hid (show MkR w (rn n d) (rd n d) (.returned (.agg #[.slice A1 p1 c1, .slice B1 q1 e1])) ((w4.setCell ⟨w.heap.size, 0, none⟩ (.slice A1 p1 c1)).setCell ⟨w.heap.size, 1, none⟩ (.slice B1 q1 e1)) from
      ⟨_, rfl, (HXX.out.keep (Keep.set E0.out 0 rfl _)).keep (Keep.set (E0.out.set_ 0 _) 1 rfl _), (HB0.out.setCell (p := ⟨w.heap.size, 0, none⟩) (Nat.le_refl _) _).setCell (p := ⟨w.heap.size, 1, none⟩) (Nat.le_refl _) _⟩)
    go_wp2
    exact bodyPost_ret (v := .agg #[.slice A1 p1 c1, .slice B1 q1 e1]) (by simp [results, Try.results112, go_sem, k_E0_0, k_E0_1]) rfl HX.out
set_option maxRecDepth 100000 in
set_option maxHeartbeats 4000000 in
theorem xmul_any (va vb : Value) (n d m e : Nat) (w : World) (ha : RF w va n d) (hb : RF w vb m e) (hn : wl 8 n ≤ 100000000) (hd : wl 8 d ≤ 100000000) (hm : wl 8 m ≤ 100000000) (he : wl 8 e ≤ 100000000) (hd0 : 0 < d) (he0 : 0 < e) : Calls Try.prog 77 #[va, vb] w (MkR w (rn (n * m) (d * e)) (rd (n * m) (d * e))) := by
  have Ha := Lib.hid ha
  obtain ⟨Pa, pa, ca, Qa, qa, ea, rfl, _, _⟩ := ha
  have Hb := Lib.hid hb
  obtain ⟨Pb, pb, cb, Qb, qb, eb, rfl, _, _⟩ := hb
  have hm1 := wl_mul_le (k := 8) (x := n) (y := m) (by decide) hn hm
  have HM1 := Lib.hid (fun W va vb (h1 : R256 W va (n)) (h2 : R256 W vb (m)) => rmul_any h1 h2 (by omega) (by omega))
  have hm2 := wl_mul_le (k := 8) (x := d) (y := e) (by decide) hd he
  have HM2 := Lib.hid (fun W va vb (h1 : R256 W va (d)) (h2 : R256 W vb (e)) => rmul_any h1 h2 (by omega) (by omega))
  have HMA := Lib.hid (fun va vb W h1 h2 => xof_any va vb (n * m) (d * e) W h1 h2 (by omega) (by omega) (Nat.mul_pos hd0 he0))
  clear hm1 hm2 hd0 he0
  clear hn hd hm he
  have e0 := ((Blk.new (w) 52 #[(.slice Pa pa ca), (.slice Qa qa ea)]).alloc (.cells #[(.slice Pb pb cb), (.slice Qb qb eb)] 52)).alloc (.cells #[(.slice none 0 0), (.slice none 0 0)] 52)
  have e1 := (Blk.new ((w).alloc (.cells #[(.slice Pa pa ca), (.slice Qa qa ea)] 52)) 52 #[(.slice Pb pb cb), (.slice Qb qb eb)]).alloc (.cells #[(.slice none 0 0), (.slice none 0 0)] 52)
  have e2 := Blk.new (((w).alloc (.cells #[(.slice Pa pa ca), (.slice Qa qa ea)] 52)).alloc (.cells #[(.slice Pb pb cb), (.slice Qb qb eb)] 52)) 52 #[(.slice none 0 0), (.slice none 0 0)]
  have hb := cba (cba (cba (Below.refl _ w) (.cells #[(.slice Pa pa ca), (.slice Qa qa ea)] 52)) (.cells #[(.slice Pb pb cb), (.slice Qb qb eb)] 52)) (.cells #[(.slice none 0 0), (.slice none 0 0)] 52)
  simp only [World.size_alloc] at e1 e2
  have hsz : w.heap.size ≤ w.heap.size := Nat.le_refl _
  go_enter Try.func77, Try.ntmps77
  go_upto_region 1 with (fail)
  obtain ⟨S, hS⟩ : ∃ S, (((w).alloc (.cells #[(.slice Pa pa ca), (.slice Qa qa ea)] 52)).alloc (.cells #[(.slice Pb pb cb), (.slice Qb qb eb)] 52)).alloc (.cells #[(.slice none 0 0), (.slice none 0 0)] 52) = S := ⟨_, rfl⟩
  rw [hS] at e0 e1 e2 hb ⊢
  replace Ha := Lib.hid (Ha.out.below hb)
  replace Hb := Lib.hid (Hb.out.below hb)
  have HB0 := Lib.hid hb
  have E0 := Lib.hid e0
  have E1 := Lib.hid e1
  have E2 := Lib.hid e2
  clear hS hb hsz e0 e1 e2
  have Ha0 := Lib.hid (RF.fst Ha.out)
  have Ha1 := Lib.hid (RF.snd Ha.out)
  have Hb0 := Lib.hid (RF.fst Hb.out)
  have Hb1 := Lib.hid (RF.snd Hb.out)
  go_wp2_with fail
  let FS : List Kept1 := [.eq (.pointer (some ⟨w.heap.size, 0, none⟩)), .r (n), .eq (.pointer (some ⟨w.heap.size + 1, 0, none⟩)), .r (m), .r (n * m), .eq (.pointer (some ⟨w.heap.size, 1, none⟩)), .r (d), .eq (.pointer (some ⟨w.heap.size + 1, 1, none⟩)), .r (e), .r (d * e), .rf (rn (n * m) (d * e)) (rd (n * m) (d * e)), .any]
  let BS : List Bx := [Bx.ref (.inr (w.heap.size + 1 + 1)) 11 #[(.slice none 0 0), (.slice none 0 0)] (rn (n * m) (d * e)) (rd (n * m) (d * e))]
  refine region_mono (Held S (fun j => FS.getD j .any) BS) (by kernel_rfl) (by kernel_rfl) (by kernel_rfl) (Held.start _ _ _ (by simp [BS, Bx.nat, Bx.rat, Bx.ref] <;> exact E2.out) (by simp [BS, Bx.nat, Bx.rat, Bx.ref])) ?_
  refine Steps.held ?_ ?_
  · intro L v w' hJ
    go_wp2_with fail
    exact ⟨rfl, rfl, hJ.out.same (by rfl) (rfl)⟩
  simp only [Act.put, List.setIfInBounds_toArray, List.set_cons_zero, List.set_cons_succ, Nat.reduceAdd]
  refine Steps.held ?_ ?_
  · intro L v w' hJ
    have hv0 : v 0 = .pointer (some ⟨w.heap.size, 0, none⟩) := hJ.out.fact 0 (by kernel_rfl)
    simp only [hv0]
    clear hv0
    have kb := hJ.out.blk E0.out (by simp [oldsOf, BS, Bx.nat, Bx.rat, Bx.ref] <;> omega)
    have k0 := kb.cell 0
    have k1 := kb.cell 1
    clear kb
    go_wp2_with fail
    exact ⟨rfl, rfl, hJ.out.same (by rfl) (Ha0.out.keep hJ.out.held.keep)⟩
  simp only [Act.put, List.setIfInBounds_toArray, List.set_cons_zero, List.set_cons_succ, Nat.reduceAdd]
  refine Steps.held ?_ ?_
  · intro L v w' hJ
    go_wp2_with fail
    exact ⟨rfl, rfl, hJ.out.same (by rfl) (rfl)⟩
  simp only [Act.put, List.setIfInBounds_toArray, List.set_cons_zero, List.set_cons_succ, Nat.reduceAdd]
  refine Steps.held ?_ ?_
  · intro L v w' hJ
    have hv2 : v 2 = .pointer (some ⟨w.heap.size + 1, 0, none⟩) := hJ.out.fact 2 (by kernel_rfl)
    simp only [hv2]
    clear hv2
    have kb := hJ.out.blk E1.out (by simp [oldsOf, BS, Bx.nat, Bx.rat, Bx.ref] <;> omega)
    have k0 := kb.cell 0
    have k1 := kb.cell 1
    clear kb
    go_wp2_with fail
    exact ⟨rfl, rfl, hJ.out.same (by rfl) (Hb0.out.keep hJ.out.held.keep)⟩
  simp only [Act.put, List.setIfInBounds_toArray, List.set_cons_zero, List.set_cons_succ, Nat.reduceAdd]
  refine Steps.held ?_ ?_
  · intro L v w' hJ
    have X0 := Lib.hid (show R256 w' (v 1) (n) from hJ.out.fact 1 (by kernel_rfl))
    have X1 := Lib.hid (show R256 w' (v 3) (m) from hJ.out.fact 3 (by kernel_rfl))
    go_wp2_with fail
    with_reducible refine (HM1.out _ _ _ X0.out X1.out).mono ?_
    rintro e w1 ⟨u, rfl, hu, hb⟩
    go_wp2_with fail
    exact ⟨rfl, rfl, hJ.out.call (by rfl) hb (hu)⟩
  simp only [Act.put, List.setIfInBounds_toArray, List.set_cons_zero, List.set_cons_succ, Nat.reduceAdd]
  refine Steps.held ?_ ?_
  · intro L v w' hJ
    go_wp2_with fail
    exact ⟨rfl, rfl, hJ.out.same (by rfl) (rfl)⟩
  simp only [Act.put, List.setIfInBounds_toArray, List.set_cons_zero, List.set_cons_succ, Nat.reduceAdd]
  refine Steps.held ?_ ?_
  · intro L v w' hJ
    have hv5 : v 5 = .pointer (some ⟨w.heap.size, 1, none⟩) := hJ.out.fact 5 (by kernel_rfl)
    simp only [hv5]
    clear hv5
    have kb := hJ.out.blk E0.out (by simp [oldsOf, BS, Bx.nat, Bx.rat, Bx.ref] <;> omega)
    have k0 := kb.cell 0
    have k1 := kb.cell 1
    clear kb
    go_wp2_with fail
    exact ⟨rfl, rfl, hJ.out.same (by rfl) (Ha1.out.keep hJ.out.held.keep)⟩
  simp only [Act.put, List.setIfInBounds_toArray, List.set_cons_zero, List.set_cons_succ, Nat.reduceAdd]
  refine Steps.held ?_ ?_
  · intro L v w' hJ
    go_wp2_with fail
    exact ⟨rfl, rfl, hJ.out.same (by rfl) (rfl)⟩
  simp only [Act.put, List.setIfInBounds_toArray, List.set_cons_zero, List.set_cons_succ, Nat.reduceAdd]
  refine Steps.held ?_ ?_
  · intro L v w' hJ
    have hv7 : v 7 = .pointer (some ⟨w.heap.size + 1, 1, none⟩) := hJ.out.fact 7 (by kernel_rfl)
    simp only [hv7]
    clear hv7
    have kb := hJ.out.blk E1.out (by simp [oldsOf, BS, Bx.nat, Bx.rat, Bx.ref] <;> omega)
    have k0 := kb.cell 0
    have k1 := kb.cell 1
    clear kb
    go_wp2_with fail
    exact ⟨rfl, rfl, hJ.out.same (by rfl) (Hb1.out.keep hJ.out.held.keep)⟩
  simp only [Act.put, List.setIfInBounds_toArray, List.set_cons_zero, List.set_cons_succ, Nat.reduceAdd]
  refine Steps.held ?_ ?_
  · intro L v w' hJ
    have X0 := Lib.hid (show R256 w' (v 6) (d) from hJ.out.fact 6 (by kernel_rfl))
    have X1 := Lib.hid (show R256 w' (v 8) (e) from hJ.out.fact 8 (by kernel_rfl))
    go_wp2_with fail
    with_reducible refine (HM2.out _ _ _ X0.out X1.out).mono ?_
    rintro e w1 ⟨u, rfl, hu, hb⟩
    go_wp2_with fail
    exact ⟨rfl, rfl, hJ.out.call (by rfl) hb (hu)⟩
  simp only [Act.put, List.setIfInBounds_toArray, List.set_cons_zero, List.set_cons_succ, Nat.reduceAdd]
  refine Steps.held ?_ ?_
  · intro L v w' hJ
    have X0 := Lib.hid (show R256 w' (v 4) (n * m) from hJ.out.fact 4 (by kernel_rfl))
    have X1 := Lib.hid (show R256 w' (v 9) (d * e) from hJ.out.fact 9 (by kernel_rfl))
    go_wp2_with fail
    with_reducible refine (HMA.out _ _ _ X0.out X1.out).mono ?_
    rintro e w1 ⟨u, rfl, hu, hb⟩
    go_wp2_with fail
    exact ⟨rfl, rfl, hJ.out.call (by rfl) hb (hu)⟩
  simp only [Act.put, List.setIfInBounds_toArray, List.set_cons_zero, List.set_cons_succ, Nat.reduceAdd]
  refine Steps.held ?_ ?_
  · intro L v w' hJ
    obtain ⟨hown, hst⟩ := hJ.out.oldbox 0 _ rfl (w.heap.size + 1 + 1) rfl
    have hN : RF w' (v 10) (rn (n * m) (d * e)) (rd (n * m) (d * e)) := hJ.out.fact 10 (by kernel_rfl)
    obtain ⟨A1, p1, c1, B1, q1, e1, hv, h1, h2⟩ := hN
    have HN := Lib.hid (show RF w' (.agg #[.slice A1 p1 c1, .slice B1 q1 e1]) (rn (n * m) (d * e)) (rd (n * m) (d * e)) from ⟨A1, p1, c1, B1, q1, e1, rfl, h1, h2⟩)
    have kb := hJ.out.box 0 _ rfl rfl (w.heap.size + 1 + 1) hown
    have k0 : w'.cell? ⟨(w.heap.size + 1 + 1), 0, none⟩ = some ((.slice none 0 0)) := kb.cell 0
    have k1 : w'.cell? ⟨(w.heap.size + 1 + 1), 1, none⟩ = some ((.slice none 0 0)) := kb.cell 1
    have f0 := kb.frozen 0
    have f1 := kb.frozen 1
    have HO := Lib.hid hown
    have HS := Lib.hid hst
    clear kb h1 h2 hown hst
    simp only [hv]
    clear hv
    go_wp2_with fail
    exact ⟨rfl, rfl, hJ.out.fill2 0 _ rfl rfl (by rfl) (w.heap.size + 1 + 1) HO.out HS.out _ _ rfl rfl rfl (fun W k => HN.out.keep k) (fun _ => trivial)⟩
  simp only [Act.put, List.setIfInBounds_toArray, List.set_cons_zero, List.set_cons_succ, Nat.reduceAdd]
  refine Steps.nil ?_
  intro v w' hJ
  obtain ⟨cs, hblk, hf⟩ := hJ.end_old 0 _ rfl (w.heap.size + 1 + 1) rfl (Nat.le_of_ble_eq_true rfl)
  have hf' : RF w' (.agg cs) (rn (n * m) (d * e)) (rd (n * m) (d * e)) := hf
  obtain ⟨A1, p1, c1, B1, q1, e1, hcs, h1, h2⟩ := hf'
  have hcs' := Value.agg.inj hcs
  subst hcs'
  have k0 := hblk.cell 0
  have k1 := hblk.cell 1
  have hbw : Below w.heap.size w w' := hJ.but.to_below HB0.out HB0.out.size (by intro g hg; simp [oldsOf, BS, Bx.nat, Bx.rat, Bx.ref] at hg; subst hg; omega)
  have HX := Lib.hid (show MkR w (rn (n * m) (d * e)) (rd (n * m) (d * e)) (.returned (.agg #[.slice A1 p1 c1, .slice B1 q1 e1])) w' from ⟨_, rfl, ⟨A1, p1, c1, B1, q1, e1, rfl, h1, h2⟩, hbw⟩)
  clear hJ h1 h2 hbw hblk hcs hf
  go_wp2_with fail
  exact bodyPost_ret (v := .agg #[.slice A1 p1 c1, .slice B1 q1 e1]) (by simp [results, Try.results77, go_sem, k0, k1]) rfl HX.out
set_option maxRecDepth 100000 in
set_option maxHeartbeats 4000000 in
theorem xadd_any (va vb : Value) (n d m e : Nat) (w : World) (ha : RF w va n d) (hb : RF w vb m e) (hn : wl 8 n ≤ 100000000) (hd : wl 8 d ≤ 100000000) (hm : wl 8 m ≤ 100000000) (he : wl 8 e ≤ 100000000) (hd0 : 0 < d) (he0 : 0 < e) : Calls Try.prog 68 #[va, vb] w (MkR w (rn (n * e + m * d) (d * e)) (rd (n * e + m * d) (d * e))) := by
  have Ha := Lib.hid ha
  obtain ⟨Pa, pa, ca, Qa, qa, ea, rfl, _, _⟩ := ha
  have Hb := Lib.hid hb
  obtain ⟨Pb, pb, cb, Qb, qb, eb, rfl, _, _⟩ := hb
  have hm1 := wl_mul_le (k := 8) (x := n) (y := e) (by decide) hn he
  have HM1 := Lib.hid (fun W va vb (h1 : R256 W va (n)) (h2 : R256 W vb (e)) => rmul_any h1 h2 (by omega) (by omega))
  have hm2 := wl_mul_le (k := 8) (x := m) (y := d) (by decide) hm hd
  have HM2 := Lib.hid (fun W va vb (h1 : R256 W va (m)) (h2 : R256 W vb (d)) => rmul_any h1 h2 (by omega) (by omega))
  have hm3 := wl_mul_le (k := 8) (x := d) (y := e) (by decide) hd he
  have HM3 := Lib.hid (fun W va vb (h1 : R256 W va (d)) (h2 : R256 W vb (e)) => rmul_any h1 h2 (by omega) (by omega))
  have hsm := wl_add_le (k := 8) (x := n * e) (y := m * d) (a := 200000000) (by decide) (by omega) (by omega)
  have HAD := Lib.hid (fun W va vb (h1 : R256 W va (n * e)) (h2 : R256 W vb (m * d)) => radd_any h1 h2 (by omega) (by omega))
  have HMA := Lib.hid (fun va vb W h1 h2 => xof_any va vb (n * e + m * d) (d * e) W h1 h2 (by omega) (by omega) (Nat.mul_pos hd0 he0))
  clear hm1 hm2 hm3 hsm hd0 he0
  clear hn hd hm he
  have e0 := ((Blk.new (w) 52 #[(.slice Pa pa ca), (.slice Qa qa ea)]).alloc (.cells #[(.slice Pb pb cb), (.slice Qb qb eb)] 52)).alloc (.cells #[(.slice none 0 0), (.slice none 0 0)] 52)
  have e1 := (Blk.new ((w).alloc (.cells #[(.slice Pa pa ca), (.slice Qa qa ea)] 52)) 52 #[(.slice Pb pb cb), (.slice Qb qb eb)]).alloc (.cells #[(.slice none 0 0), (.slice none 0 0)] 52)
  have e2 := Blk.new (((w).alloc (.cells #[(.slice Pa pa ca), (.slice Qa qa ea)] 52)).alloc (.cells #[(.slice Pb pb cb), (.slice Qb qb eb)] 52)) 52 #[(.slice none 0 0), (.slice none 0 0)]
  have hb := cba (cba (cba (Below.refl _ w) (.cells #[(.slice Pa pa ca), (.slice Qa qa ea)] 52)) (.cells #[(.slice Pb pb cb), (.slice Qb qb eb)] 52)) (.cells #[(.slice none 0 0), (.slice none 0 0)] 52)
  simp only [World.size_alloc] at e1 e2
  have hsz : w.heap.size ≤ w.heap.size := Nat.le_refl _
  go_enter Try.func68, Try.ntmps68
  go_upto_region 1 with (fail)
  obtain ⟨S, hS⟩ : ∃ S, (((w).alloc (.cells #[(.slice Pa pa ca), (.slice Qa qa ea)] 52)).alloc (.cells #[(.slice Pb pb cb), (.slice Qb qb eb)] 52)).alloc (.cells #[(.slice none 0 0), (.slice none 0 0)] 52) = S := ⟨_, rfl⟩
  rw [hS] at e0 e1 e2 hb ⊢
  replace Ha := Lib.hid (Ha.out.below hb)
  replace Hb := Lib.hid (Hb.out.below hb)
  have HB0 := Lib.hid hb
  have E0 := Lib.hid e0
  have E1 := Lib.hid e1
  have E2 := Lib.hid e2
  clear hS hb hsz e0 e1 e2
  have Ha0 := Lib.hid (RF.fst Ha.out)
  have Ha1 := Lib.hid (RF.snd Ha.out)
  have Hb0 := Lib.hid (RF.fst Hb.out)
  have Hb1 := Lib.hid (RF.snd Hb.out)
  go_wp2_with fail
  let FS : List Kept1 := [.eq (.pointer (some ⟨w.heap.size, 0, none⟩)), .r (n), .eq (.pointer (some ⟨w.heap.size + 1, 1, none⟩)), .r (e), .r (n * e), .eq (.pointer (some ⟨w.heap.size + 1, 0, none⟩)), .r (m), .eq (.pointer (some ⟨w.heap.size, 1, none⟩)), .r (d), .r (m * d), .r (n * e + m * d), .eq (.pointer (some ⟨w.heap.size, 1, none⟩)), .r (d), .eq (.pointer (some ⟨w.heap.size + 1, 1, none⟩)), .r (e), .r (d * e), .rf (rn (n * e + m * d) (d * e)) (rd (n * e + m * d) (d * e)), .any]
  let BS : List Bx := [Bx.ref (.inr (w.heap.size + 1 + 1)) 17 #[(.slice none 0 0), (.slice none 0 0)] (rn (n * e + m * d) (d * e)) (rd (n * e + m * d) (d * e))]
  refine region_mono (Held S (fun j => FS.getD j .any) BS) (by kernel_rfl) (by kernel_rfl) (by kernel_rfl) (Held.start _ _ _ (by simp [BS, Bx.nat, Bx.rat, Bx.ref] <;> exact E2.out) (by simp [BS, Bx.nat, Bx.rat, Bx.ref])) ?_
  refine Steps.held ?_ ?_
  · intro L v w' hJ
    go_wp2_with fail
    exact ⟨rfl, rfl, hJ.out.same (by rfl) (rfl)⟩
  simp only [Act.put, List.setIfInBounds_toArray, List.set_cons_zero, List.set_cons_succ, Nat.reduceAdd]
  refine Steps.held ?_ ?_
  · intro L v w' hJ
    have hv0 : v 0 = .pointer (some ⟨w.heap.size, 0, none⟩) := hJ.out.fact 0 (by kernel_rfl)
    simp only [hv0]
    clear hv0
    have kb := hJ.out.blk E0.out (by simp [oldsOf, BS, Bx.nat, Bx.rat, Bx.ref] <;> omega)
    have k0 := kb.cell 0
    have k1 := kb.cell 1
    clear kb
    go_wp2_with fail
    exact ⟨rfl, rfl, hJ.out.same (by rfl) (Ha0.out.keep hJ.out.held.keep)⟩
  simp only [Act.put, List.setIfInBounds_toArray, List.set_cons_zero, List.set_cons_succ, Nat.reduceAdd]
  refine Steps.held ?_ ?_
  · intro L v w' hJ
    go_wp2_with fail
    exact ⟨rfl, rfl, hJ.out.same (by rfl) (rfl)⟩
  simp only [Act.put, List.setIfInBounds_toArray, List.set_cons_zero, List.set_cons_succ, Nat.reduceAdd]
  refine Steps.held ?_ ?_
  · intro L v w' hJ
    have hv2 : v 2 = .pointer (some ⟨w.heap.size + 1, 1, none⟩) := hJ.out.fact 2 (by kernel_rfl)
    simp only [hv2]
    clear hv2
    have kb := hJ.out.blk E1.out (by simp [oldsOf, BS, Bx.nat, Bx.rat, Bx.ref] <;> omega)
    have k0 := kb.cell 0
    have k1 := kb.cell 1
    clear kb
    go_wp2_with fail
    exact ⟨rfl, rfl, hJ.out.same (by rfl) (Hb1.out.keep hJ.out.held.keep)⟩
  simp only [Act.put, List.setIfInBounds_toArray, List.set_cons_zero, List.set_cons_succ, Nat.reduceAdd]
  refine Steps.held ?_ ?_
  · intro L v w' hJ
    have X0 := Lib.hid (show R256 w' (v 1) (n) from hJ.out.fact 1 (by kernel_rfl))
    have X1 := Lib.hid (show R256 w' (v 3) (e) from hJ.out.fact 3 (by kernel_rfl))
    go_wp2_with fail
    with_reducible refine (HM1.out _ _ _ X0.out X1.out).mono ?_
    rintro e w1 ⟨u, rfl, hu, hb⟩
    go_wp2_with fail
    exact ⟨rfl, rfl, hJ.out.call (by rfl) hb (hu)⟩
  simp only [Act.put, List.setIfInBounds_toArray, List.set_cons_zero, List.set_cons_succ, Nat.reduceAdd]
  refine Steps.held ?_ ?_
  · intro L v w' hJ
    go_wp2_with fail
    exact ⟨rfl, rfl, hJ.out.same (by rfl) (rfl)⟩
  simp only [Act.put, List.setIfInBounds_toArray, List.set_cons_zero, List.set_cons_succ, Nat.reduceAdd]
  refine Steps.held ?_ ?_
  · intro L v w' hJ
    have hv5 : v 5 = .pointer (some ⟨w.heap.size + 1, 0, none⟩) := hJ.out.fact 5 (by kernel_rfl)
    simp only [hv5]
    clear hv5
    have kb := hJ.out.blk E1.out (by simp [oldsOf, BS, Bx.nat, Bx.rat, Bx.ref] <;> omega)
    have k0 := kb.cell 0
    have k1 := kb.cell 1
    clear kb
    go_wp2_with fail
    exact ⟨rfl, rfl, hJ.out.same (by rfl) (Hb0.out.keep hJ.out.held.keep)⟩
  simp only [Act.put, List.setIfInBounds_toArray, List.set_cons_zero, List.set_cons_succ, Nat.reduceAdd]
  refine Steps.held ?_ ?_
  · intro L v w' hJ
    go_wp2_with fail
    exact ⟨rfl, rfl, hJ.out.same (by rfl) (rfl)⟩
  simp only [Act.put, List.setIfInBounds_toArray, List.set_cons_zero, List.set_cons_succ, Nat.reduceAdd]
  refine Steps.held ?_ ?_
  · intro L v w' hJ
    have hv7 : v 7 = .pointer (some ⟨w.heap.size, 1, none⟩) := hJ.out.fact 7 (by kernel_rfl)
    simp only [hv7]
    clear hv7
    have kb := hJ.out.blk E0.out (by simp [oldsOf, BS, Bx.nat, Bx.rat, Bx.ref] <;> omega)
    have k0 := kb.cell 0
    have k1 := kb.cell 1
    clear kb
    go_wp2_with fail
    exact ⟨rfl, rfl, hJ.out.same (by rfl) (Ha1.out.keep hJ.out.held.keep)⟩
  simp only [Act.put, List.setIfInBounds_toArray, List.set_cons_zero, List.set_cons_succ, Nat.reduceAdd]
  refine Steps.held ?_ ?_
  · intro L v w' hJ
    have X0 := Lib.hid (show R256 w' (v 6) (m) from hJ.out.fact 6 (by kernel_rfl))
    have X1 := Lib.hid (show R256 w' (v 8) (d) from hJ.out.fact 8 (by kernel_rfl))
    go_wp2_with fail
    with_reducible refine (HM2.out _ _ _ X0.out X1.out).mono ?_
    rintro e w1 ⟨u, rfl, hu, hb⟩
    go_wp2_with fail
    exact ⟨rfl, rfl, hJ.out.call (by rfl) hb (hu)⟩
  simp only [Act.put, List.setIfInBounds_toArray, List.set_cons_zero, List.set_cons_succ, Nat.reduceAdd]
  refine Steps.held ?_ ?_
  · intro L v w' hJ
    have X0 := Lib.hid (show R256 w' (v 4) (n * e) from hJ.out.fact 4 (by kernel_rfl))
    have X1 := Lib.hid (show R256 w' (v 9) (m * d) from hJ.out.fact 9 (by kernel_rfl))
    go_wp2_with fail
    with_reducible refine (HAD.out _ _ _ X0.out X1.out).mono ?_
    rintro e w1 ⟨u, rfl, hu, hb⟩
    go_wp2_with fail
    exact ⟨rfl, rfl, hJ.out.call (by rfl) hb (hu)⟩
  simp only [Act.put, List.setIfInBounds_toArray, List.set_cons_zero, List.set_cons_succ, Nat.reduceAdd]
  refine Steps.held ?_ ?_
  · intro L v w' hJ
    go_wp2_with fail
    exact ⟨rfl, rfl, hJ.out.same (by rfl) (rfl)⟩
  simp only [Act.put, List.setIfInBounds_toArray, List.set_cons_zero, List.set_cons_succ, Nat.reduceAdd]
  refine Steps.held ?_ ?_
  · intro L v w' hJ
    have hv11 : v 11 = .pointer (some ⟨w.heap.size, 1, none⟩) := hJ.out.fact 11 (by kernel_rfl)
    simp only [hv11]
    clear hv11
    have kb := hJ.out.blk E0.out (by simp [oldsOf, BS, Bx.nat, Bx.rat, Bx.ref] <;> omega)
    have k0 := kb.cell 0
    have k1 := kb.cell 1
    clear kb
    go_wp2_with fail
    exact ⟨rfl, rfl, hJ.out.same (by rfl) (Ha1.out.keep hJ.out.held.keep)⟩
  simp only [Act.put, List.setIfInBounds_toArray, List.set_cons_zero, List.set_cons_succ, Nat.reduceAdd]
  refine Steps.held ?_ ?_
  · intro L v w' hJ
    go_wp2_with fail
    exact ⟨rfl, rfl, hJ.out.same (by rfl) (rfl)⟩
  simp only [Act.put, List.setIfInBounds_toArray, List.set_cons_zero, List.set_cons_succ, Nat.reduceAdd]
  refine Steps.held ?_ ?_
  · intro L v w' hJ
    have hv13 : v 13 = .pointer (some ⟨w.heap.size + 1, 1, none⟩) := hJ.out.fact 13 (by kernel_rfl)
    simp only [hv13]
    clear hv13
    have kb := hJ.out.blk E1.out (by simp [oldsOf, BS, Bx.nat, Bx.rat, Bx.ref] <;> omega)
    have k0 := kb.cell 0
    have k1 := kb.cell 1
    clear kb
    go_wp2_with fail
    exact ⟨rfl, rfl, hJ.out.same (by rfl) (Hb1.out.keep hJ.out.held.keep)⟩
  simp only [Act.put, List.setIfInBounds_toArray, List.set_cons_zero, List.set_cons_succ, Nat.reduceAdd]
  refine Steps.held ?_ ?_
  · intro L v w' hJ
    have X0 := Lib.hid (show R256 w' (v 12) (d) from hJ.out.fact 12 (by kernel_rfl))
    have X1 := Lib.hid (show R256 w' (v 14) (e) from hJ.out.fact 14 (by kernel_rfl))
    go_wp2_with fail
    with_reducible refine (HM3.out _ _ _ X0.out X1.out).mono ?_
    rintro e w1 ⟨u, rfl, hu, hb⟩
    go_wp2_with fail
    exact ⟨rfl, rfl, hJ.out.call (by rfl) hb (hu)⟩
  simp only [Act.put, List.setIfInBounds_toArray, List.set_cons_zero, List.set_cons_succ, Nat.reduceAdd]
  refine Steps.held ?_ ?_
  · intro L v w' hJ
    have X0 := Lib.hid (show R256 w' (v 10) (n * e + m * d) from hJ.out.fact 10 (by kernel_rfl))
    have X1 := Lib.hid (show R256 w' (v 15) (d * e) from hJ.out.fact 15 (by kernel_rfl))
    go_wp2_with fail
    with_reducible refine (HMA.out _ _ _ X0.out X1.out).mono ?_
    rintro e w1 ⟨u, rfl, hu, hb⟩
    go_wp2_with fail
    exact ⟨rfl, rfl, hJ.out.call (by rfl) hb (hu)⟩
  simp only [Act.put, List.setIfInBounds_toArray, List.set_cons_zero, List.set_cons_succ, Nat.reduceAdd]
  refine Steps.held ?_ ?_
  · intro L v w' hJ
    obtain ⟨hown, hst⟩ := hJ.out.oldbox 0 _ rfl (w.heap.size + 1 + 1) rfl
    have hN : RF w' (v 16) (rn (n * e + m * d) (d * e)) (rd (n * e + m * d) (d * e)) := hJ.out.fact 16 (by kernel_rfl)
    obtain ⟨A1, p1, c1, B1, q1, e1, hv, h1, h2⟩ := hN
    have HN := Lib.hid (show RF w' (.agg #[.slice A1 p1 c1, .slice B1 q1 e1]) (rn (n * e + m * d) (d * e)) (rd (n * e + m * d) (d * e)) from ⟨A1, p1, c1, B1, q1, e1, rfl, h1, h2⟩)
    have kb := hJ.out.box 0 _ rfl rfl (w.heap.size + 1 + 1) hown
    have k0 : w'.cell? ⟨(w.heap.size + 1 + 1), 0, none⟩ = some ((.slice none 0 0)) := kb.cell 0
    have k1 : w'.cell? ⟨(w.heap.size + 1 + 1), 1, none⟩ = some ((.slice none 0 0)) := kb.cell 1
    have f0 := kb.frozen 0
    have f1 := kb.frozen 1
    have HO := Lib.hid hown
    have HS := Lib.hid hst
    clear kb h1 h2 hown hst
    simp only [hv]
    clear hv
    go_wp2_with fail
    exact ⟨rfl, rfl, hJ.out.fill2 0 _ rfl rfl (by rfl) (w.heap.size + 1 + 1) HO.out HS.out _ _ rfl rfl rfl (fun W k => HN.out.keep k) (fun _ => trivial)⟩
  simp only [Act.put, List.setIfInBounds_toArray, List.set_cons_zero, List.set_cons_succ, Nat.reduceAdd]
  refine Steps.nil ?_
  intro v w' hJ
  obtain ⟨cs, hblk, hf⟩ := hJ.end_old 0 _ rfl (w.heap.size + 1 + 1) rfl (Nat.le_of_ble_eq_true rfl)
  have hf' : RF w' (.agg cs) (rn (n * e + m * d) (d * e)) (rd (n * e + m * d) (d * e)) := hf
  obtain ⟨A1, p1, c1, B1, q1, e1, hcs, h1, h2⟩ := hf'
  have hcs' := Value.agg.inj hcs
  subst hcs'
  have k0 := hblk.cell 0
  have k1 := hblk.cell 1
  have hbw : Below w.heap.size w w' := hJ.but.to_below HB0.out HB0.out.size (by intro g hg; simp [oldsOf, BS, Bx.nat, Bx.rat, Bx.ref] at hg; subst hg; omega)
  have HX := Lib.hid (show MkR w (rn (n * e + m * d) (d * e)) (rd (n * e + m * d) (d * e)) (.returned (.agg #[.slice A1 p1 c1, .slice B1 q1 e1])) w' from ⟨_, rfl, ⟨A1, p1, c1, B1, q1, e1, rfl, h1, h2⟩, hbw⟩)
  clear hJ h1 h2 hbw hblk hcs hf
  go_wp2_with fail
  exact bodyPost_ret (v := .agg #[.slice A1 p1 c1, .slice B1 q1 e1]) (by simp [results, Try.results68, go_sem, k0, k1]) rfl HX.out
set_option maxRecDepth 100000 in
set_option maxHeartbeats 4000000 in
theorem xcmp_any (va vb : Value) (n d m e : Nat) (w : World) (ha : RF w va n d) (hb : RF w vb m e) (hn : wl 8 n ≤ 100000000) (hd : wl 8 d ≤ 100000000) (hm : wl 8 m ≤ 100000000) (he : wl 8 e ≤ 100000000) : Calls Try.prog 76 #[va, vb] w fun x w' => x = .returned (.int .i64 (cmpN (n * e) (m * d))) ∧ Below w.heap.size w w' := by
  have Ha := Lib.hid ha
  obtain ⟨Pa, pa, ca, Qa, qa, ea, rfl, _, _⟩ := ha
  have Hb := Lib.hid hb
  obtain ⟨Pb, pb, cb, Qb, qb, eb, rfl, _, _⟩ := hb
  have hm1 := wl_mul_le (k := 8) (x := n) (y := e) (by decide) hn he
  have HM1 := Lib.hid (fun W va vb (h1 : R256 W va (n)) (h2 : R256 W vb (e)) => rmul_any h1 h2 (by omega) (by omega))
  have hm2 := wl_mul_le (k := 8) (x := m) (y := d) (by decide) hm hd
  have HM2 := Lib.hid (fun W va vb (h1 : R256 W va (m)) (h2 : R256 W vb (d)) => rmul_any h1 h2 (by omega) (by omega))
  have HCM := Lib.hid (fun W va vb (h1 : R256 W va (n * e)) (h2 : R256 W vb (m * d)) => rcmp_any h1 h2 (by omega))
  clear hn hd hm he hm1 hm2
  obtain ⟨cc, hcc⟩ : ∃ c, cmpN (n * e) (m * d) = c := ⟨_, rfl⟩
  rw [hcc] at HCM ⊢
  clear hcc
  have e0 := (Blk.new (w) 52 #[(.slice Pa pa ca), (.slice Qa qa ea)]).alloc (.cells #[(.slice Pb pb cb), (.slice Qb qb eb)] 52)
  have e1 := Blk.new ((w).alloc (.cells #[(.slice Pa pa ca), (.slice Qa qa ea)] 52)) 52 #[(.slice Pb pb cb), (.slice Qb qb eb)]
  have hb := cba (cba (Below.refl _ w) (.cells #[(.slice Pa pa ca), (.slice Qa qa ea)] 52)) (.cells #[(.slice Pb pb cb), (.slice Qb qb eb)] 52)
  simp only [World.size_alloc] at e1
  have hsz : w.heap.size ≤ w.heap.size := Nat.le_refl _
  go_enter Try.func76, Try.ntmps76
  go_upto_region 1 with (fail)
  obtain ⟨S, hS⟩ : ∃ S, ((w).alloc (.cells #[(.slice Pa pa ca), (.slice Qa qa ea)] 52)).alloc (.cells #[(.slice Pb pb cb), (.slice Qb qb eb)] 52) = S := ⟨_, rfl⟩
  rw [hS] at e0 e1 hb ⊢
  replace Ha := Lib.hid (Ha.out.below hb)
  replace Hb := Lib.hid (Hb.out.below hb)
  have HB0 := Lib.hid hb
  have E0 := Lib.hid e0
  have E1 := Lib.hid e1
  clear hS hb hsz e0 e1
  have Ha0 := Lib.hid (RF.fst Ha.out)
  have Ha1 := Lib.hid (RF.snd Ha.out)
  have Hb0 := Lib.hid (RF.fst Hb.out)
  have Hb1 := Lib.hid (RF.snd Hb.out)
  go_wp2_with fail
  let FS : List Kept1 := [.eq (.pointer (some ⟨w.heap.size, 0, none⟩)), .r (n), .eq (.pointer (some ⟨w.heap.size + 1, 1, none⟩)), .r (e), .r (n * e), .eq (.pointer (some ⟨w.heap.size + 1, 0, none⟩)), .r (m), .eq (.pointer (some ⟨w.heap.size, 1, none⟩)), .r (d), .r (m * d), .eq (.int .i64 cc), .eq (.int .i64 cc)]
  refine region_mono (Held S (fun j => FS.getD j .any) []) (by kernel_rfl) (by kernel_rfl) (by kernel_rfl) (Held.start _ _ _ (by simp) (by simp)) ?_
  refine Steps.held ?_ ?_
  · intro L v w' hJ
    go_wp2_with fail
    exact ⟨rfl, rfl, hJ.out.same (by rfl) (rfl)⟩
  simp only [Act.put, List.setIfInBounds_toArray, List.set_cons_zero, List.set_cons_succ, Nat.reduceAdd]
  refine Steps.held ?_ ?_
  · intro L v w' hJ
    have hv0 : v 0 = .pointer (some ⟨w.heap.size, 0, none⟩) := hJ.out.fact 0 (by kernel_rfl)
    simp only [hv0]
    clear hv0
    have kb := hJ.out.blk E0.out (by simp [oldsOf])
    have k0 := kb.cell 0
    have k1 := kb.cell 1
    clear kb
    go_wp2_with fail
    exact ⟨rfl, rfl, hJ.out.same (by rfl) (Ha0.out.keep hJ.out.held.keep)⟩
  simp only [Act.put, List.setIfInBounds_toArray, List.set_cons_zero, List.set_cons_succ, Nat.reduceAdd]
  refine Steps.held ?_ ?_
  · intro L v w' hJ
    go_wp2_with fail
    exact ⟨rfl, rfl, hJ.out.same (by rfl) (rfl)⟩
  simp only [Act.put, List.setIfInBounds_toArray, List.set_cons_zero, List.set_cons_succ, Nat.reduceAdd]
  refine Steps.held ?_ ?_
  · intro L v w' hJ
    have hv2 : v 2 = .pointer (some ⟨w.heap.size + 1, 1, none⟩) := hJ.out.fact 2 (by kernel_rfl)
    simp only [hv2]
    clear hv2
    have kb := hJ.out.blk E1.out (by simp [oldsOf])
    have k0 := kb.cell 0
    have k1 := kb.cell 1
    clear kb
    go_wp2_with fail
    exact ⟨rfl, rfl, hJ.out.same (by rfl) (Hb1.out.keep hJ.out.held.keep)⟩
  simp only [Act.put, List.setIfInBounds_toArray, List.set_cons_zero, List.set_cons_succ, Nat.reduceAdd]
  refine Steps.held ?_ ?_
  · intro L v w' hJ
    have X0 := Lib.hid (show R256 w' (v 1) (n) from hJ.out.fact 1 (by kernel_rfl))
    have X1 := Lib.hid (show R256 w' (v 3) (e) from hJ.out.fact 3 (by kernel_rfl))
    go_wp2_with fail
    with_reducible refine (HM1.out _ _ _ X0.out X1.out).mono ?_
    rintro e w1 ⟨u, rfl, hu, hb⟩
    go_wp2_with fail
    exact ⟨rfl, rfl, hJ.out.call (by rfl) hb (hu)⟩
  simp only [Act.put, List.setIfInBounds_toArray, List.set_cons_zero, List.set_cons_succ, Nat.reduceAdd]
  refine Steps.held ?_ ?_
  · intro L v w' hJ
    go_wp2_with fail
    exact ⟨rfl, rfl, hJ.out.same (by rfl) (rfl)⟩
  simp only [Act.put, List.setIfInBounds_toArray, List.set_cons_zero, List.set_cons_succ, Nat.reduceAdd]
  refine Steps.held ?_ ?_
  · intro L v w' hJ
    have hv5 : v 5 = .pointer (some ⟨w.heap.size + 1, 0, none⟩) := hJ.out.fact 5 (by kernel_rfl)
    simp only [hv5]
    clear hv5
    have kb := hJ.out.blk E1.out (by simp [oldsOf])
    have k0 := kb.cell 0
    have k1 := kb.cell 1
    clear kb
    go_wp2_with fail
    exact ⟨rfl, rfl, hJ.out.same (by rfl) (Hb0.out.keep hJ.out.held.keep)⟩
  simp only [Act.put, List.setIfInBounds_toArray, List.set_cons_zero, List.set_cons_succ, Nat.reduceAdd]
  refine Steps.held ?_ ?_
  · intro L v w' hJ
    go_wp2_with fail
    exact ⟨rfl, rfl, hJ.out.same (by rfl) (rfl)⟩
  simp only [Act.put, List.setIfInBounds_toArray, List.set_cons_zero, List.set_cons_succ, Nat.reduceAdd]
  refine Steps.held ?_ ?_
  · intro L v w' hJ
    have hv7 : v 7 = .pointer (some ⟨w.heap.size, 1, none⟩) := hJ.out.fact 7 (by kernel_rfl)
    simp only [hv7]
    clear hv7
    have kb := hJ.out.blk E0.out (by simp [oldsOf])
    have k0 := kb.cell 0
    have k1 := kb.cell 1
    clear kb
    go_wp2_with fail
    exact ⟨rfl, rfl, hJ.out.same (by rfl) (Ha1.out.keep hJ.out.held.keep)⟩
  simp only [Act.put, List.setIfInBounds_toArray, List.set_cons_zero, List.set_cons_succ, Nat.reduceAdd]
  refine Steps.held ?_ ?_
  · intro L v w' hJ
    have X0 := Lib.hid (show R256 w' (v 6) (m) from hJ.out.fact 6 (by kernel_rfl))
    have X1 := Lib.hid (show R256 w' (v 8) (d) from hJ.out.fact 8 (by kernel_rfl))
    go_wp2_with fail
    with_reducible refine (HM2.out _ _ _ X0.out X1.out).mono ?_
    rintro e w1 ⟨u, rfl, hu, hb⟩
    go_wp2_with fail
    exact ⟨rfl, rfl, hJ.out.call (by rfl) hb (hu)⟩
  simp only [Act.put, List.setIfInBounds_toArray, List.set_cons_zero, List.set_cons_succ, Nat.reduceAdd]
  refine Steps.held ?_ ?_
  · intro L v w' hJ
    have X0 := Lib.hid (show R256 w' (v 4) (n * e) from hJ.out.fact 4 (by kernel_rfl))
    have X1 := Lib.hid (show R256 w' (v 9) (m * d) from hJ.out.fact 9 (by kernel_rfl))
    go_wp2_with fail
    with_reducible refine (HCM.out _ _ _ X0.out X1.out).mono ?_
    rintro e w1 ⟨rfl, hd⟩
    have hb := hd.below
    go_wp2_with fail
    exact ⟨rfl, rfl, hJ.out.call (by rfl) hb (rfl)⟩
  simp only [Act.put, List.setIfInBounds_toArray, List.set_cons_zero, List.set_cons_succ, Nat.reduceAdd]
  refine Steps.held ?_ ?_
  · intro L v w' hJ
    have hv10 : v 10 = .int .i64 cc := hJ.out.fact 10 (by kernel_rfl)
    simp only [hv10]
    clear hv10
    go_wp2_with fail
    exact ⟨rfl, rfl, hJ.out.same (by rfl) (rfl)⟩
  simp only [Act.put, List.setIfInBounds_toArray, List.set_cons_zero, List.set_cons_succ, Nat.reduceAdd]
  refine Steps.nil ?_
  intro v w' hJ
  have h11 : v 11 = .int .i64 cc := hJ.end_fact 11 (by decide)
  have HF := Lib.hid (cbt HB0.out hJ.but.below)
  clear hJ
  simp only [h11]
  clear h11
  go_wp2_with fail
  go_ret
  exact ⟨rfl, HF.out⟩
set_option maxRecDepth 100000 in
set_option maxHeartbeats 4000000 in
theorem xint_any (k : Int) (x : Nat) (hx : IntKind.u64.wrap k = (x : Int)) (hx2 : x < 2 ^ 64) (w : World) : Calls Try.prog 70 #[.int .i64 k] w (MkR w x 1) := by
  have HS := Lib.hid (fun W => rsmall_any x W hx2)
  clear hx2
  have e0 := Blk.new (w) 52 #[(.slice none 0 0), (.slice none 0 0)]
  have hb := cba (Below.refl _ w) (.cells #[(.slice none 0 0), (.slice none 0 0)] 52)
  have hsz : w.heap.size ≤ w.heap.size := Nat.le_refl _
  go_enter Try.func70, Try.ntmps70
  go_upto_region 1 with (fail)
  obtain ⟨S, hS⟩ : ∃ S, (w).alloc (.cells #[(.slice none 0 0), (.slice none 0 0)] 52) = S := ⟨_, rfl⟩
  rw [hS] at e0 hb ⊢
  have HB0 := Lib.hid hb
  have E0 := Lib.hid e0
  clear hS hb hsz e0
  have k_E0_0 := E0.out.cell 0
  have k_E0_1 := E0.out.cell 1
  go_wp2_with fail
  with_reducible refine (HS.out _).mono ?_
  rintro e w1 ⟨u, rfl, hu, hb⟩
  clear k_E0_0 k_E0_1
  replace E0 := Lib.hid (blk_below E0.out hb)
  replace HB0 := Lib.hid (cbt HB0.out hb)
  have NX := Lib.hid hu
  clear hb hu
  have k_E0_0 := E0.out.cell 0
  have k_E0_1 := E0.out.cell 1
  have ZX := NX.out
  obtain ⟨A, c, rfl, _, _⟩ := ZX
  obtain ⟨nx, hnx⟩ : ∃ n, (cs 8 x).length = n := ⟨_, rfl⟩
  rw [hnx] at NX ⊢
  clear hnx
  have f0 := E0.out.frozen 0
  have f1 := E0.out.frozen 1
  have hlt := E0.out.lt
  have hne : w.heap.size ≠ w1.heap.size := by omega
  have b1 := (E0.out.set_ 0 (.slice A nx c)).set_ 1 (.slice (some ⟨w1.heap.size, 0, none⟩) 1 1)
  have b2 := b1.alloc (.cells #[.int .i64 1] 3)
  have b3 := Blk.new ((w1.setCell ⟨w.heap.size, 0, none⟩ (.slice A nx c)).setCell ⟨w.heap.size, 1, none⟩ (.slice (some ⟨w1.heap.size, 0, none⟩) 1 1)) 3 #[.int .i64 1]
  have hs : ((w1.setCell ⟨w.heap.size, 0, none⟩ (.slice A nx c)).setCell ⟨w.heap.size, 1, none⟩ (.slice (some ⟨w1.heap.size, 0, none⟩) 1 1)).heap.size = w1.heap.size := by simp
  rw [hs] at b3
  have k0 := b2.cell 0
  have k1 := b2.cell 1
  have HX := Lib.hid (show MkR w x 1 (.returned (.agg #[.slice A nx c, .slice (some ⟨w1.heap.size, 0, none⟩) 1 1])) (((w1.setCell ⟨w.heap.size, 0, none⟩ (.slice A nx c)).setCell ⟨w.heap.size, 1, none⟩ (.slice (some ⟨w1.heap.size, 0, none⟩) 1 1)).alloc (.cells #[.int .i64 1] 3)) from
    ⟨_, rfl, ⟨_, _, _, _, _, _, rfl, (((NX.out.keep (Keep.set E0.out 0 rfl _)).keep (Keep.set (E0.out.set_ 0 _) 1 rfl _)).below (cba (Below.refl _ _) _)), R256.one b3⟩, ((HB0.out.setCell (p := ⟨w.heap.size, 0, none⟩) (Nat.le_refl _) _).setCell (p := ⟨w.heap.size, 1, none⟩) (Nat.le_refl _) _).alloc (by simpa using HB0.out.size) _⟩)
  clear b1 b2 b3 hs
  go_wp2_with fail
  exact bodyPost_ret (v := .agg #[.slice A nx c, .slice (some ⟨w1.heap.size, 0, none⟩) 1 1]) (by simp [results, Try.results70, go_sem, hlt, k_E0_0, k_E0_1]) rfl HX.out
set_option maxRecDepth 100000 in
set_option maxHeartbeats 4000000 in
theorem isF_yes (va vb : Value) (n d : Nat) (w : World) (ha : F64 w va n d) (hb : RF w vb n d) (hn : wl 64 n ≤ 1099511627) (hn8 : wl 8 n ≤ 1000000000) (hd : wl 64 d ≤ 1099511627) (hd8 : wl 8 d ≤ 1000000000) : Calls Try.prog 67 #[va, vb] w fun x w' => x = .returned (.bool true) ∧ Below w.heap.size w w' := by
  have Ha := Lib.hid ha
  obtain ⟨Pa, pa, ca, Qa, qa, ea, xa, rfl, _, _, _⟩ := ha
  have Hb := Lib.hid hb
  obtain ⟨Pb, pb, cb, Qb, qb, eb, rfl, _, _⟩ := hb
  have HNU := Lib.hid num_any
  have HDE := Lib.hid den_any
  have HI1 := Lib.hid (fun va vb W h1 h2 => is_yes va vb n W h1 h2 hn hn8)
  have HI2 := Lib.hid (fun va vb W h1 h2 => is_yes va vb d W h1 h2 hd hd8)
  clear hn hn8 hd hd8
  have e0 := (Blk.new (w) 47 #[(.slice Pa pa ca), (.slice Qa qa ea)]).alloc (.cells #[(.slice Pb pb cb), (.slice Qb qb eb)] 52)
  have e1 := Blk.new ((w).alloc (.cells #[(.slice Pa pa ca), (.slice Qa qa ea)] 47)) 52 #[(.slice Pb pb cb), (.slice Qb qb eb)]
  have hb := cba (cba (Below.refl _ w) (.cells #[(.slice Pa pa ca), (.slice Qa qa ea)] 47)) (.cells #[(.slice Pb pb cb), (.slice Qb qb eb)] 52)
  simp only [World.size_alloc] at e1
  have hsz : w.heap.size ≤ w.heap.size := Nat.le_refl _
  go_enter Try.func67, Try.ntmps67
  go_upto_region 1 with (fail)
  obtain ⟨S, hS⟩ : ∃ S, ((w).alloc (.cells #[(.slice Pa pa ca), (.slice Qa qa ea)] 47)).alloc (.cells #[(.slice Pb pb cb), (.slice Qb qb eb)] 52) = S := ⟨_, rfl⟩
  rw [hS] at e0 e1 hb ⊢
  replace Ha := Lib.hid (Ha.out.below hb)
  replace Hb := Lib.hid (Hb.out.below hb)
  have HB0 := Lib.hid hb
  have E0 := Lib.hid e0
  have E1 := Lib.hid e1
  clear hS hb hsz e0 e1
  have Hb0 := Lib.hid (RF.fst Hb.out)
  have Hb1 := Lib.hid (RF.snd Hb.out)
  go_wp2_with fail
  let FS : List Kept1 := [.f (n) (d), .n (n), .eq (.pointer (some ⟨w.heap.size + 1, 0, none⟩)), .r (n), .eq (.bool true), .eq (.bool true), .f (n) (d), .n (d), .eq (.pointer (some ⟨w.heap.size + 1, 1, none⟩)), .r (d), .eq (.bool true), .eq (.bool true), .eq (.bool true)]
  refine region_mono (Held S (fun j => FS.getD j .any) []) (by kernel_rfl) (by kernel_rfl) (by kernel_rfl) (Held.start _ _ _ (by simp) (by simp)) ?_
  refine Steps.held ?_ ?_
  · intro L v w' hJ
    have kb := hJ.out.blk E0.out (by simp [oldsOf])
    have k0 := kb.cell 0
    have k1 := kb.cell 1
    clear kb
    go_wp2_with fail
    exact ⟨rfl, rfl, hJ.out.same (by rfl) (Ha.out.keep hJ.out.held.keep)⟩
  simp only [Act.put, List.setIfInBounds_toArray, List.set_cons_zero, List.set_cons_succ, Nat.reduceAdd]
  refine Steps.held ?_ ?_
  · intro L v w' hJ
    have X0 := Lib.hid (show F64 w' (v 0) (n) (d) from hJ.out.fact 0 (by kernel_rfl))
    go_wp2_with fail
    with_reducible refine (HNU.out _ _ _ _ X0.out).mono ?_
    rintro e w1 ⟨u, rfl, hu, hb⟩
    go_wp2_with fail
    exact ⟨rfl, rfl, hJ.out.call (by rfl) hb (hu)⟩
  simp only [Act.put, List.setIfInBounds_toArray, List.set_cons_zero, List.set_cons_succ, Nat.reduceAdd]
  refine Steps.held ?_ ?_
  · intro L v w' hJ
    go_wp2_with fail
    exact ⟨rfl, rfl, hJ.out.same (by rfl) (rfl)⟩
  simp only [Act.put, List.setIfInBounds_toArray, List.set_cons_zero, List.set_cons_succ, Nat.reduceAdd]
  refine Steps.held ?_ ?_
  · intro L v w' hJ
    have hv2 : v 2 = .pointer (some ⟨w.heap.size + 1, 0, none⟩) := hJ.out.fact 2 (by kernel_rfl)
    simp only [hv2]
    clear hv2
    have kb := hJ.out.blk E1.out (by simp [oldsOf])
    have k0 := kb.cell 0
    have k1 := kb.cell 1
    clear kb
    go_wp2_with fail
    exact ⟨rfl, rfl, hJ.out.same (by rfl) (Hb0.out.keep hJ.out.held.keep)⟩
  simp only [Act.put, List.setIfInBounds_toArray, List.set_cons_zero, List.set_cons_succ, Nat.reduceAdd]
  refine Steps.held ?_ ?_
  · intro L v w' hJ
    have X0 := Lib.hid (show N64 w' (v 1) (n) from hJ.out.fact 1 (by kernel_rfl))
    have X1 := Lib.hid (show R256 w' (v 3) (n) from hJ.out.fact 3 (by kernel_rfl))
    go_wp2_with fail
    with_reducible refine (HI1.out _ _ _ X0.out X1.out).mono ?_
    rintro e w1 ⟨rfl, hb⟩
    go_wp2_with fail
    exact ⟨rfl, rfl, hJ.out.call (by rfl) hb (rfl)⟩
  simp only [Act.put, List.setIfInBounds_toArray, List.set_cons_zero, List.set_cons_succ, Nat.reduceAdd]
  refine Steps.held ?_ ?_
  · intro L v w' hJ
    have hv4 : v 4 = .bool true := hJ.out.fact 4 (by kernel_rfl)
    simp only [hv4]
    clear hv4
    go_wp2_with fail
    exact ⟨rfl, rfl, hJ.out.same (by rfl) (rfl)⟩
  simp only [Act.put, List.setIfInBounds_toArray, List.set_cons_zero, List.set_cons_succ, Nat.reduceAdd]
  refine Steps.held ?_ ?_
  · intro L v w' hJ
    have hv5 : v 5 = .bool true := hJ.out.fact 5 (by kernel_rfl)
    simp only [hv5]
    clear hv5
    have kb := hJ.out.blk E0.out (by simp [oldsOf])
    have k0 := kb.cell 0
    have k1 := kb.cell 1
    clear kb
    go_wp2_with fail
    exact ⟨rfl, rfl, hJ.out.same (by rfl) (Ha.out.keep hJ.out.held.keep)⟩
  simp only [Act.put, List.setIfInBounds_toArray, List.set_cons_zero, List.set_cons_succ, Nat.reduceAdd]
  refine Steps.held ?_ ?_
  · intro L v w' hJ
    have hv5 : v 5 = .bool true := hJ.out.fact 5 (by kernel_rfl)
    simp only [hv5]
    clear hv5
    have X0 := Lib.hid (show F64 w' (v 6) (n) (d) from hJ.out.fact 6 (by kernel_rfl))
    go_wp2_with fail
    with_reducible refine (HDE.out _ _ _ _ X0.out).mono ?_
    rintro e w1 ⟨u, rfl, hu, hb⟩
    go_wp2_with fail
    exact ⟨rfl, rfl, hJ.out.call (by rfl) hb (hu)⟩
  simp only [Act.put, List.setIfInBounds_toArray, List.set_cons_zero, List.set_cons_succ, Nat.reduceAdd]
  refine Steps.held ?_ ?_
  · intro L v w' hJ
    have hv5 : v 5 = .bool true := hJ.out.fact 5 (by kernel_rfl)
    simp only [hv5]
    clear hv5
    go_wp2_with fail
    exact ⟨rfl, rfl, hJ.out.same (by rfl) (rfl)⟩
  simp only [Act.put, List.setIfInBounds_toArray, List.set_cons_zero, List.set_cons_succ, Nat.reduceAdd]
  refine Steps.held ?_ ?_
  · intro L v w' hJ
    have hv8 : v 8 = .pointer (some ⟨w.heap.size + 1, 1, none⟩) := hJ.out.fact 8 (by kernel_rfl)
    simp only [hv8]
    clear hv8
    have hv5 : v 5 = .bool true := hJ.out.fact 5 (by kernel_rfl)
    simp only [hv5]
    clear hv5
    have kb := hJ.out.blk E1.out (by simp [oldsOf])
    have k0 := kb.cell 0
    have k1 := kb.cell 1
    clear kb
    go_wp2_with fail
    exact ⟨rfl, rfl, hJ.out.same (by rfl) (Hb1.out.keep hJ.out.held.keep)⟩
  simp only [Act.put, List.setIfInBounds_toArray, List.set_cons_zero, List.set_cons_succ, Nat.reduceAdd]
  refine Steps.held ?_ ?_
  · intro L v w' hJ
    have hv5 : v 5 = .bool true := hJ.out.fact 5 (by kernel_rfl)
    simp only [hv5]
    clear hv5
    have X0 := Lib.hid (show N64 w' (v 7) (d) from hJ.out.fact 7 (by kernel_rfl))
    have X1 := Lib.hid (show R256 w' (v 9) (d) from hJ.out.fact 9 (by kernel_rfl))
    go_wp2_with fail
    with_reducible refine (HI2.out _ _ _ X0.out X1.out).mono ?_
    rintro e w1 ⟨rfl, hb⟩
    go_wp2_with fail
    exact ⟨rfl, rfl, hJ.out.call (by rfl) hb (rfl)⟩
  simp only [Act.put, List.setIfInBounds_toArray, List.set_cons_zero, List.set_cons_succ, Nat.reduceAdd]
  refine Steps.held ?_ ?_
  · intro L v w' hJ
    have hv5 : v 5 = .bool true := hJ.out.fact 5 (by kernel_rfl)
    simp only [hv5]
    clear hv5
    have hv10 : v 10 = .bool true := hJ.out.fact 10 (by kernel_rfl)
    simp only [hv10]
    clear hv10
    go_wp2_with fail
    exact ⟨rfl, rfl, hJ.out.same (by rfl) (rfl)⟩
  simp only [Act.put, List.setIfInBounds_toArray, List.set_cons_zero, List.set_cons_succ, Nat.reduceAdd]
  refine Steps.held ?_ ?_
  · intro L v w' hJ
    have hv11 : v 11 = .bool true := hJ.out.fact 11 (by kernel_rfl)
    simp only [hv11]
    clear hv11
    go_wp2_with fail
    exact ⟨rfl, rfl, hJ.out.same (by rfl) (rfl)⟩
  simp only [Act.put, List.setIfInBounds_toArray, List.set_cons_zero, List.set_cons_succ, Nat.reduceAdd]
  refine Steps.nil ?_
  intro v w' hJ
  have h12 : v 12 = .bool true := hJ.end_fact 12 (by decide)
  have HF := Lib.hid (cbt HB0.out hJ.but.below)
  clear hJ
  simp only [h12]
  clear h12
  go_wp2_with fail
  go_ret
  exact ⟨rfl, HF.out⟩
end Go.Proofs.Yteikhnmmkanndaa
namespace Go.Proofs.Yteikhnmmkanndaa
open Go.RowKit Go.Proofs.YteikhnmmkanndaaW.PrintWords
set_option linter.unusedSimpArgs false
set_option linter.unusedVariables false
def addR (a b : Nat × Nat) : Nat × Nat := (rn (a.1 * b.2 + b.1 * a.2) (a.2 * b.2), rd (a.1 * b.2 + b.1 * a.2) (a.2 * b.2))
def sumR (f : Nat → Nat × Nat) : Nat → Nat × Nat
  | 0 => (0, 1)
  | k + 1 => addR (sumR f k) (f k)
theorem wl_one64 : wl 64 1 = 1 := by decide +kernel
theorem sumR_pos {f : Nat → Nat × Nat} {K : Nat} (hf : ∀ i, i < K → 0 < (f i).2) : ∀ k, k ≤ K → 0 < (sumR f k).2
  | 0, _ => Nat.one_pos
  | k + 1, h => rd_pos (Nat.mul_pos (sumR_pos hf k (by omega)) (hf k (by omega)))
theorem sumR_wl {f : Nat → Nat × Nat} {K B : Nat} (hf : ∀ i, i < K → wl 64 (f i).1 ≤ B ∧ wl 64 (f i).2 ≤ B) : ∀ k, k ≤ K → wl 64 (sumR f k).1 ≤ 1 + k * (B + 1) ∧ wl 64 (sumR f k).2 ≤ 1 + k * (B + 1)
  | 0, _ => ⟨by show wl 64 0 ≤ _; rw [wl_zero (by decide)]; omega, by show wl 64 1 ≤ _; rw [wl_one64]; omega⟩
  | k + 1, h => by
    obtain ⟨h1, h2⟩ := sumR_wl hf k (by omega)
    obtain ⟨g1, g2⟩ := hf k (by omega)
    have a := wl_mul_le (k := 64) (by decide) h1 g2
    have b := wl_mul_le (k := 64) (by decide) g1 h2
    have c := wl_mul_le (k := 64) (by decide) h2 g2
    have s := wl_add_le (k := 64) (x := (sumR f k).1 * (f k).2) (y := (f k).1 * (sumR f k).2) (a := 1 + k * (B + 1) + B) (by decide) a (by omega)
    rw [Nat.succ_mul]
    exact ⟨Nat.le_trans (wl_rn (by decide) s) (by omega), Nat.le_trans (wl_rd (by decide) c) (by omega)⟩
def Rats (w : World) (A : Option Addr) (K : Nat) (f : Nat → Nat × Nat) : Prop :=
  ∀ i, i < K → ∃ b o P p c Q q e, A = some ⟨b, o, none⟩ ∧ b < w.heap.size ∧ w.cell? ⟨b, o + i * 2, none⟩ = some (.slice P p c) ∧ w.cell? ⟨b, o + i * 2 + 1, none⟩ = some (.slice Q q e) ∧ F64 w (.agg #[.slice P p c, .slice Q q e]) (f i).1 (f i).2
theorem Rats.below {w w' : World} {A : Option Addr} {K : Nat} {f : Nat → Nat × Nat} (h : Rats w A K f) (hb : Below w.heap.size w w') : Rats w' A K f := by
  intro i hi
  obtain ⟨b, o, P, p, c, Q, q, e, hA, hlt, h1, h2, h3⟩ := h i hi
  exact ⟨b, o, P, p, c, Q, q, e, hA, Nat.lt_of_lt_of_le hlt hb.size, (hb.cell (p := ⟨b, o + i * 2, none⟩) hlt).trans h1, (hb.cell (p := ⟨b, o + i * 2 + 1, none⟩) hlt).trans h2, h3.below hb⟩
def RowF (w : World) (v : Value) (K : Nat) (f : Nat → Nat × Nat) : Prop :=
  2 ≤ K ∧ ∃ g cs, v = .slice (some ⟨g, 0, none⟩) K K ∧ Blk w g 47 cs ∧ 2 * K ≤ cs.size ∧ ∀ i, i < K → ∃ P p c Q q e, cs[i * 2]? = some (.slice P p c) ∧ cs[i * 2 + 1]? = some (.slice Q q e) ∧ F64 w (.agg #[.slice P p c, .slice Q q e]) (f i).1 (f i).2
theorem RowF.keep {w w' : World} {v : Value} {K : Nat} {f : Nat → Nat × Nat} (h : RowF w v K f) (k : Keep w w') : RowF w' v K f := by
  obtain ⟨h2, g, cs, hv, hb, hs, hf⟩ := h
  refine ⟨h2, g, cs, hv, k.rats g cs hb (by omega), hs, fun i hi => ?_⟩
  obtain ⟨P, p, c, Q, q, e, h1, h2, h3⟩ := hf i hi
  exact ⟨P, p, c, Q, q, e, h1, h2, h3.keep k⟩
def Kept1.rats (K : Nat) (f : Nat → Nat × Nat) : Kept1 := ⟨fun v w => RowF w v K f, fun h k => h.keep k⟩
theorem RowF.rats {w : World} {v : Value} {K : Nat} {f : Nat → Nat × Nat} (h : RowF w v K f) : ∃ g, v = .slice (some ⟨g, 0, none⟩) K K ∧ Rats w (some ⟨g, 0, none⟩) K f := by
  obtain ⟨h2, g, cs, hv, hb, hs, hf⟩ := h
  refine ⟨g, hv, fun i hi => ?_⟩
  obtain ⟨P, p, c, Q, q, e, h1, h2, h3⟩ := hf i hi
  refine ⟨g, 0, P, p, c, Q, q, e, rfl, hb.lt, ?_, ?_, h3⟩
  · rw [hb.cell, Nat.zero_add]; exact h1
  · rw [hb.cell, Nat.zero_add]; exact h2
def ofL (l : List (Nat × Nat)) : Nat → Nat × Nat := fun i => l.getD i (0, 1)
theorem RowF.two {w : World} {g : Nat} {P Q P' Q' : Option Addr} {p c q e p' c' q' e' n d m f : Nat} (h : Blk w g 47 #[.slice P p c, .slice Q q e, .slice P' p' c', .slice Q' q' e'])
    (h1 : F64 w (.agg #[.slice P p c, .slice Q q e]) n d) (h2 : F64 w (.agg #[.slice P' p' c', .slice Q' q' e']) m f) : RowF w (.slice (some ⟨g, 0, none⟩) 2 2) 2 (ofL [(n, d), (m, f)]) := by
  refine ⟨Nat.le_refl _, g, _, rfl, h, Nat.le_of_ble_eq_true rfl, fun i hi => ?_⟩
  match i, hi with
  | 0, _ => exact ⟨_, _, _, _, _, _, rfl, rfl, h1⟩
  | 1, _ => exact ⟨_, _, _, _, _, _, rfl, rfl, h2⟩
theorem RowF.three {w : World} {g : Nat} {P Q P' Q' P2 Q2 : Option Addr} {p c q e p' c' q' e' p2 c2 q2 e2 n d m f r s : Nat} (h : Blk w g 47 #[.slice P p c, .slice Q q e, .slice P' p' c', .slice Q' q' e', .slice P2 p2 c2, .slice Q2 q2 e2])
    (h1 : F64 w (.agg #[.slice P p c, .slice Q q e]) n d) (h2 : F64 w (.agg #[.slice P' p' c', .slice Q' q' e']) m f) (h3 : F64 w (.agg #[.slice P2 p2 c2, .slice Q2 q2 e2]) r s) : RowF w (.slice (some ⟨g, 0, none⟩) 3 3) 3 (ofL [(n, d), (m, f), (r, s)]) := by
  refine ⟨by decide, g, _, rfl, h, Nat.le_of_ble_eq_true rfl, fun i hi => ?_⟩
  match i, hi with
  | 0, _ => exact ⟨_, _, _, _, _, _, rfl, rfl, h1⟩
  | 1, _ => exact ⟨_, _, _, _, _, _, rfl, rfl, h2⟩
  | 2, _ => exact ⟨_, _, _, _, _, _, rfl, rfl, h3⟩
set_option maxRecDepth 100000 in
set_option maxHeartbeats 4000000 in
theorem raddF_any (A : Option Addr) (K c : Nat) (f : Nat → Nat × Nat) (B : Nat) (w : World) (hc : K ≤ c) (hK : K ≤ 100) (hB : B ≤ 100000) (h : Rats w A K f) (hp : ∀ i, i < K → 0 < (f i).2) (hf : ∀ i, i < K → wl 64 (f i).1 ≤ B ∧ wl 64 (f i).2 ≤ B) :
    Calls Try.prog 66 #[.slice A K c] w (MkF w (sumR f K).1 (sumR f K).2) := by
  have HRW := Lib.hid h
  have HIN : Hid (∀ W, Calls Try.prog 74 #[.int .u64 0] W (MkF W 0 1)) := Lib.hid (fun W => rint_any 0 (by decide) W)
  have HP := Lib.hid hp
  have HF := Lib.hid hf
  have HNU := Lib.hid num_any
  have HDE := Lib.hid den_any
  have HBB := Lib.hid hB
  have HKK := Lib.hid hK
  clear h hp hf hB
  have e0 := Blk.new (w) 47 #[(.slice none 0 0), (.slice none 0 0)]
  have hb := cba (Below.refl _ w) (.cells #[(.slice none 0 0), (.slice none 0 0)] 47)
  have hsz : w.heap.size ≤ w.heap.size := Nat.le_refl _
  go_enter Try.func66, Try.ntmps66
  go_upto_region 1 with (fail)
  obtain ⟨S, hS⟩ : ∃ S, (w).alloc (.cells #[(.slice none 0 0), (.slice none 0 0)] 47) = S := ⟨_, rfl⟩
  rw [hS] at e0 hb ⊢
  have HB0 := Lib.hid hb
  have E0 := Lib.hid e0
  clear hS hb hsz e0
  have k_E0_0 := E0.out.cell 0
  have k_E0_1 := E0.out.cell 1
  go_wp2_with fail
  with_reducible refine (HIN.out _).mono ?_
  rintro e w1 ⟨u, rfl, hu, hb⟩
  clear k_E0_0 k_E0_1
  replace E0 := Lib.hid (blk_below E0.out hb)
  replace HB0 := Lib.hid (cbt HB0.out hb)
  have NI := Lib.hid hu
  clear hb hu
  have k_E0_0 := E0.out.cell 0
  have k_E0_1 := E0.out.cell 1
  have ZI := NI.out
  obtain ⟨P3, p3, c3, Q3, q3, e3, x3, rfl, _, _, _⟩ := ZI
  have e1 := Blk.new w1 47 #[.slice P3 p3 c3, .slice Q3 q3 e3]
  have hb := cba (Below.refl _ w1) (.cells #[.slice P3 p3 c3, .slice Q3 q3 e3] 47)
  go_upto_region 2 with (fail)
  have hg3 : w.heap.size < w1.heap.size := E0.out.lt
  obtain ⟨T, hT⟩ : ∃ T, w1.alloc (.cells #[.slice P3 p3 c3, .slice Q3 q3 e3] 47) = T := ⟨_, rfl⟩
  rw [hT] at e1 hb ⊢
  obtain ⟨g3, hg⟩ : ∃ g, w1.heap.size = g := ⟨_, rfl⟩
  rw [hg] at e1 hg3
  simp only [hg]
  replace E0 := Lib.hid (blk_below E0.out hb)
  replace HB0 := Lib.hid (cbt HB0.out hb)
  have BO := Lib.hid (show BoxF T g3 (sumR f 0).1 (sumR f 0).2 from ⟨_, _, _, _, _, _, e1, NI.out.below hb⟩)
  clear hT hg hb e1 NI k_E0_0 k_E0_1 hK
  go_wp2_with fail
  go_loopw [10] (fun v10 wr => ∃ k : Nat, k ≤ K ∧ v10 = .int .i64 k ∧ Hid (BoxF wr g3 (sumR f k).1 (sumR f k).2) ∧ Hid (Blk wr w.heap.size 47 #[.slice none 0 0, .slice none 0 0]) ∧ Hid (Below w.heap.size w wr)) (fun v10 _ => K - (intOf v10).toNat)
  case atStart => exact ⟨0, Nat.zero_le _, rfl, BO, E0, HB0⟩
  case round =>
    obtain ⟨k, hk, rfl, hBO, hE, hBW⟩ := hrel
    by_cases hlt : k < K
    · obtain ⟨bb, oo, P5, p5, c5, Q5, q5, e5, hA, hltb, k50, k51, hF5⟩ := (HRW.out.below hBW.out) k hlt
      subst hA
      obtain ⟨P3', p3', c3', Q3', q3', e3', hb3, hF3⟩ := hBO.out
      have N5 := Lib.hid hF5
      have N3 := Lib.hid hF3
      have E3 := Lib.hid hb3
      clear hF5 hF3 hb3
      have hpk := sumR_pos HP.out k hk
      obtain ⟨hw1, hw2⟩ := sumR_wl HF.out k hk
      obtain ⟨hw3, hw4⟩ := HF.out k hlt
      have hp4 := HP.out k hlt
      have hT : k * (B + 1) ≤ 100 * 100001 := Nat.mul_le_mul (by have := HKK.out; omega) (by have := HBB.out; omega)
      have hT2 := HBB.out
      have HS1 : Hid ((sumR f (k + 1)).1 = rn ((sumR f k).1 * (f k).2 + (f k).1 * (sumR f k).2) ((sumR f k).2 * (f k).2)) := Lib.hid rfl
      have HS2 : Hid ((sumR f (k + 1)).2 = rd ((sumR f k).1 * (f k).2 + (f k).1 * (sumR f k).2) ((sumR f k).2 * (f k).2)) := Lib.hid rfl
      obtain ⟨n, hn⟩ : ∃ n, (sumR f k).1 = n := ⟨_, rfl⟩
      obtain ⟨d, hd⟩ : ∃ n, (sumR f k).2 = n := ⟨_, rfl⟩
      obtain ⟨m, hm⟩ : ∃ n, (f k).1 = n := ⟨_, rfl⟩
      obtain ⟨e, he⟩ : ∃ n, (f k).2 = n := ⟨_, rfl⟩
      rw [hn, hm, hd, he] at HS1 HS2
      rw [hn, hd] at N3
      rw [hm, he] at N5
      rw [hn] at hw1
      rw [hd] at hw2 hpk
      rw [hm] at hw3
      rw [he] at hw4 hp4
      clear hn hd hm he
      have hm1 := wl_mul_le (k := 64) (x := n) (y := e) (a := 10000101) (b := 100000) (by decide) (by omega) (by omega)
      have HM1 := Lib.hid (fun va vb W h1 h2 => nmul_any va vb n e W h1 h2 (by omega) (by omega))
      have hm2 := wl_mul_le (k := 64) (x := m) (y := d) (a := 100000) (b := 10000101) (by decide) (by omega) (by omega)
      have HM2 := Lib.hid (fun va vb W h1 h2 => nmul_any va vb m d W h1 h2 (by omega) (by omega))
      have hm3 := wl_mul_le (k := 64) (x := d) (y := e) (a := 10000101) (b := 100000) (by decide) (by omega) (by omega)
      have HM3 := Lib.hid (fun va vb W h1 h2 => nmul_any va vb d e W h1 h2 (by omega) (by omega))
      have hsm := wl_add_le (k := 64) (x := n * e) (y := m * d) (a := 20000000) (by decide) (by omega) (by omega)
      have HAD := Lib.hid (fun va vb W h1 h2 => nadd_any va vb (n * e) (m * d) W h1 h2 (by omega) (by omega))
      have HMA := Lib.hid (fun va vb W h1 h2 => rmade_any va vb (n * e + m * d) (d * e) W h1 h2 (by omega) (by omega) (Nat.mul_pos hpk hp4))
      clear hm1 hm2 hm3 hsm hw1 hw2 hw3 hw4 hT hT2 hpk hp4
      have dlt : decide ((k : Int) < (K : Int)) = true := decide_eq_true (by omega)
      have HLT := Lib.hid hlt
      go_upto_region 5 with (fail)
      have e5' := Blk.new wr 47 #[.slice P5 p5 c5, .slice Q5 q5 e5]
      have hb5 := cba (Below.refl _ wr) (.cells #[.slice P5 p5 c5, .slice Q5 q5 e5] 47)
      have hg35 : g3 < wr.heap.size := E3.out.lt
      have hg05 : w.heap.size < wr.heap.size := hE.out.lt
      obtain ⟨X, hX⟩ : ∃ X, wr.alloc (.cells #[.slice P5 p5 c5, .slice Q5 q5 e5] 47) = X := ⟨_, rfl⟩
      rw [hX] at e5' hb5 ⊢
      obtain ⟨g5, hg5⟩ : ∃ g, wr.heap.size = g := ⟨_, rfl⟩
      rw [hg5] at e5' hg35 hg05
      simp only [hg5]
      replace N5 := Lib.hid (N5.out.below hb5)
      replace N3 := Lib.hid (N3.out.below hb5)
      replace E3 := Lib.hid (blk_below E3.out hb5)
      replace hE := Lib.hid (blk_below hE.out hb5)
      replace hBW := Lib.hid (cbt hBW.out hb5)
      have E5 := Lib.hid e5'
      have hX3 := E3.out.lt
      clear hX hg5 e5' hb5 k50 k51 hltb hBO dlt hlt
      let FS : List Kept1 := [.f (n) (d), .n (n), .f (m) (e), .n (e), .n (n * e), .f (m) (e), .n (m), .f (n) (d), .n (d), .n (m * d), .n (n * e + m * d), .any, .any]
      let BS : List Bx := [Bx.nat (.inl 11) 12 #[.slice none 0 0] (n * e + m * d)]
      refine region_mono (Held X (fun j => FS.getD j .any) BS) (by kernel_rfl) (by kernel_rfl) (by kernel_rfl) (Held.start _ _ _ (by simp [BS, Bx.nat, Bx.rat, Bx.ref]) (by simp [BS, Bx.nat, Bx.rat, Bx.ref])) ?_
      refine Steps.held ?_ ?_
      · intro L v w' hJ
        have kb := hJ.out.blk E3.out (by simp [oldsOf, BS, Bx.nat, Bx.rat, Bx.ref])
        have k0 := kb.cell 0
        have k1 := kb.cell 1
        clear kb
        go_wp2_with fail
        exact ⟨rfl, rfl, hJ.out.same (by rfl) (N3.out.keep hJ.out.held.keep)⟩
      simp only [Act.put, List.setIfInBounds_toArray, List.set_cons_zero, List.set_cons_succ, Nat.reduceAdd]
      refine Steps.held ?_ ?_
      · intro L v w' hJ
        have X0 := Lib.hid (show F64 w' (v 0) (n) (d) from hJ.out.fact 0 (by kernel_rfl))
        go_wp2_with fail
        with_reducible refine (HNU.out _ _ _ _ X0.out).mono ?_
        rintro e w1 ⟨u, rfl, hu, hb⟩
        go_wp2_with fail
        exact ⟨rfl, rfl, hJ.out.call (by rfl) hb (hu)⟩
      simp only [Act.put, List.setIfInBounds_toArray, List.set_cons_zero, List.set_cons_succ, Nat.reduceAdd]
      refine Steps.held ?_ ?_
      · intro L v w' hJ
        have kb := hJ.out.blk E5.out (by simp [oldsOf, BS, Bx.nat, Bx.rat, Bx.ref])
        have k0 := kb.cell 0
        have k1 := kb.cell 1
        clear kb
        go_wp2_with fail
        exact ⟨rfl, rfl, hJ.out.same (by rfl) (N5.out.keep hJ.out.held.keep)⟩
      simp only [Act.put, List.setIfInBounds_toArray, List.set_cons_zero, List.set_cons_succ, Nat.reduceAdd]
      refine Steps.held ?_ ?_
      · intro L v w' hJ
        have X0 := Lib.hid (show F64 w' (v 2) (m) (e) from hJ.out.fact 2 (by kernel_rfl))
        go_wp2_with fail
        with_reducible refine (HDE.out _ _ _ _ X0.out).mono ?_
        rintro e w1 ⟨u, rfl, hu, hb⟩
        go_wp2_with fail
        exact ⟨rfl, rfl, hJ.out.call (by rfl) hb (hu)⟩
      simp only [Act.put, List.setIfInBounds_toArray, List.set_cons_zero, List.set_cons_succ, Nat.reduceAdd]
      refine Steps.held ?_ ?_
      · intro L v w' hJ
        have X0 := Lib.hid (show N64 w' (v 1) (n) from hJ.out.fact 1 (by kernel_rfl))
        have X1 := Lib.hid (show N64 w' (v 3) (e) from hJ.out.fact 3 (by kernel_rfl))
        go_wp2_with fail
        with_reducible refine (HM1.out _ _ _ X0.out X1.out).mono ?_
        rintro e w1 ⟨u, rfl, hu, hb⟩
        go_wp2_with fail
        exact ⟨rfl, rfl, hJ.out.call (by rfl) hb (hu)⟩
      simp only [Act.put, List.setIfInBounds_toArray, List.set_cons_zero, List.set_cons_succ, Nat.reduceAdd]
      refine Steps.held ?_ ?_
      · intro L v w' hJ
        have kb := hJ.out.blk E5.out (by simp [oldsOf, BS, Bx.nat, Bx.rat, Bx.ref])
        have k0 := kb.cell 0
        have k1 := kb.cell 1
        clear kb
        go_wp2_with fail
        exact ⟨rfl, rfl, hJ.out.same (by rfl) (N5.out.keep hJ.out.held.keep)⟩
      simp only [Act.put, List.setIfInBounds_toArray, List.set_cons_zero, List.set_cons_succ, Nat.reduceAdd]
      refine Steps.held ?_ ?_
      · intro L v w' hJ
        have X0 := Lib.hid (show F64 w' (v 5) (m) (e) from hJ.out.fact 5 (by kernel_rfl))
        go_wp2_with fail
        with_reducible refine (HNU.out _ _ _ _ X0.out).mono ?_
        rintro e w1 ⟨u, rfl, hu, hb⟩
        go_wp2_with fail
        exact ⟨rfl, rfl, hJ.out.call (by rfl) hb (hu)⟩
      simp only [Act.put, List.setIfInBounds_toArray, List.set_cons_zero, List.set_cons_succ, Nat.reduceAdd]
      refine Steps.held ?_ ?_
      · intro L v w' hJ
        have kb := hJ.out.blk E3.out (by simp [oldsOf, BS, Bx.nat, Bx.rat, Bx.ref])
        have k0 := kb.cell 0
        have k1 := kb.cell 1
        clear kb
        go_wp2_with fail
        exact ⟨rfl, rfl, hJ.out.same (by rfl) (N3.out.keep hJ.out.held.keep)⟩
      simp only [Act.put, List.setIfInBounds_toArray, List.set_cons_zero, List.set_cons_succ, Nat.reduceAdd]
      refine Steps.held ?_ ?_
      · intro L v w' hJ
        have X0 := Lib.hid (show F64 w' (v 7) (n) (d) from hJ.out.fact 7 (by kernel_rfl))
        go_wp2_with fail
        with_reducible refine (HDE.out _ _ _ _ X0.out).mono ?_
        rintro e w1 ⟨u, rfl, hu, hb⟩
        go_wp2_with fail
        exact ⟨rfl, rfl, hJ.out.call (by rfl) hb (hu)⟩
      simp only [Act.put, List.setIfInBounds_toArray, List.set_cons_zero, List.set_cons_succ, Nat.reduceAdd]
      refine Steps.held ?_ ?_
      · intro L v w' hJ
        have X0 := Lib.hid (show N64 w' (v 6) (m) from hJ.out.fact 6 (by kernel_rfl))
        have X1 := Lib.hid (show N64 w' (v 8) (d) from hJ.out.fact 8 (by kernel_rfl))
        go_wp2_with fail
        with_reducible refine (HM2.out _ _ _ X0.out X1.out).mono ?_
        rintro e w1 ⟨u, rfl, hu, hb⟩
        go_wp2_with fail
        exact ⟨rfl, rfl, hJ.out.call (by rfl) hb (hu)⟩
      simp only [Act.put, List.setIfInBounds_toArray, List.set_cons_zero, List.set_cons_succ, Nat.reduceAdd]
      refine Steps.held ?_ ?_
      · intro L v w' hJ
        have X0 := Lib.hid (show N64 w' (v 4) (n * e) from hJ.out.fact 4 (by kernel_rfl))
        have X1 := Lib.hid (show N64 w' (v 9) (m * d) from hJ.out.fact 9 (by kernel_rfl))
        go_wp2_with fail
        with_reducible refine (HAD.out _ _ _ X0.out X1.out).mono ?_
        rintro e w1 ⟨u, rfl, hu, hb⟩
        go_wp2_with fail
        exact ⟨rfl, rfl, hJ.out.call (by rfl) hb (hu)⟩
      simp only [Act.put, List.setIfInBounds_toArray, List.set_cons_zero, List.set_cons_succ, Nat.reduceAdd]
      refine Steps.held ?_ ?_
      · intro L v w' hJ
        go_wp2_with fail
        exact ⟨rfl, rfl, hJ.out.made 0 _ rfl rfl (by rfl) trivial⟩
      simp only [Act.put, List.setIfInBounds_toArray, List.set_cons_zero, List.set_cons_succ, Nat.reduceAdd]
      refine Steps.held ?_ ?_
      · intro L v w' hJ
        obtain ⟨g, hg, hge, hown, hst⟩ := hJ.out.newbox 0 _ rfl 11 rfl (by kernel_rfl)
        have hN : N64 w' (v 10) (n * e + m * d) := hJ.out.fact 10 (by kernel_rfl)
        obtain ⟨P, c, hv, h1, h2, h3⟩ := hN
        have HN := Lib.hid (show N64 w' (.agg #[.slice P (wl 64 (n * e + m * d)) c]) (n * e + m * d) from ⟨P, c, rfl, h1, h2, h3⟩)
        have kb := hJ.out.box 0 _ rfl rfl g hown
        have k0 : w'.cell? ⟨g, 0, none⟩ = some (.slice none 0 0) := kb.cell 0
        have f0 := kb.frozen 0
        have HO := Lib.hid hown
        have HS := Lib.hid hst
        clear kb h1 h2 h3 hown hst
        simp only [hg, hv]
        clear hg hv
        go_wp2_with fail
        exact ⟨rfl, rfl, hJ.out.fill1 0 _ rfl rfl (by rfl) g HO.out HS.out _ rfl rfl (fun W k => ⟨P, c, rfl, HN.out.keep k⟩) (fun _ => trivial)⟩
      simp only [Act.put, List.setIfInBounds_toArray, List.set_cons_zero, List.set_cons_succ, Nat.reduceAdd]
      refine Steps.nil ?_
      intro v w' hJ
      obtain ⟨g6, cs11, hv11, hge11, hb11, A11, c11, rfl, hn11⟩ := hJ.end_new 0 _ rfl 11 rfl (by decide) (Nat.le_of_ble_eq_true rfl)
      simp only [hv11]
      have E6 := Lib.hid (show Blk _ _ 26 _ from hb11)
      have NE6 := Lib.hid hn11
      clear hv11 hb11 hn11
      have hbr := hJ.but.below
      replace N5 := Lib.hid (N5.out.below hbr)
      replace N3 := Lib.hid (N3.out.below hbr)
      replace E3 := Lib.hid (blk_below E3.out hbr)
      replace E5 := Lib.hid (blk_below E5.out hbr)
      replace hE := Lib.hid (blk_below hE.out hbr)
      replace hBW := Lib.hid (cbt hBW.out hbr)
      have hg36 : g3 < g6 := by omega
      clear hJ hbr
      go_wp2_with fail
      let FS : List Kept1 := [.n (n * e + m * d), .f (n) (d), .n (d), .f (m) (e), .n (e), .n (d * e), .f (rn (n * e + m * d) (d * e)) (rd (n * e + m * d) (d * e)), .any]
      let BS : List Bx := [Bx.rat (.inr (g3)) 7 #[(.slice P3' p3' c3'), (.slice Q3' q3' e3')] (rn (n * e + m * d) (d * e)) (rd (n * e + m * d) (d * e))]
      refine region_mono (Held w' (fun j => FS.getD j .any) BS) (by kernel_rfl) (by kernel_rfl) (by kernel_rfl) (Held.start _ _ _ (by simp [BS, Bx.nat, Bx.rat, Bx.ref] <;> exact E3.out) (by simp [BS, Bx.nat, Bx.rat, Bx.ref])) ?_
      refine Steps.held ?_ ?_
      · intro L v w' hJ
        have kb := hJ.out.blk E6.out (by simp [oldsOf, BS, Bx.nat, Bx.rat, Bx.ref] <;> omega)
        have k0 := kb.cell 0
        clear kb
        go_wp2_with fail
        exact ⟨rfl, rfl, hJ.out.same (by rfl) (NE6.out.keep hJ.out.held.keep)⟩
      simp only [Act.put, List.setIfInBounds_toArray, List.set_cons_zero, List.set_cons_succ, Nat.reduceAdd]
      refine Steps.held ?_ ?_
      · intro L v w' hJ
        have kb := hJ.out.yet 0 _ rfl (g3) rfl (by kernel_rfl)
        have k0 : w'.cell? ⟨g3, 0, none⟩ = some (.slice P3' p3' c3') := kb.cell 0
        have k1 : w'.cell? ⟨g3, 1, none⟩ = some (.slice Q3' q3' e3') := kb.cell 1
        clear kb
        go_wp2_with fail
        exact ⟨rfl, rfl, hJ.out.same (by rfl) (N3.out.keep hJ.out.held.keep)⟩
      simp only [Act.put, List.setIfInBounds_toArray, List.set_cons_zero, List.set_cons_succ, Nat.reduceAdd]
      refine Steps.held ?_ ?_
      · intro L v w' hJ
        have X0 := Lib.hid (show F64 w' (v 1) (n) (d) from hJ.out.fact 1 (by kernel_rfl))
        go_wp2_with fail
        with_reducible refine (HDE.out _ _ _ _ X0.out).mono ?_
        rintro e w1 ⟨u, rfl, hu, hb⟩
        go_wp2_with fail
        exact ⟨rfl, rfl, hJ.out.call (by rfl) hb (hu)⟩
      simp only [Act.put, List.setIfInBounds_toArray, List.set_cons_zero, List.set_cons_succ, Nat.reduceAdd]
      refine Steps.held ?_ ?_
      · intro L v w' hJ
        have kb := hJ.out.blk E5.out (by simp [oldsOf, BS, Bx.nat, Bx.rat, Bx.ref] <;> omega)
        have k0 := kb.cell 0
        have k1 := kb.cell 1
        clear kb
        go_wp2_with fail
        exact ⟨rfl, rfl, hJ.out.same (by rfl) (N5.out.keep hJ.out.held.keep)⟩
      simp only [Act.put, List.setIfInBounds_toArray, List.set_cons_zero, List.set_cons_succ, Nat.reduceAdd]
      refine Steps.held ?_ ?_
      · intro L v w' hJ
        have X0 := Lib.hid (show F64 w' (v 3) (m) (e) from hJ.out.fact 3 (by kernel_rfl))
        go_wp2_with fail
        with_reducible refine (HDE.out _ _ _ _ X0.out).mono ?_
        rintro e w1 ⟨u, rfl, hu, hb⟩
        go_wp2_with fail
        exact ⟨rfl, rfl, hJ.out.call (by rfl) hb (hu)⟩
      simp only [Act.put, List.setIfInBounds_toArray, List.set_cons_zero, List.set_cons_succ, Nat.reduceAdd]
      refine Steps.held ?_ ?_
      · intro L v w' hJ
        have X0 := Lib.hid (show N64 w' (v 2) (d) from hJ.out.fact 2 (by kernel_rfl))
        have X1 := Lib.hid (show N64 w' (v 4) (e) from hJ.out.fact 4 (by kernel_rfl))
        go_wp2_with fail
        with_reducible refine (HM3.out _ _ _ X0.out X1.out).mono ?_
        rintro e w1 ⟨u, rfl, hu, hb⟩
        go_wp2_with fail
        exact ⟨rfl, rfl, hJ.out.call (by rfl) hb (hu)⟩
      simp only [Act.put, List.setIfInBounds_toArray, List.set_cons_zero, List.set_cons_succ, Nat.reduceAdd]
      refine Steps.held ?_ ?_
      · intro L v w' hJ
        have X0 := Lib.hid (show N64 w' (v 0) (n * e + m * d) from hJ.out.fact 0 (by kernel_rfl))
        have X1 := Lib.hid (show N64 w' (v 5) (d * e) from hJ.out.fact 5 (by kernel_rfl))
        go_wp2_with fail
        with_reducible refine (HMA.out _ _ _ X0.out X1.out).mono ?_
        rintro e w1 ⟨u, rfl, hu, hb⟩
        go_wp2_with fail
        exact ⟨rfl, rfl, hJ.out.call (by rfl) hb (hu)⟩
      simp only [Act.put, List.setIfInBounds_toArray, List.set_cons_zero, List.set_cons_succ, Nat.reduceAdd]
      refine Steps.held ?_ ?_
      · intro L v w' hJ
        obtain ⟨hown, hst⟩ := hJ.out.oldbox 0 _ rfl (g3) rfl
        have hN : F64 w' (v 6) (rn (n * e + m * d) (d * e)) (rd (n * e + m * d) (d * e)) := hJ.out.fact 6 (by kernel_rfl)
        obtain ⟨A1, p1, c1, B1, q1, e1, x1, hv, h1, h2, h3⟩ := hN
        have HN := Lib.hid (show F64 w' (.agg #[.slice A1 p1 c1, .slice B1 q1 e1]) (rn (n * e + m * d) (d * e)) (rd (n * e + m * d) (d * e)) from ⟨A1, p1, c1, B1, q1, e1, x1, rfl, h1, h2, h3⟩)
        have kb := hJ.out.box 0 _ rfl rfl (g3) hown
        have k0 : w'.cell? ⟨(g3), 0, none⟩ = some ((.slice P3' p3' c3')) := kb.cell 0
        have k1 : w'.cell? ⟨(g3), 1, none⟩ = some ((.slice Q3' q3' e3')) := kb.cell 1
        have f0 := kb.frozen 0
        have f1 := kb.frozen 1
        have HO := Lib.hid hown
        have HS := Lib.hid hst
        clear kb h1 h2 h3 hown hst
        simp only [hv]
        clear hv
        go_wp2_with fail
        exact ⟨rfl, rfl, hJ.out.fill2 0 _ rfl rfl (by rfl) (g3) HO.out HS.out _ _ rfl rfl rfl (fun W k => HN.out.keep k) (fun _ => trivial)⟩
      simp only [Act.put, List.setIfInBounds_toArray, List.set_cons_zero, List.set_cons_succ, Nat.reduceAdd]
      refine Steps.nil ?_
      intro v w' hJ
      obtain ⟨cs, hblk, hf⟩ := hJ.end_old 0 _ rfl g3 rfl (Nat.le_of_ble_eq_true rfl)
      have hf' : F64 w' (.agg cs) (rn (n * e + m * d) (d * e)) (rd (n * e + m * d) (d * e)) := hf
      obtain ⟨A1, p1, c1, B1, q1, e1, x1, hcs, h1, h2, h3⟩ := hf'
      have hcs' := Value.agg.inj hcs
      subst hcs'
      have hk2 := hJ.keep
      have HBO := Lib.hid (show BoxF w' g3 (sumR f (k + 1)).1 (sumR f (k + 1)).2 from ⟨_, _, _, _, _, _, hblk, by rw [HS1.out, HS2.out]; exact ⟨A1, p1, c1, B1, q1, e1, x1, rfl, h1, h2, h3⟩⟩)
      have HEE := Lib.hid (hJ.but.blk hE.out (by simp [oldsOf, BS, Bx.nat, Bx.rat, Bx.ref]; omega))
      have HBW := Lib.hid (hJ.but.to_below hBW.out hBW.out.size (by intro g hg; simp [oldsOf, BS, Bx.nat, Bx.rat, Bx.ref] at hg; subst hg; omega))
      clear hJ hf h1 h2 hblk hcs hk2
      go_wp2_with fail
      have hlt2 := HLT.out
      have hK2 := HKK.out
      have hw64 : wrap64 ((k : Int) + 1) = ((k + 1 : Nat) : Int) := by
        rw [Go.IntWalk.wrap64_in _ (by omega)]
        rfl
      go_roundw
      case rel => exact ⟨k + 1, by omega, by rw [hw64], HBO, HEE, HBW⟩
      case measure => rw [hw64]; simp [intOf]; omega
    · have hkK : k = K := by omega
      subst hkK
      obtain ⟨P3', p3', c3', Q3', q3', e3', hb3, hF3⟩ := hBO.out
      have k30 := hb3.cell 0
      have k31 := hb3.cell 1
      have N3 := Lib.hid hF3
      have k00 := hE.out.cell 0
      have k01 := hE.out.cell 1
      have f0 := hE.out.frozen 0
      have f1 := hE.out.frozen 1
      have HX := Lib.hid (show MkF w (sumR f k).1 (sumR f k).2 (.returned (.agg #[.slice P3' p3' c3', .slice Q3' q3' e3'])) ((wr.setCell ⟨w.heap.size, 0, none⟩ (.slice P3' p3' c3')).setCell ⟨w.heap.size, 1, none⟩ (.slice Q3' q3' e3')) from
        ⟨_, rfl, (hF3.keep (Keep.set hE.out 0 rfl _)).keep (Keep.set (hE.out.set_ 0 _) 1 rfl _), (hBW.out.setCell (p := ⟨w.heap.size, 0, none⟩) (Nat.le_refl _) _).setCell (p := ⟨w.heap.size, 1, none⟩) (Nat.le_refl _) _⟩)
      clear hb3 hF3 hk
      go_wp2
      exact bodyPost_ret (v := .agg #[.slice P3' p3' c3', .slice Q3' q3' e3']) (by simp [results, Try.results66, go_sem, k00, k01]) rfl HX.out
theorem radd_row (v : Value) (K : Nat) (f : Nat → Nat × Nat) (B : Nat) (w : World) (hK : K ≤ 100) (hB : B ≤ 100000) (h : RowF w v K f) (hp : ∀ i, i < K → 0 < (f i).2) (hf : ∀ i, i < K → wl 64 (f i).1 ≤ B ∧ wl 64 (f i).2 ≤ B) :
    Calls Try.prog 66 #[v] w (MkF w (sumR f K).1 (sumR f K).2) := by
  obtain ⟨g, rfl, hr⟩ := h.rats
  exact raddF_any _ K K f B w (Nat.le_refl _) hK hB hr hp hf
theorem radd_two (v : Value) (n d m e B : Nat) (w : World) (hB : B ≤ 100000) (h : RowF w v 2 (ofL [(n, d), (m, e)])) (hd : 0 < d) (he : 0 < e) (h1 : wl 64 n ≤ B) (h2 : wl 64 d ≤ B) (h3 : wl 64 m ≤ B) (h4 : wl 64 e ≤ B) :
    Calls Try.prog 66 #[v] w (MkF w (addR (addR (0, 1) (n, d)) (m, e)).1 (addR (addR (0, 1) (n, d)) (m, e)).2) :=
  radd_row v 2 (ofL [(n, d), (m, e)]) B w (by decide) hB h (fun i hi => match i, hi with | 0, _ => hd | 1, _ => he) (fun i hi => match i, hi with | 0, _ => ⟨h1, h2⟩ | 1, _ => ⟨h3, h4⟩)
end Go.Proofs.Yteikhnmmkanndaa
namespace Go.Proofs.Yteikhnmmkanndaa
open Go.RowKit Go.Proofs.YteikhnmmkanndaaW.PrintWords
set_option linter.unusedSimpArgs false
set_option linter.unusedVariables false
def Frc (w : World) (v : Value) (l m : List Int) : Prop := ∃ A n c B k d, v = .agg #[.slice A n c, .slice B k d] ∧ ByS w (.slice A n c) l ∧ ByS w (.slice B k d) m ∧ l.length = n ∧ m.length = k
theorem Frc.keep {w w' : World} {v : Value} {l m : List Int} (h : Frc w v l m) (k : Keep w w') : Frc w' v l m := by
  obtain ⟨A, n, c, B, p, d, hv, h1, h2, h3⟩ := h
  exact ⟨A, n, c, B, p, d, hv, h1.keep k, h2.keep k, h3⟩
theorem Frc.below {w w' : World} {v : Value} {l m : List Int} (h : Frc w v l m) (hb : Below w.heap.size w w') : Frc w' v l m := h.keep (Keep.of_below hb)
def Kept1.frc (l m : List Int) : Kept1 := ⟨fun v w => Frc w v l m, fun h k => h.keep k⟩
def den1 (y : Nat) : Nat := if y = 0 then 1 else y
theorem den1_pos (y : Nat) : 0 < den1 y := by unfold den1; split <;> omega
theorem den1_wl {k y b : Nat} (hk : 0 < k) (h : wl k y ≤ b) : wl k (den1 y) ≤ b + 1 := by
  unfold den1
  split
  · refine Nat.le_trans ((wl_le hk 1 1).2 ?_) (by omega)
    exact Nat.one_lt_two_pow (by omega)
  · omega
set_option maxRecDepth 100000 in
set_option maxHeartbeats 4000000 in
theorem rtext_of (v : Value) (n d : Nat) (sn sd : ByteArray) (w : World) (ha : F64 w v n d) (t1 : ∀ (u : Value) (W : World), N64 W u n → Calls Try.prog 46 #[u] W fun x w' => x = .returned (.string sn) ∧ Below W.heap.size W w') (t2 : ∀ (u : Value) (W : World), N64 W u d → Calls Try.prog 46 #[u] W fun x w' => x = .returned (.string sd) ∧ Below W.heap.size W w') (z1 : sn.size ≤ 100000) (z2 : sd.size ≤ 100000) : Calls Try.prog 72 #[v] w fun x w' => x = .returned (.string (sn ++ ⟨#[47]⟩ ++ sd)) ∧ Below w.heap.size w w' := by
  have Ha := Lib.hid ha
  obtain ⟨Pa, pa, ca, Qa, qa, ea, xa, rfl, _, _, _⟩ := ha
  have HNU := Lib.hid num_any
  have HDE := Lib.hid den_any
  have HT1 := Lib.hid t1
  have HT2 := Lib.hid t2
  have q1 : ¬ 9223372036854775807 < sn.size + 1 := by omega
  have q2 : ¬ 9223372036854775807 < sn.size + 1 + sd.size := by omega
  clear t1 t2 z1 z2
  have e0 := Blk.new (w) 47 #[(.slice Pa pa ca), (.slice Qa qa ea)]
  have hb := cba (Below.refl _ w) (.cells #[(.slice Pa pa ca), (.slice Qa qa ea)] 47)
  have hsz : w.heap.size ≤ w.heap.size := Nat.le_refl _
  go_enter Try.func72, Try.ntmps72
  go_upto_region 1 with (fail)
  obtain ⟨S, hS⟩ : ∃ S, (w).alloc (.cells #[(.slice Pa pa ca), (.slice Qa qa ea)] 47) = S := ⟨_, rfl⟩
  rw [hS] at e0 hb ⊢
  replace Ha := Lib.hid (Ha.out.below hb)
  have HB0 := Lib.hid hb
  have E0 := Lib.hid e0
  clear hS hb hsz e0
  go_wp2_with fail
  let FS : List Kept1 := [.f (n) (d), .n (n), .eq (.string sn), .eq (.string (sn ++ ⟨#[47]⟩)), .f (n) (d), .n (d), .eq (.string sd), .eq (.string (sn ++ ⟨#[47]⟩ ++ sd)), .eq (.string (sn ++ ⟨#[47]⟩ ++ sd))]
  refine region_mono (Held S (fun j => FS.getD j .any) []) (by kernel_rfl) (by kernel_rfl) (by kernel_rfl) (Held.start _ _ _ (by simp) (by simp)) ?_
  refine Steps.held ?_ ?_
  · intro L v w' hJ
    have kb := hJ.out.blk E0.out (by simp [oldsOf])
    have k0 := kb.cell 0
    have k1 := kb.cell 1
    clear kb
    go_wp2_with fail
    exact ⟨rfl, rfl, hJ.out.same (by rfl) (Ha.out.keep hJ.out.held.keep)⟩
  simp only [Act.put, List.setIfInBounds_toArray, List.set_cons_zero, List.set_cons_succ, Nat.reduceAdd]
  refine Steps.held ?_ ?_
  · intro L v w' hJ
    have X0 := Lib.hid (show F64 w' (v 0) (n) (d) from hJ.out.fact 0 (by kernel_rfl))
    go_wp2_with fail
    with_reducible refine (HNU.out _ _ _ _ X0.out).mono ?_
    rintro e w1 ⟨u, rfl, hu, hb⟩
    go_wp2_with fail
    exact ⟨rfl, rfl, hJ.out.call (by rfl) hb (hu)⟩
  simp only [Act.put, List.setIfInBounds_toArray, List.set_cons_zero, List.set_cons_succ, Nat.reduceAdd]
  refine Steps.held ?_ ?_
  · intro L v w' hJ
    have X0 := Lib.hid (show N64 w' (v 1) (n) from hJ.out.fact 1 (by kernel_rfl))
    go_wp2_with fail
    with_reducible refine (HT1.out _ _ X0.out).mono ?_
    rintro e w1 ⟨rfl, hb⟩
    go_wp2_with fail
    exact ⟨rfl, rfl, hJ.out.call (by rfl) hb (rfl)⟩
  simp only [Act.put, List.setIfInBounds_toArray, List.set_cons_zero, List.set_cons_succ, Nat.reduceAdd]
  refine Steps.held ?_ ?_
  · intro L v w' hJ
    have hv2 : v 2 = .string sn := hJ.out.fact 2 (by kernel_rfl)
    simp only [hv2]
    clear hv2
    go_wp2_with fail
    exact ⟨rfl, rfl, hJ.out.same (by rfl) (rfl)⟩
  simp only [Act.put, List.setIfInBounds_toArray, List.set_cons_zero, List.set_cons_succ, Nat.reduceAdd]
  refine Steps.held ?_ ?_
  · intro L v w' hJ
    have kb := hJ.out.blk E0.out (by simp [oldsOf])
    have k0 := kb.cell 0
    have k1 := kb.cell 1
    clear kb
    go_wp2_with fail
    exact ⟨rfl, rfl, hJ.out.same (by rfl) (Ha.out.keep hJ.out.held.keep)⟩
  simp only [Act.put, List.setIfInBounds_toArray, List.set_cons_zero, List.set_cons_succ, Nat.reduceAdd]
  refine Steps.held ?_ ?_
  · intro L v w' hJ
    have X0 := Lib.hid (show F64 w' (v 4) (n) (d) from hJ.out.fact 4 (by kernel_rfl))
    go_wp2_with fail
    with_reducible refine (HDE.out _ _ _ _ X0.out).mono ?_
    rintro e w1 ⟨u, rfl, hu, hb⟩
    go_wp2_with fail
    exact ⟨rfl, rfl, hJ.out.call (by rfl) hb (hu)⟩
  simp only [Act.put, List.setIfInBounds_toArray, List.set_cons_zero, List.set_cons_succ, Nat.reduceAdd]
  refine Steps.held ?_ ?_
  · intro L v w' hJ
    have X0 := Lib.hid (show N64 w' (v 5) (d) from hJ.out.fact 5 (by kernel_rfl))
    go_wp2_with fail
    with_reducible refine (HT2.out _ _ X0.out).mono ?_
    rintro e w1 ⟨rfl, hb⟩
    go_wp2_with fail
    exact ⟨rfl, rfl, hJ.out.call (by rfl) hb (rfl)⟩
  simp only [Act.put, List.setIfInBounds_toArray, List.set_cons_zero, List.set_cons_succ, Nat.reduceAdd]
  refine Steps.held ?_ ?_
  · intro L v w' hJ
    have hv3 : v 3 = .string (sn ++ ⟨#[47]⟩) := hJ.out.fact 3 (by kernel_rfl)
    simp only [hv3]
    clear hv3
    have hv6 : v 6 = .string sd := hJ.out.fact 6 (by kernel_rfl)
    simp only [hv6]
    clear hv6
    go_wp2_with fail
    exact ⟨rfl, rfl, hJ.out.same (by rfl) (rfl)⟩
  simp only [Act.put, List.setIfInBounds_toArray, List.set_cons_zero, List.set_cons_succ, Nat.reduceAdd]
  refine Steps.held ?_ ?_
  · intro L v w' hJ
    have hv7 : v 7 = .string (sn ++ ⟨#[47]⟩ ++ sd) := hJ.out.fact 7 (by kernel_rfl)
    simp only [hv7]
    clear hv7
    go_wp2_with fail
    exact ⟨rfl, rfl, hJ.out.same (by rfl) (rfl)⟩
  simp only [Act.put, List.setIfInBounds_toArray, List.set_cons_zero, List.set_cons_succ, Nat.reduceAdd]
  refine Steps.nil ?_
  intro v w' hJ
  have h8 : v 8 = .string (sn ++ ⟨#[47]⟩ ++ sd) := hJ.end_fact 8 (by decide)
  have HF := Lib.hid (cbt HB0.out hJ.but.below)
  clear hJ
  simp only [h8]
  clear h8
  go_wp2_with fail
  go_ret
  exact ⟨rfl, HF.out⟩
set_option maxRecDepth 100000 in
set_option maxHeartbeats 4000000 in
theorem to_any (v : Value) (l m : List Int) (w : World) (h : Frc w v l m) (hl : Bys l) (hm : Bys m) (h1 : l.length ≤ 10000) (h2 : m.length ≤ 10000) : Calls Try.prog 36 #[v] w (MkF w (rn (be l) (den1 (be m))) (rd (be l) (den1 (be m)))) := by
  obtain ⟨A, p, c, B, q, d, rfl, hA, hB, hla, hlb⟩ := h
  have HA := Lib.hid hA
  have HBB := Lib.hid hB
  have x64 := be_w64 hl
  have y64 := be_w64 hm
  have HRX := Lib.hid (fun v W h => nread_any v l W h hl (by omega))
  have HRY := Lib.hid (fun v W h => nread_any v m W h hm (by omega))
  obtain ⟨x, hx⟩ : ∃ x, be l = x := ⟨_, rfl⟩
  obtain ⟨y, hy⟩ : ∃ x, be m = x := ⟨_, rfl⟩
  rw [hx] at x64 HRX ⊢
  rw [hy] at y64 HRY ⊢
  have hdw := den1_wl (k := 64) (by decide) y64
  have HOF := Lib.hid (fun va vb W h1 h2 => rofF_any va vb x (den1 y) W h1 h2 (by omega) (by omega) (den1_pos y))
  clear hA hB hla hlb hx hy x64 hdw h1 h2 hl hm
  by_cases hy0 : y = 0
  · have hyy := Lib.hid hy0
    have HZ := Lib.hid (fun v W h => zero_eq v y W h hy0)
    have HON : Hid (∀ W, Calls Try.prog 50 #[.int .u64 1] W (fun e w' => ∃ v, e = .returned v ∧ N64 w' v 1 ∧ Below W.heap.size W w')) := Lib.hid (fun W => of_any 1 (by decide) W)
    have hdy : den1 y = 1 := by unfold den1; rw [if_pos hy0]
    rw [hdy] at HOF ⊢
    clear hy0 hdy y64
    have e0 := (Blk.new (w) 45 #[(.slice A p c), (.slice B q d)]).alloc (.cells #[(.slice none 0 0), (.slice none 0 0)] 47)
    have e1 := Blk.new ((w).alloc (.cells #[(.slice A p c), (.slice B q d)] 45)) 47 #[(.slice none 0 0), (.slice none 0 0)]
    have hb := cba (cba (Below.refl _ w) (.cells #[(.slice A p c), (.slice B q d)] 45)) (.cells #[(.slice none 0 0), (.slice none 0 0)] 47)
    simp only [World.size_alloc] at e1
    have hsz : w.heap.size ≤ w.heap.size := Nat.le_refl _
    go_enter Try.func36, Try.ntmps36
    go_upto_region 1 with (fail)
    obtain ⟨S, hS⟩ : ∃ S, ((w).alloc (.cells #[(.slice A p c), (.slice B q d)] 45)).alloc (.cells #[(.slice none 0 0), (.slice none 0 0)] 47) = S := ⟨_, rfl⟩
    rw [hS] at e0 e1 hb ⊢
    replace HA := Lib.hid (HA.out.below hb)
    replace HBB := Lib.hid (HBB.out.below hb)
    have HB0 := Lib.hid hb
    have E0 := Lib.hid e0
    have E1 := Lib.hid e1
    clear hS hb hsz e0 e1
    have k_E0_0 := E0.out.cell 0
    have k_E0_1 := E0.out.cell 1
    have k_E1_0 := E1.out.cell 0
    have k_E1_1 := E1.out.cell 1
    go_wp2_with fail
    with_reducible refine (HRY.out _ _ HBB.out).mono ?_
    rintro e w1 ⟨u, rfl, hu, hb⟩
    clear k_E0_0 k_E0_1 k_E1_0 k_E1_1
    replace HA := Lib.hid (HA.out.below hb)
    replace HBB := Lib.hid (HBB.out.below hb)
    replace E0 := Lib.hid (blk_below E0.out hb)
    replace E1 := Lib.hid (blk_below E1.out hb)
    replace HB0 := Lib.hid (cbt HB0.out hb)
    have NY := Lib.hid hu
    clear hb hu
    have k_E0_0 := E0.out.cell 0
    have k_E0_1 := E0.out.cell 1
    have k_E1_0 := E1.out.cell 0
    have k_E1_1 := E1.out.cell 1
    have hlt := E1.out.lt
    have Z0 := NY.out
    obtain ⟨PT0, cpT0, rfl, _, _, _⟩ := Z0
    have e3 := Blk.new w1 26 #[.slice PT0 (wl 64 (y)) cpT0]
    have hb := cba (Below.refl _ w1) (.cells #[.slice PT0 (wl 64 (y)) cpT0] 26)
    go_upto_region 2 with (fail)
    obtain ⟨T, hS⟩ : ∃ S, (w1.alloc (.cells #[.slice PT0 (wl 64 (y)) cpT0] 26)) = S := ⟨_, rfl⟩
    rw [hS] at e3 hb ⊢
    obtain ⟨g3, hg⟩ : ∃ g, w1.heap.size = g := ⟨_, rfl⟩
    rw [hg] at e3 hlt
    simp only [hg]
    replace HA := Lib.hid (HA.out.below hb)
    replace HBB := Lib.hid (HBB.out.below hb)
    replace NY := Lib.hid (NY.out.below hb)
    replace E0 := Lib.hid (blk_below E0.out hb)
    replace E1 := Lib.hid (blk_below E1.out hb)
    replace HB0 := Lib.hid (cbt HB0.out hb)
    have E3 := Lib.hid e3
    clear hS hg hb e3 k_E0_0 k_E0_1 k_E1_0 k_E1_1
    have k_E0_0 := E0.out.cell 0
    have k_E0_1 := E0.out.cell 1
    have k_E1_0 := E1.out.cell 0
    have k_E1_1 := E1.out.cell 1
    have k_E3_0 := E3.out.cell 0
    go_wp2_with fail
    with_reducible refine (HZ.out _ _ NY.out).mono ?_
    rintro e w2 ⟨rfl, hb⟩
    clear k_E0_0 k_E0_1 k_E1_0 k_E1_1 k_E3_0
    replace HA := Lib.hid (HA.out.below hb)
    replace HBB := Lib.hid (HBB.out.below hb)
    replace NY := Lib.hid (NY.out.below hb)
    replace E0 := Lib.hid (blk_below E0.out hb)
    replace E1 := Lib.hid (blk_below E1.out hb)
    replace E3 := Lib.hid (blk_below E3.out hb)
    replace HB0 := Lib.hid (cbt HB0.out hb)
    clear hb
    have k_E0_0 := E0.out.cell 0
    have k_E0_1 := E0.out.cell 1
    have k_E1_0 := E1.out.cell 0
    have k_E1_1 := E1.out.cell 1
    have k_E3_0 := E3.out.cell 0
    go_wp2_with fail
    with_reducible refine (HON.out _).mono ?_
    rintro e w3 ⟨u, rfl, hu, hb⟩
    clear k_E0_0 k_E0_1 k_E1_0 k_E1_1 k_E3_0
    replace HA := Lib.hid (HA.out.below hb)
    replace HBB := Lib.hid (HBB.out.below hb)
    replace NY := Lib.hid (NY.out.below hb)
    replace E0 := Lib.hid (blk_below E0.out hb)
    replace E1 := Lib.hid (blk_below E1.out hb)
    replace E3 := Lib.hid (blk_below E3.out hb)
    replace HB0 := Lib.hid (cbt HB0.out hb)
    have N1 := Lib.hid hu
    clear hb hu
    have k_E0_0 := E0.out.cell 0
    have k_E0_1 := E0.out.cell 1
    have k_E1_0 := E1.out.cell 0
    have k_E1_1 := E1.out.cell 1
    have k_E3_0 := E3.out.cell 0
    have Z1 := N1.out
    obtain ⟨P1, c1, rfl, _, _, _⟩ := Z1
    clear k_E0_0 k_E0_1 k_E1_0 k_E1_1 k_E3_0
    have k0 := E3.out.cell 0
    have f0 := E3.out.frozen 0
    go_upto_region 4 with (fail)
    have hk := Keep.set E3.out 0 rfl (.slice P1 (wl 64 1) c1)
    replace HA := Lib.hid (HA.out.keep hk)
    replace HBB := Lib.hid (HBB.out.keep hk)
    replace N1 := Lib.hid (N1.out.keep hk)
    replace E0 := Lib.hid (E0.out.far (p := ⟨g3, 0, none⟩) (by simp only []; omega) (.slice P1 (wl 64 1) c1))
    replace E1 := Lib.hid (E1.out.far (p := ⟨g3, 0, none⟩) (by simp only []; omega) (.slice P1 (wl 64 1) c1))
    replace E3 := Lib.hid (E3.out.set_ 0 (.slice P1 (wl 64 1) c1))
    replace HB0 := Lib.hid (HB0.out.setCell (p := ⟨g3, 0, none⟩) (by simp only []; omega) (.slice P1 (wl 64 1) c1))
    obtain ⟨X, hX⟩ : ∃ X, w3.setCell ⟨g3, 0, none⟩ (.slice P1 (wl 64 1) c1) = X := ⟨_, rfl⟩
    rw [hX] at HA HBB N1 E0 E1 E3 HB0 ⊢
    clear hX hk k0 f0
    let FS : List Kept1 := [.eq (.pointer (some ⟨w.heap.size, 0, none⟩)), .by_ (l), .n (x), .n (1), .two (.f (rn x (1)) (rd x (1))) (.eq (.int .i64 0)), .two (.f (rn x (1)) (rd x (1))) (.eq (.int .i64 0)), .f (rn x (1)) (rd x (1)), .eq (.int .i64 0), .any, .any, .eq (.int .i64 0)]
    let BS : List Bx := [Bx.rat (.inl 8) 9 #[.slice none 0 0, .slice none 0 0] (rn x (1)) (rd x (1))]
    refine region_mono (Held X (fun j => FS.getD j .any) BS) (by kernel_rfl) (by kernel_rfl) (by kernel_rfl) (Held.start _ _ _ (by simp [BS, Bx.nat, Bx.rat, Bx.ref]) (by simp [BS, Bx.nat, Bx.rat, Bx.ref])) ?_
    refine Steps.held ?_ ?_
    · intro L v w' hJ
      go_wp2_with fail
      exact ⟨rfl, rfl, hJ.out.same (by rfl) (rfl)⟩
    simp only [Act.put, List.setIfInBounds_toArray, List.set_cons_zero, List.set_cons_succ, Nat.reduceAdd]
    refine Steps.held ?_ ?_
    · intro L v w' hJ
      have hv0 : v 0 = .pointer (some ⟨w.heap.size, 0, none⟩) := hJ.out.fact 0 (by kernel_rfl)
      simp only [hv0]
      clear hv0
      have kb := hJ.out.blk E0.out (by simp [oldsOf, BS, Bx.nat, Bx.rat, Bx.ref])
      have k0 := kb.cell 0
      have k1 := kb.cell 1
      clear kb
      go_wp2_with fail
      exact ⟨rfl, rfl, hJ.out.same (by rfl) (HA.out.keep hJ.out.held.keep)⟩
    simp only [Act.put, List.setIfInBounds_toArray, List.set_cons_zero, List.set_cons_succ, Nat.reduceAdd]
    refine Steps.held ?_ ?_
    · intro L v w' hJ
      have X0 := Lib.hid (show ByS w' (v 1) (l) from hJ.out.fact 1 (by kernel_rfl))
      go_wp2_with fail
      with_reducible refine (HRX.out _ _ X0.out).mono ?_
      rintro e w1 ⟨u, rfl, hu, hb⟩
      go_wp2_with fail
      exact ⟨rfl, rfl, hJ.out.call (by rfl) hb (hu)⟩
    simp only [Act.put, List.setIfInBounds_toArray, List.set_cons_zero, List.set_cons_succ, Nat.reduceAdd]
    refine Steps.held ?_ ?_
    · intro L v w' hJ
      have kb := hJ.out.blk E3.out (by simp [oldsOf, BS, Bx.nat, Bx.rat, Bx.ref])
      have k0 := kb.cell 0
      clear kb
      go_wp2_with fail
      exact ⟨rfl, rfl, hJ.out.same (by rfl) (N1.out.keep hJ.out.held.keep)⟩
    simp only [Act.put, List.setIfInBounds_toArray, List.set_cons_zero, List.set_cons_succ, Nat.reduceAdd]
    refine Steps.held ?_ ?_
    · intro L v w' hJ
      have X0 := Lib.hid (show N64 w' (v 2) (x) from hJ.out.fact 2 (by kernel_rfl))
      have X1 := Lib.hid (show N64 w' (v 3) (1) from hJ.out.fact 3 (by kernel_rfl))
      go_wp2_with fail
      with_reducible refine (HOF.out _ _ _ X0.out X1.out).mono ?_
      rintro e w1 ⟨u, rfl, hu, hb⟩
      go_wp2_with fail
      exact ⟨rfl, rfl, hJ.out.call (by rfl) hb (⟨_, _, rfl, hu, rfl⟩)⟩
    simp only [Act.put, List.setIfInBounds_toArray, List.set_cons_zero, List.set_cons_succ, Nat.reduceAdd]
    refine Steps.held ?_ ?_
    · intro L v w' hJ
      go_wp2_with fail
      exact ⟨rfl, rfl, hJ.out.same (by rfl) (hJ.out.fact 4 (by kernel_rfl))⟩
    simp only [Act.put, List.setIfInBounds_toArray, List.set_cons_zero, List.set_cons_succ, Nat.reduceAdd]
    refine Steps.held ?_ ?_
    · intro L v w' hJ
      obtain ⟨x0, x1, hv, h0, h1⟩ := hJ.out.fact 5 (by kernel_rfl)
      simp only [hv]
      clear hv
      go_wp2_with fail
      exact ⟨rfl, rfl, hJ.out.same (by rfl) (h0)⟩
    simp only [Act.put, List.setIfInBounds_toArray, List.set_cons_zero, List.set_cons_succ, Nat.reduceAdd]
    refine Steps.held ?_ ?_
    · intro L v w' hJ
      obtain ⟨x0, x1, hv, h0, h1⟩ := hJ.out.fact 5 (by kernel_rfl)
      simp only [hv]
      clear hv
      go_wp2_with fail
      exact ⟨rfl, rfl, hJ.out.same (by rfl) (h1)⟩
    simp only [Act.put, List.setIfInBounds_toArray, List.set_cons_zero, List.set_cons_succ, Nat.reduceAdd]
    refine Steps.held ?_ ?_
    · intro L v w' hJ
      go_wp2_with fail
      exact ⟨rfl, rfl, hJ.out.made 0 _ rfl rfl (by rfl) trivial⟩
    simp only [Act.put, List.setIfInBounds_toArray, List.set_cons_zero, List.set_cons_succ, Nat.reduceAdd]
    refine Steps.held ?_ ?_
    · intro L v w' hJ
      obtain ⟨g, hg, hge, hown, hst⟩ := hJ.out.newbox 0 _ rfl 8 rfl (by kernel_rfl)
      have hN : F64 w' (v 6) (rn x (1)) (rd x (1)) := hJ.out.fact 6 (by kernel_rfl)
      obtain ⟨A1, p1, c1, B1, q1, e1, x1, hv, h1, h2, h3⟩ := hN
      have HN := Lib.hid (show F64 w' (.agg #[.slice A1 p1 c1, .slice B1 q1 e1]) (rn x (1)) (rd x (1)) from ⟨A1, p1, c1, B1, q1, e1, x1, rfl, h1, h2, h3⟩)
      have kb := hJ.out.box 0 _ rfl rfl g hown
      have k0 : w'.cell? ⟨g, 0, none⟩ = some (.slice none 0 0) := kb.cell 0
      have k1 : w'.cell? ⟨g, 1, none⟩ = some (.slice none 0 0) := kb.cell 1
      have f0 := kb.frozen 0
      have f1 := kb.frozen 1
      have HO := Lib.hid hown
      have HS := Lib.hid hst
      clear kb h1 h2 h3 hown hst
      simp only [hg, hv]
      clear hg hv
      go_wp2_with fail
      exact ⟨rfl, rfl, hJ.out.fill2 0 _ rfl rfl (by rfl) g HO.out HS.out _ _ rfl rfl rfl (fun W k => HN.out.keep k) (fun _ => trivial)⟩
    simp only [Act.put, List.setIfInBounds_toArray, List.set_cons_zero, List.set_cons_succ, Nat.reduceAdd]
    refine Steps.held ?_ ?_
    · intro L v w' hJ
      have hv7 : v 7 = .int .i64 0 := hJ.out.fact 7 (by kernel_rfl)
      simp only [hv7]
      clear hv7
      go_wp2_with fail
      exact ⟨rfl, rfl, hJ.out.same (by rfl) (rfl)⟩
    simp only [Act.put, List.setIfInBounds_toArray, List.set_cons_zero, List.set_cons_succ, Nat.reduceAdd]
    refine Steps.nil ?_
    intro v w' hJ
    obtain ⟨g4, cs4, hv8, hge8, hb8, hf8⟩ := hJ.end_new 0 _ rfl 8 rfl (by decide) (Nat.le_of_ble_eq_true rfl)
    have hf' : F64 w' (.agg cs4) (rn x (1)) (rd x (1)) := hf8
    obtain ⟨A1, p1, c1', B1, q1, e1, x1, hcs, h1, h2, h3⟩ := hf'
    have hcs' := Value.agg.inj hcs
    subst hcs'
    have NF := Lib.hid (show F64 w' (.agg #[.slice A1 p1 c1', .slice B1 q1 e1]) (rn x (1)) (rd x (1)) from hf8)
    simp only [hv8]
    have hbr := hJ.but.below
    replace E1 := Lib.hid (blk_below E1.out hbr)
    replace HB0 := Lib.hid (cbt HB0.out hbr)
    have k40 := hb8.cell 0
    have k41 := hb8.cell 1
    have k10 := E1.out.cell 0
    have k11 := E1.out.cell 1
    have f0 := E1.out.frozen 0
    have f1 := E1.out.frozen 1
    have HX := Lib.hid (show MkF w (rn x (1)) (rd x (1)) (.returned (.agg #[.slice A1 p1 c1', .slice B1 q1 e1])) ((w'.setCell ⟨w.heap.size + 1, 0, none⟩ (.slice A1 p1 c1')).setCell ⟨w.heap.size + 1, 1, none⟩ (.slice B1 q1 e1)) from
      ⟨_, rfl, (NF.out.keep (Keep.set E1.out 0 rfl _)).keep (Keep.set (E1.out.set_ 0 _) 1 rfl _), (HB0.out.setCell (p := ⟨w.heap.size + 1, 0, none⟩) (by simp only []; omega) _).setCell (p := ⟨w.heap.size + 1, 1, none⟩) (by simp only []; omega) _⟩)
    clear hJ hbr hf8 hb8 h1 h2 hcs hv8
    go_wp2
    exact bodyPost_ret (v := .agg #[.slice A1 p1 c1', .slice B1 q1 e1]) (by simp [results, Try.results36, go_sem, k10, k11]) rfl HX.out
  · have hyy := Lib.hid hy0
    have HZ := Lib.hid (fun v W h => zero_no v y W h (Nat.pos_of_ne_zero hy0))
    have hdy : den1 y = y := by unfold den1; rw [if_neg hy0]
    rw [hdy] at HOF ⊢
    clear hy0 hdy y64
    have e0 := (Blk.new (w) 45 #[(.slice A p c), (.slice B q d)]).alloc (.cells #[(.slice none 0 0), (.slice none 0 0)] 47)
    have e1 := Blk.new ((w).alloc (.cells #[(.slice A p c), (.slice B q d)] 45)) 47 #[(.slice none 0 0), (.slice none 0 0)]
    have hb := cba (cba (Below.refl _ w) (.cells #[(.slice A p c), (.slice B q d)] 45)) (.cells #[(.slice none 0 0), (.slice none 0 0)] 47)
    simp only [World.size_alloc] at e1
    have hsz : w.heap.size ≤ w.heap.size := Nat.le_refl _
    go_enter Try.func36, Try.ntmps36
    go_upto_region 1 with (fail)
    obtain ⟨S, hS⟩ : ∃ S, ((w).alloc (.cells #[(.slice A p c), (.slice B q d)] 45)).alloc (.cells #[(.slice none 0 0), (.slice none 0 0)] 47) = S := ⟨_, rfl⟩
    rw [hS] at e0 e1 hb ⊢
    replace HA := Lib.hid (HA.out.below hb)
    replace HBB := Lib.hid (HBB.out.below hb)
    have HB0 := Lib.hid hb
    have E0 := Lib.hid e0
    have E1 := Lib.hid e1
    clear hS hb hsz e0 e1
    have k_E0_0 := E0.out.cell 0
    have k_E0_1 := E0.out.cell 1
    have k_E1_0 := E1.out.cell 0
    have k_E1_1 := E1.out.cell 1
    go_wp2_with fail
    with_reducible refine (HRY.out _ _ HBB.out).mono ?_
    rintro e w1 ⟨u, rfl, hu, hb⟩
    clear k_E0_0 k_E0_1 k_E1_0 k_E1_1
    replace HA := Lib.hid (HA.out.below hb)
    replace HBB := Lib.hid (HBB.out.below hb)
    replace E0 := Lib.hid (blk_below E0.out hb)
    replace E1 := Lib.hid (blk_below E1.out hb)
    replace HB0 := Lib.hid (cbt HB0.out hb)
    have NY := Lib.hid hu
    clear hb hu
    have k_E0_0 := E0.out.cell 0
    have k_E0_1 := E0.out.cell 1
    have k_E1_0 := E1.out.cell 0
    have k_E1_1 := E1.out.cell 1
    have hlt := E1.out.lt
    have Z0 := NY.out
    obtain ⟨PT0, cpT0, rfl, _, _, _⟩ := Z0
    have e3 := Blk.new w1 26 #[.slice PT0 (wl 64 (y)) cpT0]
    have hb := cba (Below.refl _ w1) (.cells #[.slice PT0 (wl 64 (y)) cpT0] 26)
    go_upto_region 2 with (fail)
    obtain ⟨T, hS⟩ : ∃ S, (w1.alloc (.cells #[.slice PT0 (wl 64 (y)) cpT0] 26)) = S := ⟨_, rfl⟩
    rw [hS] at e3 hb ⊢
    obtain ⟨g3, hg⟩ : ∃ g, w1.heap.size = g := ⟨_, rfl⟩
    rw [hg] at e3 hlt
    simp only [hg]
    replace HA := Lib.hid (HA.out.below hb)
    replace HBB := Lib.hid (HBB.out.below hb)
    replace NY := Lib.hid (NY.out.below hb)
    replace E0 := Lib.hid (blk_below E0.out hb)
    replace E1 := Lib.hid (blk_below E1.out hb)
    replace HB0 := Lib.hid (cbt HB0.out hb)
    have E3 := Lib.hid e3
    clear hS hg hb e3 k_E0_0 k_E0_1 k_E1_0 k_E1_1
    have k_E0_0 := E0.out.cell 0
    have k_E0_1 := E0.out.cell 1
    have k_E1_0 := E1.out.cell 0
    have k_E1_1 := E1.out.cell 1
    have k_E3_0 := E3.out.cell 0
    go_wp2_with fail
    with_reducible refine (HZ.out _ _ NY.out).mono ?_
    rintro e w2 ⟨rfl, hb⟩
    clear k_E0_0 k_E0_1 k_E1_0 k_E1_1 k_E3_0
    replace HA := Lib.hid (HA.out.below hb)
    replace HBB := Lib.hid (HBB.out.below hb)
    replace NY := Lib.hid (NY.out.below hb)
    replace E0 := Lib.hid (blk_below E0.out hb)
    replace E1 := Lib.hid (blk_below E1.out hb)
    replace E3 := Lib.hid (blk_below E3.out hb)
    replace HB0 := Lib.hid (cbt HB0.out hb)
    clear hb
    have k_E0_0 := E0.out.cell 0
    have k_E0_1 := E0.out.cell 1
    have k_E1_0 := E1.out.cell 0
    have k_E1_1 := E1.out.cell 1
    have k_E3_0 := E3.out.cell 0
    go_wp2_with fail
    clear k_E0_0 k_E0_1 k_E1_0 k_E1_1 k_E3_0
    let FS : List Kept1 := [.eq (.pointer (some ⟨w.heap.size, 0, none⟩)), .by_ (l), .n (x), .n (y), .two (.f (rn x (y)) (rd x (y))) (.eq (.int .i64 0)), .two (.f (rn x (y)) (rd x (y))) (.eq (.int .i64 0)), .f (rn x (y)) (rd x (y)), .eq (.int .i64 0), .any, .any, .eq (.int .i64 0)]
    let BS : List Bx := [Bx.rat (.inl 8) 9 #[.slice none 0 0, .slice none 0 0] (rn x (y)) (rd x (y))]
    refine region_mono (Held w2 (fun j => FS.getD j .any) BS) (by kernel_rfl) (by kernel_rfl) (by kernel_rfl) (Held.start _ _ _ (by simp [BS, Bx.nat, Bx.rat, Bx.ref]) (by simp [BS, Bx.nat, Bx.rat, Bx.ref])) ?_
    refine Steps.held ?_ ?_
    · intro L v w' hJ
      go_wp2_with fail
      exact ⟨rfl, rfl, hJ.out.same (by rfl) (rfl)⟩
    simp only [Act.put, List.setIfInBounds_toArray, List.set_cons_zero, List.set_cons_succ, Nat.reduceAdd]
    refine Steps.held ?_ ?_
    · intro L v w' hJ
      have hv0 : v 0 = .pointer (some ⟨w.heap.size, 0, none⟩) := hJ.out.fact 0 (by kernel_rfl)
      simp only [hv0]
      clear hv0
      have kb := hJ.out.blk E0.out (by simp [oldsOf, BS, Bx.nat, Bx.rat, Bx.ref])
      have k0 := kb.cell 0
      have k1 := kb.cell 1
      clear kb
      go_wp2_with fail
      exact ⟨rfl, rfl, hJ.out.same (by rfl) (HA.out.keep hJ.out.held.keep)⟩
    simp only [Act.put, List.setIfInBounds_toArray, List.set_cons_zero, List.set_cons_succ, Nat.reduceAdd]
    refine Steps.held ?_ ?_
    · intro L v w' hJ
      have X0 := Lib.hid (show ByS w' (v 1) (l) from hJ.out.fact 1 (by kernel_rfl))
      go_wp2_with fail
      with_reducible refine (HRX.out _ _ X0.out).mono ?_
      rintro e w1 ⟨u, rfl, hu, hb⟩
      go_wp2_with fail
      exact ⟨rfl, rfl, hJ.out.call (by rfl) hb (hu)⟩
    simp only [Act.put, List.setIfInBounds_toArray, List.set_cons_zero, List.set_cons_succ, Nat.reduceAdd]
    refine Steps.held ?_ ?_
    · intro L v w' hJ
      have kb := hJ.out.blk E3.out (by simp [oldsOf, BS, Bx.nat, Bx.rat, Bx.ref])
      have k0 := kb.cell 0
      clear kb
      go_wp2_with fail
      exact ⟨rfl, rfl, hJ.out.same (by rfl) (NY.out.keep hJ.out.held.keep)⟩
    simp only [Act.put, List.setIfInBounds_toArray, List.set_cons_zero, List.set_cons_succ, Nat.reduceAdd]
    refine Steps.held ?_ ?_
    · intro L v w' hJ
      have X0 := Lib.hid (show N64 w' (v 2) (x) from hJ.out.fact 2 (by kernel_rfl))
      have X1 := Lib.hid (show N64 w' (v 3) (y) from hJ.out.fact 3 (by kernel_rfl))
      go_wp2_with fail
      with_reducible refine (HOF.out _ _ _ X0.out X1.out).mono ?_
      rintro e w1 ⟨u, rfl, hu, hb⟩
      go_wp2_with fail
      exact ⟨rfl, rfl, hJ.out.call (by rfl) hb (⟨_, _, rfl, hu, rfl⟩)⟩
    simp only [Act.put, List.setIfInBounds_toArray, List.set_cons_zero, List.set_cons_succ, Nat.reduceAdd]
    refine Steps.held ?_ ?_
    · intro L v w' hJ
      go_wp2_with fail
      exact ⟨rfl, rfl, hJ.out.same (by rfl) (hJ.out.fact 4 (by kernel_rfl))⟩
    simp only [Act.put, List.setIfInBounds_toArray, List.set_cons_zero, List.set_cons_succ, Nat.reduceAdd]
    refine Steps.held ?_ ?_
    · intro L v w' hJ
      obtain ⟨x0, x1, hv, h0, h1⟩ := hJ.out.fact 5 (by kernel_rfl)
      simp only [hv]
      clear hv
      go_wp2_with fail
      exact ⟨rfl, rfl, hJ.out.same (by rfl) (h0)⟩
    simp only [Act.put, List.setIfInBounds_toArray, List.set_cons_zero, List.set_cons_succ, Nat.reduceAdd]
    refine Steps.held ?_ ?_
    · intro L v w' hJ
      obtain ⟨x0, x1, hv, h0, h1⟩ := hJ.out.fact 5 (by kernel_rfl)
      simp only [hv]
      clear hv
      go_wp2_with fail
      exact ⟨rfl, rfl, hJ.out.same (by rfl) (h1)⟩
    simp only [Act.put, List.setIfInBounds_toArray, List.set_cons_zero, List.set_cons_succ, Nat.reduceAdd]
    refine Steps.held ?_ ?_
    · intro L v w' hJ
      go_wp2_with fail
      exact ⟨rfl, rfl, hJ.out.made 0 _ rfl rfl (by rfl) trivial⟩
    simp only [Act.put, List.setIfInBounds_toArray, List.set_cons_zero, List.set_cons_succ, Nat.reduceAdd]
    refine Steps.held ?_ ?_
    · intro L v w' hJ
      obtain ⟨g, hg, hge, hown, hst⟩ := hJ.out.newbox 0 _ rfl 8 rfl (by kernel_rfl)
      have hN : F64 w' (v 6) (rn x (y)) (rd x (y)) := hJ.out.fact 6 (by kernel_rfl)
      obtain ⟨A1, p1, c1, B1, q1, e1, x1, hv, h1, h2, h3⟩ := hN
      have HN := Lib.hid (show F64 w' (.agg #[.slice A1 p1 c1, .slice B1 q1 e1]) (rn x (y)) (rd x (y)) from ⟨A1, p1, c1, B1, q1, e1, x1, rfl, h1, h2, h3⟩)
      have kb := hJ.out.box 0 _ rfl rfl g hown
      have k0 : w'.cell? ⟨g, 0, none⟩ = some (.slice none 0 0) := kb.cell 0
      have k1 : w'.cell? ⟨g, 1, none⟩ = some (.slice none 0 0) := kb.cell 1
      have f0 := kb.frozen 0
      have f1 := kb.frozen 1
      have HO := Lib.hid hown
      have HS := Lib.hid hst
      clear kb h1 h2 h3 hown hst
      simp only [hg, hv]
      clear hg hv
      go_wp2_with fail
      exact ⟨rfl, rfl, hJ.out.fill2 0 _ rfl rfl (by rfl) g HO.out HS.out _ _ rfl rfl rfl (fun W k => HN.out.keep k) (fun _ => trivial)⟩
    simp only [Act.put, List.setIfInBounds_toArray, List.set_cons_zero, List.set_cons_succ, Nat.reduceAdd]
    refine Steps.held ?_ ?_
    · intro L v w' hJ
      have hv7 : v 7 = .int .i64 0 := hJ.out.fact 7 (by kernel_rfl)
      simp only [hv7]
      clear hv7
      go_wp2_with fail
      exact ⟨rfl, rfl, hJ.out.same (by rfl) (rfl)⟩
    simp only [Act.put, List.setIfInBounds_toArray, List.set_cons_zero, List.set_cons_succ, Nat.reduceAdd]
    refine Steps.nil ?_
    intro v w' hJ
    obtain ⟨g4, cs4, hv8, hge8, hb8, hf8⟩ := hJ.end_new 0 _ rfl 8 rfl (by decide) (Nat.le_of_ble_eq_true rfl)
    have hf' : F64 w' (.agg cs4) (rn x (y)) (rd x (y)) := hf8
    obtain ⟨A1, p1, c1', B1, q1, e1, x1, hcs, h1, h2, h3⟩ := hf'
    have hcs' := Value.agg.inj hcs
    subst hcs'
    have NF := Lib.hid (show F64 w' (.agg #[.slice A1 p1 c1', .slice B1 q1 e1]) (rn x (y)) (rd x (y)) from hf8)
    simp only [hv8]
    have hbr := hJ.but.below
    replace E1 := Lib.hid (blk_below E1.out hbr)
    replace HB0 := Lib.hid (cbt HB0.out hbr)
    have k40 := hb8.cell 0
    have k41 := hb8.cell 1
    have k10 := E1.out.cell 0
    have k11 := E1.out.cell 1
    have f0 := E1.out.frozen 0
    have f1 := E1.out.frozen 1
    have HX := Lib.hid (show MkF w (rn x (y)) (rd x (y)) (.returned (.agg #[.slice A1 p1 c1', .slice B1 q1 e1])) ((w'.setCell ⟨w.heap.size + 1, 0, none⟩ (.slice A1 p1 c1')).setCell ⟨w.heap.size + 1, 1, none⟩ (.slice B1 q1 e1)) from
      ⟨_, rfl, (NF.out.keep (Keep.set E1.out 0 rfl _)).keep (Keep.set (E1.out.set_ 0 _) 1 rfl _), (HB0.out.setCell (p := ⟨w.heap.size + 1, 0, none⟩) (by simp only []; omega) _).setCell (p := ⟨w.heap.size + 1, 1, none⟩) (by simp only []; omega) _⟩)
    clear hJ hbr hf8 hb8 h1 h2 hcs hv8
    go_wp2
    exact bodyPost_ret (v := .agg #[.slice A1 p1 c1', .slice B1 q1 e1]) (by simp [results, Try.results36, go_sem, k10, k11]) rfl HX.out
set_option maxRecDepth 100000 in
set_option maxHeartbeats 4000000 in
theorem ref_any (v : Value) (l m : List Int) (w : World) (h : Frc w v l m) (hl : Bys l) (hm : Bys m) (h1 : l.length ≤ 10000) (h2 : m.length ≤ 10000) : Calls Try.prog 38 #[v] w (MkR w (rn (be l) (den1 (be m))) (rd (be l) (den1 (be m)))) := by
  obtain ⟨A, p, c, B, q, d, rfl, hA, hB, hla, hlb⟩ := h
  have HA := Lib.hid hA
  have HBB := Lib.hid hB
  have x8 := be_wl hl
  have y8 := be_wl hm
  have HRX := Lib.hid (fun v W h => rof_any v l W h hl (by omega))
  have HRY := Lib.hid (fun v W h => rof_any v m W h hm (by omega))
  obtain ⟨x, hx⟩ : ∃ x, be l = x := ⟨_, rfl⟩
  obtain ⟨y, hy⟩ : ∃ x, be m = x := ⟨_, rfl⟩
  rw [hx] at x8 HRX ⊢
  rw [hy] at y8 HRY ⊢
  have hdw := den1_wl (k := 8) (by decide) y8
  have HOF := Lib.hid (fun va vb W h1 h2 => xof_any va vb x (den1 y) W h1 h2 (by omega) (by omega) (den1_pos y))
  clear hA hB hla hlb hx hy x8 hdw h1 h2 hl hm
  by_cases hy0 : y = 0
  · have hdy : den1 y = 1 := by unfold den1; rw [if_pos hy0]
    have hwy : wl 8 y = 0 := (wl_eq_zero (by decide)).2 hy0
    rw [hdy] at HOF ⊢
    clear hdy y8 hy0
    have e0 := (Blk.new (w) 45 #[(.slice A p c), (.slice B q d)]).alloc (.cells #[(.slice none 0 0), (.slice none 0 0)] 52)
    have e1 := Blk.new ((w).alloc (.cells #[(.slice A p c), (.slice B q d)] 45)) 52 #[(.slice none 0 0), (.slice none 0 0)]
    have hb := cba (cba (Below.refl _ w) (.cells #[(.slice A p c), (.slice B q d)] 45)) (.cells #[(.slice none 0 0), (.slice none 0 0)] 52)
    simp only [World.size_alloc] at e1
    have hsz : w.heap.size ≤ w.heap.size := Nat.le_refl _
    go_enter Try.func38, Try.ntmps38
    go_upto_region 1 with (fail)
    obtain ⟨S, hS⟩ : ∃ S, ((w).alloc (.cells #[(.slice A p c), (.slice B q d)] 45)).alloc (.cells #[(.slice none 0 0), (.slice none 0 0)] 52) = S := ⟨_, rfl⟩
    rw [hS] at e0 e1 hb ⊢
    replace HA := Lib.hid (HA.out.below hb)
    replace HBB := Lib.hid (HBB.out.below hb)
    have HB0 := Lib.hid hb
    have E0 := Lib.hid e0
    have E1 := Lib.hid e1
    clear hS hb hsz e0 e1
    have k_E0_0 := E0.out.cell 0
    have k_E0_1 := E0.out.cell 1
    have k_E1_0 := E1.out.cell 0
    have k_E1_1 := E1.out.cell 1
    go_wp2_with fail
    with_reducible refine (HRY.out _ _ HBB.out).mono ?_
    rintro e w1 ⟨u, rfl, hu, hb⟩
    clear k_E0_0 k_E0_1 k_E1_0 k_E1_1
    replace HA := Lib.hid (HA.out.below hb)
    replace HBB := Lib.hid (HBB.out.below hb)
    replace E0 := Lib.hid (blk_below E0.out hb)
    replace E1 := Lib.hid (blk_below E1.out hb)
    replace HB0 := Lib.hid (cbt HB0.out hb)
    have NY := Lib.hid hu
    clear hb hu
    have k_E0_0 := E0.out.cell 0
    have k_E0_1 := E0.out.cell 1
    have k_E1_0 := E1.out.cell 0
    have k_E1_1 := E1.out.cell 1
    have ZY := NY.out
    obtain ⟨P, cp, rfl, _, _⟩ := ZY
    have hlen := len_R256 NY.out
    obtain ⟨ly, hly⟩ : ∃ k, (cs 8 y).length = k := ⟨_, rfl⟩
    rw [hly] at NY hlen ⊢
    have hd1 : ((ly : Int) == 0) = true := beq_iff_eq.2 (by omega)
    clear hly hlen hwy
    go_upto_region 4 with (fail)
    have b3 := Blk.new w1 3 #[.int .i64 1]
    have hb := cba (Below.refl _ w1) (.cells #[.int .i64 1] 3)
    obtain ⟨X, hX⟩ : ∃ X, w1.alloc (.cells #[.int .i64 1] 3) = X := ⟨_, rfl⟩
    rw [hX] at b3 hb ⊢
    have ND := Lib.hid (R256.one b3)
    replace HA := Lib.hid (HA.out.below hb)
    replace E0 := Lib.hid (blk_below E0.out hb)
    replace E1 := Lib.hid (blk_below E1.out hb)
    replace HB0 := Lib.hid (cbt HB0.out hb)
    clear hX b3 hb k_E0_0 k_E0_1 k_E1_0 k_E1_1
    have k_E0_0 := E0.out.cell 0
    have k_E0_1 := E0.out.cell 1
    have k_E1_0 := E1.out.cell 0
    have k_E1_1 := E1.out.cell 1
    go_wp2_with fail
    with_reducible refine (HRX.out _ _ HA.out).mono ?_
    rintro e w3 ⟨u, rfl, hu, hb⟩
    clear k_E0_0 k_E0_1 k_E1_0 k_E1_1
    replace HA := Lib.hid (HA.out.below hb)
    replace ND := Lib.hid (ND.out.below hb)
    replace E0 := Lib.hid (blk_below E0.out hb)
    replace E1 := Lib.hid (blk_below E1.out hb)
    replace HB0 := Lib.hid (cbt HB0.out hb)
    have NX := Lib.hid hu
    clear hb hu
    have k_E0_0 := E0.out.cell 0
    have k_E0_1 := E0.out.cell 1
    have k_E1_0 := E1.out.cell 0
    have k_E1_1 := E1.out.cell 1
    go_wp2_with fail
    with_reducible refine (HOF.out _ _ _ NX.out ND.out).mono ?_
    rintro e w4 ⟨u, rfl, hu, hb⟩
    clear k_E0_0 k_E0_1 k_E1_0 k_E1_1
    replace HA := Lib.hid (HA.out.below hb)
    replace ND := Lib.hid (ND.out.below hb)
    replace NX := Lib.hid (NX.out.below hb)
    replace E0 := Lib.hid (blk_below E0.out hb)
    replace E1 := Lib.hid (blk_below E1.out hb)
    replace HB0 := Lib.hid (cbt HB0.out hb)
    have NR := Lib.hid hu
    clear hb hu
    have k_E0_0 := E0.out.cell 0
    have k_E0_1 := E0.out.cell 1
    have k_E1_0 := E1.out.cell 0
    have k_E1_1 := E1.out.cell 1
    have ZR := NR.out
    obtain ⟨A1, p1, c1, B1, q1, e1, rfl, _, _⟩ := ZR
    have f0 := E1.out.frozen 0
    have f1 := E1.out.frozen 1
    have HX := Lib.hid (show MkR w (rn x (1)) (rd x (1)) (.returned (.agg #[.slice A1 p1 c1, .slice B1 q1 e1])) ((w4.setCell ⟨w.heap.size + 1, 0, none⟩ (.slice A1 p1 c1)).setCell ⟨w.heap.size + 1, 1, none⟩ (.slice B1 q1 e1)) from
      ⟨_, rfl, (NR.out.keep (Keep.set E1.out 0 rfl _)).keep (Keep.set (E1.out.set_ 0 _) 1 rfl _), (HB0.out.setCell (p := ⟨w.heap.size + 1, 0, none⟩) (by simp only []; omega) _).setCell (p := ⟨w.heap.size + 1, 1, none⟩) (by simp only []; omega) _⟩)
    go_wp2
    exact bodyPost_ret (v := .agg #[.slice A1 p1 c1, .slice B1 q1 e1]) (by simp [results, Try.results38, go_sem, k_E1_0, k_E1_1]) rfl HX.out
  · have hdy : den1 y = y := by unfold den1; rw [if_neg hy0]
    have hwy : wl 8 y ≠ 0 := fun h => hy0 ((wl_eq_zero (by decide)).1 h)
    rw [hdy] at HOF ⊢
    clear hdy y8 hy0
    have e0 := (Blk.new (w) 45 #[(.slice A p c), (.slice B q d)]).alloc (.cells #[(.slice none 0 0), (.slice none 0 0)] 52)
    have e1 := Blk.new ((w).alloc (.cells #[(.slice A p c), (.slice B q d)] 45)) 52 #[(.slice none 0 0), (.slice none 0 0)]
    have hb := cba (cba (Below.refl _ w) (.cells #[(.slice A p c), (.slice B q d)] 45)) (.cells #[(.slice none 0 0), (.slice none 0 0)] 52)
    simp only [World.size_alloc] at e1
    have hsz : w.heap.size ≤ w.heap.size := Nat.le_refl _
    go_enter Try.func38, Try.ntmps38
    go_upto_region 1 with (fail)
    obtain ⟨S, hS⟩ : ∃ S, ((w).alloc (.cells #[(.slice A p c), (.slice B q d)] 45)).alloc (.cells #[(.slice none 0 0), (.slice none 0 0)] 52) = S := ⟨_, rfl⟩
    rw [hS] at e0 e1 hb ⊢
    replace HA := Lib.hid (HA.out.below hb)
    replace HBB := Lib.hid (HBB.out.below hb)
    have HB0 := Lib.hid hb
    have E0 := Lib.hid e0
    have E1 := Lib.hid e1
    clear hS hb hsz e0 e1
    have k_E0_0 := E0.out.cell 0
    have k_E0_1 := E0.out.cell 1
    have k_E1_0 := E1.out.cell 0
    have k_E1_1 := E1.out.cell 1
    go_wp2_with fail
    with_reducible refine (HRY.out _ _ HBB.out).mono ?_
    rintro e w1 ⟨u, rfl, hu, hb⟩
    clear k_E0_0 k_E0_1 k_E1_0 k_E1_1
    replace HA := Lib.hid (HA.out.below hb)
    replace HBB := Lib.hid (HBB.out.below hb)
    replace E0 := Lib.hid (blk_below E0.out hb)
    replace E1 := Lib.hid (blk_below E1.out hb)
    replace HB0 := Lib.hid (cbt HB0.out hb)
    have NY := Lib.hid hu
    clear hb hu
    have k_E0_0 := E0.out.cell 0
    have k_E0_1 := E0.out.cell 1
    have k_E1_0 := E1.out.cell 0
    have k_E1_1 := E1.out.cell 1
    have ZY := NY.out
    obtain ⟨P, cp, rfl, _, _⟩ := ZY
    have hlen := len_R256 NY.out
    obtain ⟨ly, hly⟩ : ∃ k, (cs 8 y).length = k := ⟨_, rfl⟩
    rw [hly] at NY hlen ⊢
    have hd1 : ((ly : Int) == 0) = false := beq_eq_false_iff_ne.2 (by omega)
    clear hly hlen hwy
    have ND := NY
    go_wp2_with fail
    with_reducible refine (HRX.out _ _ HA.out).mono ?_
    rintro e w3 ⟨u, rfl, hu, hb⟩
    clear k_E0_0 k_E0_1 k_E1_0 k_E1_1
    replace HA := Lib.hid (HA.out.below hb)
    replace ND := Lib.hid (ND.out.below hb)
    replace E0 := Lib.hid (blk_below E0.out hb)
    replace E1 := Lib.hid (blk_below E1.out hb)
    replace HB0 := Lib.hid (cbt HB0.out hb)
    have NX := Lib.hid hu
    clear hb hu
    have k_E0_0 := E0.out.cell 0
    have k_E0_1 := E0.out.cell 1
    have k_E1_0 := E1.out.cell 0
    have k_E1_1 := E1.out.cell 1
    go_wp2_with fail
    with_reducible refine (HOF.out _ _ _ NX.out ND.out).mono ?_
    rintro e w4 ⟨u, rfl, hu, hb⟩
    clear k_E0_0 k_E0_1 k_E1_0 k_E1_1
    replace HA := Lib.hid (HA.out.below hb)
    replace ND := Lib.hid (ND.out.below hb)
    replace NX := Lib.hid (NX.out.below hb)
    replace E0 := Lib.hid (blk_below E0.out hb)
    replace E1 := Lib.hid (blk_below E1.out hb)
    replace HB0 := Lib.hid (cbt HB0.out hb)
    have NR := Lib.hid hu
    clear hb hu
    have k_E0_0 := E0.out.cell 0
    have k_E0_1 := E0.out.cell 1
    have k_E1_0 := E1.out.cell 0
    have k_E1_1 := E1.out.cell 1
    have ZR := NR.out
    obtain ⟨A1, p1, c1, B1, q1, e1, rfl, _, _⟩ := ZR
    have f0 := E1.out.frozen 0
    have f1 := E1.out.frozen 1
    have HX := Lib.hid (show MkR w (rn x (y)) (rd x (y)) (.returned (.agg #[.slice A1 p1 c1, .slice B1 q1 e1])) ((w4.setCell ⟨w.heap.size + 1, 0, none⟩ (.slice A1 p1 c1)).setCell ⟨w.heap.size + 1, 1, none⟩ (.slice B1 q1 e1)) from
      ⟨_, rfl, (NR.out.keep (Keep.set E1.out 0 rfl _)).keep (Keep.set (E1.out.set_ 0 _) 1 rfl _), (HB0.out.setCell (p := ⟨w.heap.size + 1, 0, none⟩) (by simp only []; omega) _).setCell (p := ⟨w.heap.size + 1, 1, none⟩) (by simp only []; omega) _⟩)
    go_wp2
    exact bodyPost_ret (v := .agg #[.slice A1 p1 c1, .slice B1 q1 e1]) (by simp [results, Try.results38, go_sem, k_E1_0, k_E1_1]) rfl HX.out
set_option maxRecDepth 100000 in
set_option maxHeartbeats 4000000 in
theorem small_any (v : Value) (l m : List Int) (k : Nat) (w : World) (h : Frc w v l m) : Calls Try.prog 64 #[v, .int .i64 (k : Nat)] w fun x w' => x = .returned (.bool (decide (l.length ≤ k) && decide (m.length ≤ k))) ∧ Below w.heap.size w w' := by
  obtain ⟨A, p, c, B, q, d, rfl, hA, hB, hla, hlb⟩ := h
  rw [hla, hlb]
  clear hla hlb hA hB
  by_cases h1 : p ≤ k
  · by_cases h2 : q ≤ k
    · have ea : decide (p ≤ k) = true := decide_eq_true (by omega)
      have eb : decide (q ≤ k) = true := decide_eq_true (by omega)
      rw [ea, eb]
      clear h1 h2
      have e0 := Blk.new (w) 45 #[(.slice A p c), (.slice B q d)]
      have hb := cba (Below.refl _ w) (.cells #[(.slice A p c), (.slice B q d)] 45)
      have hsz : w.heap.size ≤ w.heap.size := Nat.le_refl _
      go_enter Try.func64, Try.ntmps64
      go_upto_region 1 with (fail)
      obtain ⟨S, hS⟩ : ∃ S, (w).alloc (.cells #[(.slice A p c), (.slice B q d)] 45) = S := ⟨_, rfl⟩
      rw [hS] at e0 hb ⊢
      have HB0 := Lib.hid hb
      have E0 := Lib.hid e0
      clear hS hb hsz e0
      have k0 := E0.out.cell 0
      have k1 := E0.out.cell 1
      go_wp2_with fail
      go_ret
      exact ⟨rfl, HB0.out⟩
    · have ea : decide (p ≤ k) = true := decide_eq_true (by omega)
      have eb : decide (q ≤ k) = false := decide_eq_false (by omega)
      rw [ea, eb]
      clear h1 h2
      have e0 := Blk.new (w) 45 #[(.slice A p c), (.slice B q d)]
      have hb := cba (Below.refl _ w) (.cells #[(.slice A p c), (.slice B q d)] 45)
      have hsz : w.heap.size ≤ w.heap.size := Nat.le_refl _
      go_enter Try.func64, Try.ntmps64
      go_upto_region 1 with (fail)
      obtain ⟨S, hS⟩ : ∃ S, (w).alloc (.cells #[(.slice A p c), (.slice B q d)] 45) = S := ⟨_, rfl⟩
      rw [hS] at e0 hb ⊢
      have HB0 := Lib.hid hb
      have E0 := Lib.hid e0
      clear hS hb hsz e0
      have k0 := E0.out.cell 0
      have k1 := E0.out.cell 1
      go_wp2_with fail
      go_ret
      exact ⟨rfl, HB0.out⟩
  · have ea : decide (p ≤ k) = false := decide_eq_false (by omega)
    rw [ea]
    clear h1
    have e0 := Blk.new (w) 45 #[(.slice A p c), (.slice B q d)]
    have hb := cba (Below.refl _ w) (.cells #[(.slice A p c), (.slice B q d)] 45)
    have hsz : w.heap.size ≤ w.heap.size := Nat.le_refl _
    go_enter Try.func64, Try.ntmps64
    go_upto_region 1 with (fail)
    obtain ⟨S, hS⟩ : ∃ S, (w).alloc (.cells #[(.slice A p c), (.slice B q d)] 45) = S := ⟨_, rfl⟩
    rw [hS] at e0 hb ⊢
    have HB0 := Lib.hid hb
    have E0 := Lib.hid e0
    clear hS hb hsz e0
    have k0 := E0.out.cell 0
    have k1 := E0.out.cell 1
    go_wp2_with fail
    go_ret
    exact ⟨rfl, HB0.out⟩
end Go.Proofs.Yteikhnmmkanndaa
namespace Go.Proofs.Yteikhnmmkanndaa
open Go.RowKit Go.Proofs.YteikhnmmkanndaaW.PrintWords
set_option linter.unusedSimpArgs false
set_option linter.unusedVariables false
theorem dig_5 : nat_digits_f 100 5 [53] := ⟨by kernel_rfl, by decide, by decide⟩
theorem dig_6 : nat_digits_f 100 6 [54] := ⟨by kernel_rfl, by decide, by decide⟩
theorem dig_3 : nat_digits_f 100 3 [51] := ⟨by kernel_rfl, by decide, by decide⟩
theorem dig_2 : nat_digits_f 100 2 [50] := ⟨by kernel_rfl, by decide, by decide⟩
theorem dig_1 : nat_digits_f 100 1 [49] := ⟨by kernel_rfl, by decide, by decide⟩
theorem dig_0 : nat_digits_f 100 0 [48] := ⟨by kernel_rfl, by decide, by decide⟩
theorem rtext_lit (v : Value) (n d : Nat) (ln ld : List Int) (s : ByteArray) (w : World) (ha : F64 w v n d) (hn : n < 10 ^ 19) (hd : d < 10 ^ 19) (hln : nat_digits_f 100 n ln) (hld : nat_digits_f 100 d ld) (z1 : (strOfNums ln).size ≤ 100000) (z2 : (strOfNums ld).size ≤ 100000) (hs : strOfNums ln ++ ⟨#[47]⟩ ++ strOfNums ld = s) :
    Calls Try.prog 72 #[v] w fun x w' => x = .returned (.string s) ∧ Below w.heap.size w w' := by
  have := rtext_of v n d _ _ w ha (fun u W h => ntext_one u n ln W h hn hln) (fun u W h => ntext_one u d ld W h hd hld) z1 z2
  rwa [hs] at this
theorem of_lit (x : Nat) (hx : x < 2 ^ 64) (k : Int) (hk : k = (x : Int)) (W : World) : Calls Try.prog 50 #[.int .u64 k] W (fun e w' => ∃ v, e = .returned v ∧ N64 w' v x ∧ Below W.heap.size W w') := by
  subst hk
  exact of_any x hx W
theorem rof_lit (va vb : Value) (n d a b : Nat) (W : World) (ha : N64 W va n) (hb : N64 W vb d) (hn : wl 64 n ≤ 100000000) (hd : wl 64 d ≤ 100000000) (h0 : 0 < d) (e1 : rn n d = a) (e2 : rd n d = b) : Calls Try.prog 61 #[va, vb] W fun x w' => ∃ v, x = .returned (.tuple #[v, .int .i64 0]) ∧ F64 w' v a b ∧ Below W.heap.size W w' := by
  subst e1 e2
  exact rofF_any va vb n d W ha hb hn hd h0
theorem w64_lit {x : Nat} (h : x < 2 ^ 64) : wl 64 x ≤ 1 := (wl_le (by decide) x 1).2 h
set_option maxRecDepth 100000 in
set_option maxHeartbeats 4000000 in
theorem live26_any (w : World) : Calls Try.prog 65 #[] w fun e w' => e = .returned (.bool true) ∧ Below w.heap.size w w' := by
  have O1 : Hid (∀ W, Calls Try.prog 50 #[.int .u64 1] W (fun e w' => ∃ v, e = .returned v ∧ N64 w' v 1 ∧ Below W.heap.size W w')) := Lib.hid (fun W => of_lit 1 (by decide) 1 rfl W)
  have O2 : Hid (∀ W, Calls Try.prog 50 #[.int .u64 2] W (fun e w' => ∃ v, e = .returned v ∧ N64 w' v 2 ∧ Below W.heap.size W w')) := Lib.hid (fun W => of_lit 2 (by decide) 2 rfl W)
  have O3 : Hid (∀ W, Calls Try.prog 50 #[.int .u64 3] W (fun e w' => ∃ v, e = .returned v ∧ N64 w' v 3 ∧ Below W.heap.size W w')) := Lib.hid (fun W => of_lit 3 (by decide) 3 rfl W)
  have O6 : Hid (∀ W, Calls Try.prog 50 #[.int .u64 6] W (fun e w' => ∃ v, e = .returned v ∧ N64 w' v 6 ∧ Below W.heap.size W w')) := Lib.hid (fun W => of_lit 6 (by decide) 6 rfl W)
  have O4 : Hid (∀ W, Calls Try.prog 50 #[.int .u64 4] W (fun e w' => ∃ v, e = .returned v ∧ N64 w' v 4 ∧ Below W.heap.size W w')) := Lib.hid (fun W => of_lit 4 (by decide) 4 rfl W)
  have R12 : Hid (∀ va vb W, N64 W va 1 → N64 W vb 2 → Calls Try.prog 61 #[va, vb] W fun x w' => ∃ v, x = .returned (.tuple #[v, .int .i64 0]) ∧ F64 w' v 1 2 ∧ Below W.heap.size W w') := Lib.hid (fun va vb W h1 h2 => rof_lit va vb 1 2 1 2 W h1 h2 (Nat.le_trans (w64_lit (by decide)) (by decide)) (Nat.le_trans (w64_lit (by decide)) (by decide)) (by decide) (by decide) (by decide))
  have R13 : Hid (∀ va vb W, N64 W va 1 → N64 W vb 3 → Calls Try.prog 61 #[va, vb] W fun x w' => ∃ v, x = .returned (.tuple #[v, .int .i64 0]) ∧ F64 w' v 1 3 ∧ Below W.heap.size W w') := Lib.hid (fun va vb W h1 h2 => rof_lit va vb 1 3 1 3 W h1 h2 (Nat.le_trans (w64_lit (by decide)) (by decide)) (Nat.le_trans (w64_lit (by decide)) (by decide)) (by decide) (by decide) (by decide))
  have R64 : Hid (∀ va vb W, N64 W va 6 → N64 W vb 4 → Calls Try.prog 61 #[va, vb] W fun x w' => ∃ v, x = .returned (.tuple #[v, .int .i64 0]) ∧ F64 w' v 3 2 ∧ Below W.heap.size W w') := Lib.hid (fun va vb W h1 h2 => rof_lit va vb 6 4 3 2 W h1 h2 (Nat.le_trans (w64_lit (by decide)) (by decide)) (Nat.le_trans (w64_lit (by decide)) (by decide)) (by decide) (by decide) (by decide))
  have T56 : Hid (∀ v W, F64 W v 5 6 → Calls Try.prog 72 #[v] W (fun x w' => x = .returned (.string ⟨#[53, 47, 54]⟩) ∧ Below W.heap.size W w')) := Lib.hid (fun v W h => rtext_lit v 5 6 [53] [54] _ W h (by decide) (by decide) dig_5 dig_6 (by decide) (by decide) (by kernel_rfl))
  have T32 : Hid (∀ v W, F64 W v 3 2 → Calls Try.prog 72 #[v] W (fun x w' => x = .returned (.string ⟨#[51, 47, 50]⟩) ∧ Below W.heap.size W w')) := Lib.hid (fun v W h => rtext_lit v 3 2 [51] [50] _ W h (by decide) (by decide) dig_3 dig_2 (by decide) (by decide) (by kernel_rfl))
  have T01 : Hid (∀ v W, F64 W v 0 1 → Calls Try.prog 72 #[v] W (fun x w' => x = .returned (.string ⟨#[48, 47, 49]⟩) ∧ Below W.heap.size W w')) := Lib.hid (fun v W h => rtext_lit v 0 1 [48] [49] _ W h (by decide) (by decide) dig_0 dig_1 (by decide) (by decide) (by kernel_rfl))
  have HAD : Hid (∀ v W, RowF W v 2 (ofL [(1, 2), (1, 3)]) → Calls Try.prog 66 #[v] W (MkF W 5 6)) := Lib.hid (fun v W h => radd_two v 1 2 1 3 1 W (by decide) h (by decide) (by decide) (w64_lit (by decide)) (w64_lit (by decide)) (w64_lit (by decide)) (w64_lit (by decide)))
  have HLE : Hid (∀ va vb W, F64 W va 1 3 → F64 W vb 1 2 → Calls Try.prog 62 #[va, vb] W (MkF W 0 1)) := Lib.hid (fun va vb W h1 h2 => rlessF_no va vb 1 3 1 2 W h1 h2 (Nat.le_trans (w64_lit (by decide)) (by decide)) (Nat.le_trans (w64_lit (by decide)) (by decide)) (Nat.le_trans (w64_lit (by decide)) (by decide)) (Nat.le_trans (w64_lit (by decide)) (by decide)) (by decide))
  have HB0 := Lib.hid (Below.refl w.heap.size w)
  go_enter Try.func65, Try.ntmps65
  go_wp2_with fail
  with_reducible refine (O1.out _).mono ?_
  rintro e w1a ⟨u, rfl, hu, hb⟩
  replace HB0 := Lib.hid (cbt HB0.out hb)
  have N1 := Lib.hid hu
  clear hb hu
  go_wp2_with fail
  with_reducible refine (O2.out _).mono ?_
  rintro e w1b ⟨u, rfl, hu, hb⟩
  replace N1 := Lib.hid (N1.out.below hb)
  replace HB0 := Lib.hid (cbt HB0.out hb)
  have N2 := Lib.hid hu
  clear hb hu
  go_wp2_with fail
  with_reducible refine (R12.out _ _ _ N1.out N2.out).mono ?_
  rintro e w1c ⟨u, rfl, hu, hb⟩
  replace N1 := Lib.hid (N1.out.below hb)
  replace N2 := Lib.hid (N2.out.below hb)
  replace HB0 := Lib.hid (cbt HB0.out hb)
  have NA := Lib.hid hu
  clear hb hu
  clear N1 N2
  have Z0 := NA.out
  obtain ⟨AS0, pS0, cS0, BS0, qS0, eS0, xS0, rfl, _, _, _⟩ := Z0
  have e1 := Blk.new w1c 47 #[.slice AS0 pS0 cS0, .slice BS0 qS0 eS0]
  have hb := cba (Below.refl _ w1c) (.cells #[.slice AS0 pS0 cS0, .slice BS0 qS0 eS0] 47)
  go_upto_region 2 with (fail)
  obtain ⟨S, hS⟩ : ∃ S, (w1c.alloc (.cells #[.slice AS0 pS0 cS0, .slice BS0 qS0 eS0] 47)) = S := ⟨_, rfl⟩
  rw [hS] at e1 hb ⊢
  obtain ⟨g1, hg⟩ : ∃ g, w1c.heap.size = g := ⟨_, rfl⟩
  rw [hg] at e1
  simp only [hg]
  replace NA := Lib.hid (NA.out.below hb)
  replace HB0 := Lib.hid (cbt HB0.out hb)
  have E1 := Lib.hid e1
  clear hS hg hb e1
  have k_E1_0 := E1.out.cell 0
  have k_E1_1 := E1.out.cell 1
  go_wp2_with fail
  with_reducible refine (O1.out _).mono ?_
  rintro e w2a ⟨u, rfl, hu, hb⟩
  clear k_E1_0 k_E1_1
  replace NA := Lib.hid (NA.out.below hb)
  replace E1 := Lib.hid (blk_below E1.out hb)
  replace HB0 := Lib.hid (cbt HB0.out hb)
  have N1 := Lib.hid hu
  clear hb hu
  have k_E1_0 := E1.out.cell 0
  have k_E1_1 := E1.out.cell 1
  go_wp2_with fail
  with_reducible refine (O3.out _).mono ?_
  rintro e w2b ⟨u, rfl, hu, hb⟩
  clear k_E1_0 k_E1_1
  replace NA := Lib.hid (NA.out.below hb)
  replace N1 := Lib.hid (N1.out.below hb)
  replace E1 := Lib.hid (blk_below E1.out hb)
  replace HB0 := Lib.hid (cbt HB0.out hb)
  have N2 := Lib.hid hu
  clear hb hu
  have k_E1_0 := E1.out.cell 0
  have k_E1_1 := E1.out.cell 1
  go_wp2_with fail
  with_reducible refine (R13.out _ _ _ N1.out N2.out).mono ?_
  rintro e w2c ⟨u, rfl, hu, hb⟩
  clear k_E1_0 k_E1_1
  replace NA := Lib.hid (NA.out.below hb)
  replace N1 := Lib.hid (N1.out.below hb)
  replace N2 := Lib.hid (N2.out.below hb)
  replace E1 := Lib.hid (blk_below E1.out hb)
  replace HB0 := Lib.hid (cbt HB0.out hb)
  have NB := Lib.hid hu
  clear hb hu
  have k_E1_0 := E1.out.cell 0
  have k_E1_1 := E1.out.cell 1
  clear N1 N2
  have Z0 := NB.out
  obtain ⟨AT0, pT0, cT0, BT0, qT0, eT0, xT0, rfl, _, _, _⟩ := Z0
  have e2 := Blk.new w2c 47 #[.slice AT0 pT0 cT0, .slice BT0 qT0 eT0]
  have hb := cba (Below.refl _ w2c) (.cells #[.slice AT0 pT0 cT0, .slice BT0 qT0 eT0] 47)
  go_upto_region 3 with (fail)
  obtain ⟨T, hS⟩ : ∃ S, (w2c.alloc (.cells #[.slice AT0 pT0 cT0, .slice BT0 qT0 eT0] 47)) = S := ⟨_, rfl⟩
  rw [hS] at e2 hb ⊢
  obtain ⟨g2, hg⟩ : ∃ g, w2c.heap.size = g := ⟨_, rfl⟩
  rw [hg] at e2
  simp only [hg]
  replace NA := Lib.hid (NA.out.below hb)
  replace NB := Lib.hid (NB.out.below hb)
  replace E1 := Lib.hid (blk_below E1.out hb)
  replace HB0 := Lib.hid (cbt HB0.out hb)
  have E2 := Lib.hid e2
  clear hS hg hb e2 k_E1_0 k_E1_1
  have k_E1_0 := E1.out.cell 0
  have k_E1_1 := E1.out.cell 1
  have k_E2_0 := E2.out.cell 0
  have k_E2_1 := E2.out.cell 1
  go_wp2_with fail
  with_reducible refine (O6.out _).mono ?_
  rintro e w3a ⟨u, rfl, hu, hb⟩
  clear k_E1_0 k_E1_1 k_E2_0 k_E2_1
  replace NA := Lib.hid (NA.out.below hb)
  replace NB := Lib.hid (NB.out.below hb)
  replace E1 := Lib.hid (blk_below E1.out hb)
  replace E2 := Lib.hid (blk_below E2.out hb)
  replace HB0 := Lib.hid (cbt HB0.out hb)
  have N1 := Lib.hid hu
  clear hb hu
  have k_E1_0 := E1.out.cell 0
  have k_E1_1 := E1.out.cell 1
  have k_E2_0 := E2.out.cell 0
  have k_E2_1 := E2.out.cell 1
  go_wp2_with fail
  with_reducible refine (O4.out _).mono ?_
  rintro e w3b ⟨u, rfl, hu, hb⟩
  clear k_E1_0 k_E1_1 k_E2_0 k_E2_1
  replace NA := Lib.hid (NA.out.below hb)
  replace NB := Lib.hid (NB.out.below hb)
  replace N1 := Lib.hid (N1.out.below hb)
  replace E1 := Lib.hid (blk_below E1.out hb)
  replace E2 := Lib.hid (blk_below E2.out hb)
  replace HB0 := Lib.hid (cbt HB0.out hb)
  have N2 := Lib.hid hu
  clear hb hu
  have k_E1_0 := E1.out.cell 0
  have k_E1_1 := E1.out.cell 1
  have k_E2_0 := E2.out.cell 0
  have k_E2_1 := E2.out.cell 1
  go_wp2_with fail
  with_reducible refine (R64.out _ _ _ N1.out N2.out).mono ?_
  rintro e w3c ⟨u, rfl, hu, hb⟩
  clear k_E1_0 k_E1_1 k_E2_0 k_E2_1
  replace NA := Lib.hid (NA.out.below hb)
  replace NB := Lib.hid (NB.out.below hb)
  replace N1 := Lib.hid (N1.out.below hb)
  replace N2 := Lib.hid (N2.out.below hb)
  replace E1 := Lib.hid (blk_below E1.out hb)
  replace E2 := Lib.hid (blk_below E2.out hb)
  replace HB0 := Lib.hid (cbt HB0.out hb)
  have NC := Lib.hid hu
  clear hb hu
  have k_E1_0 := E1.out.cell 0
  have k_E1_1 := E1.out.cell 1
  have k_E2_0 := E2.out.cell 0
  have k_E2_1 := E2.out.cell 1
  clear N1 N2
  have Z0 := NC.out
  obtain ⟨AU0, pU0, cU0, BU0, qU0, eU0, xU0, rfl, _, _, _⟩ := Z0
  have e3 := Blk.new w3c 47 #[.slice AU0 pU0 cU0, .slice BU0 qU0 eU0]
  have hb := cba (Below.refl _ w3c) (.cells #[.slice AU0 pU0 cU0, .slice BU0 qU0 eU0] 47)
  go_upto_region 4 with (fail)
  obtain ⟨U, hS⟩ : ∃ S, (w3c.alloc (.cells #[.slice AU0 pU0 cU0, .slice BU0 qU0 eU0] 47)) = S := ⟨_, rfl⟩
  rw [hS] at e3 hb ⊢
  obtain ⟨g3, hg⟩ : ∃ g, w3c.heap.size = g := ⟨_, rfl⟩
  rw [hg] at e3
  simp only [hg]
  replace NA := Lib.hid (NA.out.below hb)
  replace NB := Lib.hid (NB.out.below hb)
  replace NC := Lib.hid (NC.out.below hb)
  replace E1 := Lib.hid (blk_below E1.out hb)
  replace E2 := Lib.hid (blk_below E2.out hb)
  replace HB0 := Lib.hid (cbt HB0.out hb)
  have E3 := Lib.hid e3
  clear hS hg hb e3 k_E1_0 k_E1_1 k_E2_0 k_E2_1
  have k_E1_0 := E1.out.cell 0
  have k_E1_1 := E1.out.cell 1
  have k_E2_0 := E2.out.cell 0
  have k_E2_1 := E2.out.cell 1
  have k_E3_0 := E3.out.cell 0
  have k_E3_1 := E3.out.cell 1
  have HROW := Lib.hid (RowF.two (Blk.new U 47 #[.slice AS0 pS0 cS0, .slice BS0 qS0 eS0, .slice AT0 pT0 cT0, .slice BT0 qT0 eT0]) (NA.out.below (cba (Below.refl _ U) (.cells #[.slice AS0 pS0 cS0, .slice BS0 qS0 eS0, .slice AT0 pT0 cT0, .slice BT0 qT0 eT0] 47))) (NB.out.below (cba (Below.refl _ U) (.cells #[.slice AS0 pS0 cS0, .slice BS0 qS0 eS0, .slice AT0 pT0 cT0, .slice BT0 qT0 eT0] 47))))
  go_wp2_with fail
  with_reducible refine (HAD.out _ _ HROW.out).mono ?_
  rintro e w4 ⟨u, rfl, hu, hb'⟩
  have hb := cbt (cba (Below.refl _ U) (.cells #[.slice AS0 pS0 cS0, .slice BS0 qS0 eS0, .slice AT0 pT0 cT0, .slice BT0 qT0 eT0] 47)) hb'
  clear hb' HROW
  clear k_E1_0 k_E1_1 k_E2_0 k_E2_1 k_E3_0 k_E3_1
  replace NA := Lib.hid (NA.out.below hb)
  replace NB := Lib.hid (NB.out.below hb)
  replace NC := Lib.hid (NC.out.below hb)
  replace E1 := Lib.hid (blk_below E1.out hb)
  replace E2 := Lib.hid (blk_below E2.out hb)
  replace E3 := Lib.hid (blk_below E3.out hb)
  replace HB0 := Lib.hid (cbt HB0.out hb)
  have NS := Lib.hid hu
  clear hb hu
  have k_E1_0 := E1.out.cell 0
  have k_E1_1 := E1.out.cell 1
  have k_E2_0 := E2.out.cell 0
  have k_E2_1 := E2.out.cell 1
  have k_E3_0 := E3.out.cell 0
  have k_E3_1 := E3.out.cell 1
  go_wp2_with fail
  with_reducible refine (T56.out _ _ NS.out).mono ?_
  rintro e w5 ⟨rfl, hb⟩
  clear k_E1_0 k_E1_1 k_E2_0 k_E2_1 k_E3_0 k_E3_1
  replace NA := Lib.hid (NA.out.below hb)
  replace NB := Lib.hid (NB.out.below hb)
  replace NC := Lib.hid (NC.out.below hb)
  replace NS := Lib.hid (NS.out.below hb)
  replace E1 := Lib.hid (blk_below E1.out hb)
  replace E2 := Lib.hid (blk_below E2.out hb)
  replace E3 := Lib.hid (blk_below E3.out hb)
  replace HB0 := Lib.hid (cbt HB0.out hb)
  clear hb
  have k_E1_0 := E1.out.cell 0
  have k_E1_1 := E1.out.cell 1
  have k_E2_0 := E2.out.cell 0
  have k_E2_1 := E2.out.cell 1
  have k_E3_0 := E3.out.cell 0
  have k_E3_1 := E3.out.cell 1
  go_wp2_with fail
  with_reducible refine (T32.out _ _ NC.out).mono ?_
  rintro e w6 ⟨rfl, hb⟩
  clear k_E1_0 k_E1_1 k_E2_0 k_E2_1 k_E3_0 k_E3_1
  replace NA := Lib.hid (NA.out.below hb)
  replace NB := Lib.hid (NB.out.below hb)
  replace NC := Lib.hid (NC.out.below hb)
  replace NS := Lib.hid (NS.out.below hb)
  replace E1 := Lib.hid (blk_below E1.out hb)
  replace E2 := Lib.hid (blk_below E2.out hb)
  replace E3 := Lib.hid (blk_below E3.out hb)
  replace HB0 := Lib.hid (cbt HB0.out hb)
  clear hb
  have k_E1_0 := E1.out.cell 0
  have k_E1_1 := E1.out.cell 1
  have k_E2_0 := E2.out.cell 0
  have k_E2_1 := E2.out.cell 1
  have k_E3_0 := E3.out.cell 0
  have k_E3_1 := E3.out.cell 1
  go_wp2_with fail
  with_reducible refine (HLE.out _ _ _ NB.out NA.out).mono ?_
  rintro e w7 ⟨u, rfl, hu, hb⟩
  clear k_E1_0 k_E1_1 k_E2_0 k_E2_1 k_E3_0 k_E3_1
  replace NA := Lib.hid (NA.out.below hb)
  replace NB := Lib.hid (NB.out.below hb)
  replace NC := Lib.hid (NC.out.below hb)
  replace NS := Lib.hid (NS.out.below hb)
  replace E1 := Lib.hid (blk_below E1.out hb)
  replace E2 := Lib.hid (blk_below E2.out hb)
  replace E3 := Lib.hid (blk_below E3.out hb)
  replace HB0 := Lib.hid (cbt HB0.out hb)
  have NL := Lib.hid hu
  clear hb hu
  have k_E1_0 := E1.out.cell 0
  have k_E1_1 := E1.out.cell 1
  have k_E2_0 := E2.out.cell 0
  have k_E2_1 := E2.out.cell 1
  have k_E3_0 := E3.out.cell 0
  have k_E3_1 := E3.out.cell 1
  go_wp2_with fail
  with_reducible refine (T01.out _ _ NL.out).mono ?_
  rintro e w8 ⟨rfl, hb⟩
  clear k_E1_0 k_E1_1 k_E2_0 k_E2_1 k_E3_0 k_E3_1
  replace NA := Lib.hid (NA.out.below hb)
  replace NB := Lib.hid (NB.out.below hb)
  replace NC := Lib.hid (NC.out.below hb)
  replace NS := Lib.hid (NS.out.below hb)
  replace NL := Lib.hid (NL.out.below hb)
  replace E1 := Lib.hid (blk_below E1.out hb)
  replace E2 := Lib.hid (blk_below E2.out hb)
  replace E3 := Lib.hid (blk_below E3.out hb)
  replace HB0 := Lib.hid (cbt HB0.out hb)
  clear hb
  have k_E1_0 := E1.out.cell 0
  have k_E1_1 := E1.out.cell 1
  have k_E2_0 := E2.out.cell 0
  have k_E2_1 := E2.out.cell 1
  have k_E3_0 := E3.out.cell 0
  have k_E3_1 := E3.out.cell 1
  go_wp2_with fail
  go_ret
  exact ⟨rfl, HB0.out⟩
end Go.Proofs.Yteikhnmmkanndaa
namespace Go.Proofs.Yteikhnmmkanndaa
open Go.RowKit Go.Proofs.YteikhnmmkanndaaW.PrintWords
def Red (a : Nat × Nat) : Prop := Nat.gcd a.1 a.2 = 1 ∧ 0 < a.2
theorem Red.rn {a : Nat × Nat} (h : Red a) : rn a.1 a.2 = a.1 := by unfold Yteikhnmmkanndaa.rn; rw [h.1, Nat.div_one]
theorem Red.rd {a : Nat × Nat} (h : Red a) : rd a.1 a.2 = a.2 := by unfold Yteikhnmmkanndaa.rd; rw [h.1, Nat.div_one]
theorem red_of {n d : Nat} (h : 0 < d) : Red (Yteikhnmmkanndaa.rn n d, Yteikhnmmkanndaa.rd n d) := ⟨Nat.coprime_div_gcd_div_gcd (Nat.gcd_pos_of_pos_right n h), rd_pos h⟩
def lessR (a b : Nat × Nat) : Nat × Nat := if a.1 * b.2 < b.1 * a.2 then (0, 1) else (rn (a.1 * b.2 - b.1 * a.2) (a.2 * b.2), rd (a.1 * b.2 - b.1 * a.2) (a.2 * b.2))
def mulR (a b : Nat × Nat) : Nat × Nat := (rn (a.1 * b.1) (a.2 * b.2), rd (a.1 * b.1) (a.2 * b.2))
def divR (a b : Nat × Nat) : Nat × Nat := (rn (a.1 * b.2) (a.2 * b.1), rd (a.1 * b.2) (a.2 * b.1))
def Sz (B : Nat) (a : Nat × Nat) : Prop := wl 8 a.1 ≤ B ∧ wl 8 a.2 ≤ B
theorem wl64_le (x : Nat) : wl 64 x ≤ wl 8 x := by
  rw [wl_le (by decide)]
  exact Nat.lt_of_lt_of_le (wl_lt (k := 8) (by decide) x) (Nat.pow_le_pow_right (by decide) (by omega))
theorem Sz.mono {B C : Nat} {a : Nat × Nat} (h : Sz B a) (hc : B ≤ C) : Sz C a := ⟨Nat.le_trans h.1 hc, Nat.le_trans h.2 hc⟩
theorem Sz.add {B C : Nat} {a b : Nat × Nat} (ha : Sz B a) (hb : Sz C b) : Sz (B + C + 1) (addR a b) := by
  have h1 := wl_mul_le (k := 8) (by decide) ha.1 hb.2
  have h2 := wl_mul_le (k := 8) (by decide) hb.1 ha.2
  have h3 := wl_mul_le (k := 8) (by decide) ha.2 hb.2
  have h4 := wl_add_le (k := 8) (x := a.1 * b.2) (y := b.1 * a.2) (a := B + C) (by decide) h1 (by omega)
  exact ⟨wl_rn (by decide) h4, wl_rd (by decide) (by omega)⟩
theorem Sz.less {B C : Nat} {a b : Nat × Nat} (ha : Sz B a) (hb : Sz C b) : Sz (B + C + 1) (lessR a b) := by
  have h1 := wl_mul_le (k := 8) (by decide) ha.1 hb.2
  have h3 := wl_mul_le (k := 8) (by decide) ha.2 hb.2
  have h4 := wl_mono (k := 8) (by decide) (Nat.sub_le (a.1 * b.2) (b.1 * a.2))
  unfold lessR
  split
  · refine ⟨?_, ?_⟩
    · show wl 8 0 ≤ _
      rw [wl_zero (by decide)]; omega
    · show wl 8 1 ≤ _
      rw [show wl 8 1 = 1 by decide +kernel]; omega
  · exact ⟨wl_rn (by decide) (by omega), wl_rd (by decide) (by omega)⟩
theorem Sz.mul {B C : Nat} {a b : Nat × Nat} (ha : Sz B a) (hb : Sz C b) : Sz (B + C) (mulR a b) :=
  ⟨wl_rn (by decide) (wl_mul_le (k := 8) (by decide) ha.1 hb.1), wl_rd (by decide) (wl_mul_le (k := 8) (by decide) ha.2 hb.2)⟩
theorem Sz.div {B C : Nat} {a b : Nat × Nat} (ha : Sz B a) (hb : Sz C b) : Sz (B + C) (divR a b) :=
  ⟨wl_rn (by decide) (wl_mul_le (k := 8) (by decide) ha.1 hb.2), wl_rd (by decide) (wl_mul_le (k := 8) (by decide) ha.2 hb.1)⟩
theorem Sz.w1 {B : Nat} {a : Nat × Nat} (h : Sz B a) : wl 64 a.1 ≤ B := Nat.le_trans (wl64_le _) h.1
theorem Sz.w2 {B : Nat} {a : Nat × Nat} (h : Sz B a) : wl 64 a.2 ≤ B := Nat.le_trans (wl64_le _) h.2
theorem Sz.zero : Sz 1 (0, 1) := ⟨by decide +kernel, by decide +kernel⟩
section
variable {a b c : Nat × Nat} {va vb v : Value} {W : World} {B : Nat}
theorem c_cmp (hB : B ≤ 100000) (sa : Sz B a) (sb : Sz B b) (h1 : F64 W va a.1 a.2) (h2 : F64 W vb b.1 b.2) : Calls Try.prog 44 #[va, vb] W fun x w' => x = .returned (.int .i64 (cmpN (a.1 * b.2) (b.1 * a.2))) ∧ Below W.heap.size W w' := by
  have q1 := sa.w1; have q2 := sa.w2; have q3 := sb.w1; have q4 := sb.w2
  exact rcmpF_any va vb a.1 a.2 b.1 b.2 W h1 h2 (by omega) (by omega) (by omega) (by omega)
theorem c_is (hB : B ≤ 100000) (sa : Sz B a) (h1 : F64 W va a.1 a.2) (h2 : RF W vb a.1 a.2) : Calls Try.prog 67 #[va, vb] W fun x w' => x = .returned (.bool true) ∧ Below W.heap.size W w' := by
  have q1 := sa.w1; have q2 := sa.w2; have q3 := sa.1; have q4 := sa.2
  exact isF_yes va vb a.1 a.2 W h1 h2 (by omega) (by omega) (by omega) (by omega)
end
def frcR (l m : List Int) : Nat × Nat := (rn (be l) (den1 (be m)), rd (be l) (den1 (be m)))
theorem frcR_red (l m : List Int) : Red (frcR l m) := red_of (den1_pos _)
theorem frcR_sz {l m : List Int} {B : Nat} (hl : Bys l) (hm : Bys m) (h1 : l.length ≤ B) (h2 : m.length ≤ B) : Sz (B + 1) (frcR l m) :=
  ⟨wl_rn (by decide) (Nat.le_trans (be_wl hl) (by omega)), wl_rd (by decide) (Nat.le_trans (den1_wl (b := B) (by decide) (Nat.le_trans (be_wl hm) h2)) (Nat.le_refl _))⟩
theorem c_to {v : Value} {l m : List Int} {W : World} (h : Frc W v l m) (hl : Bys l) (hm : Bys m) (h1 : l.length ≤ 10000) (h2 : m.length ≤ 10000) : Calls Try.prog 36 #[v] W (MkF W (frcR l m).1 (frcR l m).2) := to_any v l m W h hl hm h1 h2
theorem c_ref {v : Value} {l m : List Int} {W : World} (h : Frc W v l m) (hl : Bys l) (hm : Bys m) (h1 : l.length ≤ 10000) (h2 : m.length ≤ 10000) : Calls Try.prog 38 #[v] W (MkR W (frcR l m).1 (frcR l m).2) := ref_any v l m W h hl hm h1 h2
theorem c_small {v : Value} {l m : List Int} {k : Nat} {W : World} {r : Bool} (h : Frc W v l m) (hr : (decide (l.length ≤ k) && decide (m.length ≤ k)) = r) : Calls Try.prog 64 #[v, .int .i64 (k : Nat)] W fun x w' => x = .returned (.bool r) ∧ Below W.heap.size W w' := by
  have := small_any v l m k W h
  rwa [hr] at this
end Go.Proofs.Yteikhnmmkanndaa
namespace Go.Proofs.Yteikhnmmkanndaa
open Go.RowKit Go.Proofs.YteikhnmmkanndaaW.PrintWords Go.Proofs.Yteikhnmmkanndaa.PAll
def fixA : Nat → Nat → List Int
  | 0, _ => []
  | m + 1, v => ((48 + v % 10 : Nat) : Int) :: fixA m (v / 10)
theorem fixA_len : ∀ r x, (fixA r x).length = r
  | 0, _ => rfl
  | r + 1, x => by unfold fixA; rw [List.length_cons, fixA_len]
theorem fixA_app : ∀ (a b q y : Nat), y < 10 ^ a → fixA (a + b) (q * 10 ^ a + y) = fixA a y ++ fixA b q
  | 0, b, q, y, h => by
    have : y = 0 := by omega
    subst this
    rw [Nat.zero_add, Nat.pow_zero, Nat.mul_one, Nat.add_zero]
    rfl
  | a + 1, b, q, y, h => by
    have e : (q * 10 ^ (a + 1) + y) % 10 = y % 10 := by
      rw [Nat.pow_succ, ← Nat.mul_assoc]; omega
    have e2 : (q * 10 ^ (a + 1) + y) / 10 = q * 10 ^ a + y / 10 := by
      rw [Nat.pow_succ, ← Nat.mul_assoc]; omega
    rw [show a + 1 + b = (a + b) + 1 by omega]
    show _ :: _ = _ :: (fixA a (y / 10) ++ fixA b q)
    rw [e, e2, fixA_app a b q (y / 10) (by rw [Nat.pow_succ] at h; omega)]
def Dec (x : Nat) (l : List Int) : Prop := ∃ r, 1 ≤ r ∧ x < 10 ^ r ∧ (r = 1 ∨ 10 ^ (r - 1) ≤ x) ∧ l = (fixA r x).reverse
theorem Dec.unique {x : Nat} {l m : List Int} (h : Dec x l) (k : Dec x m) : l = m := by
  obtain ⟨r, h1, h2, h3, rfl⟩ := h
  obtain ⟨s, k1, k2, k3, rfl⟩ := k
  have key : ∀ r s : Nat, 1 ≤ r → x < 10 ^ r → (s = 1 ∨ 10 ^ (s - 1) ≤ x) → s ≤ r := by
    intro r s h1 h2 h3
    rcases h3 with h | h
    · omega
    · have := (Nat.pow_lt_pow_iff_right (a := 10) (by decide)).1 (Nat.lt_of_le_of_lt h h2)
      omega
  rw [Nat.le_antisymm (key s r k1 k2 h3) (key r s h1 h2 k3)]
theorem Dec.exists : ∀ x : Nat, ∃ r, 1 ≤ r ∧ x < 10 ^ r ∧ (r = 1 ∨ 10 ^ (r - 1) ≤ x) := by
  intro x
  induction x using Nat.strongRecOn with
  | ind x ih =>
    rcases Nat.lt_or_ge x 10 with h | h
    · exact ⟨1, by decide, by simpa using h, .inl rfl⟩
    · obtain ⟨r, h1, h2, h3⟩ := ih (x / 10) (by omega)
      refine ⟨r + 1, by omega, by rw [Nat.pow_succ]; omega, .inr ?_⟩
      rw [Nat.add_sub_cancel]
      rcases h3 with h3 | h3
      · subst h3; simpa using h
      · rw [show r = (r - 1) + 1 by omega, Nat.pow_succ]; omega
theorem Dec.len {x : Nat} {l : List Int} (h : Dec x l) : 0 < l.length := by
  obtain ⟨r, h1, _, _, rfl⟩ := h
  rw [List.length_reverse, fixA_len]; omega
theorem Dec.app {q y a : Nat} {l : List Int} (h : Dec q l) (h0 : 0 < q) (hy : y < 10 ^ a) : Dec (q * 10 ^ a + y) (l ++ (fixA a y).reverse) := by
  obtain ⟨r, h1, h2, h3, rfl⟩ := h
  refine ⟨a + r, by omega, ?_, .inr ?_, ?_⟩
  · rw [Nat.pow_add, Nat.mul_comm (10 ^ a)]
    have : (q + 1) * 10 ^ a ≤ 10 ^ r * 10 ^ a := Nat.mul_le_mul_right _ h2
    rw [Nat.add_mul, Nat.one_mul] at this
    omega
  · have : 10 ^ (r - 1) ≤ q := by
      rcases h3 with h | h
      · subst h; exact h0
      · exact h
    rw [show a + r - 1 = (r - 1) + a by omega, Nat.pow_add]
    exact Nat.le_trans (Nat.mul_le_mul_right _ this) (Nat.le_add_right _ _)
  · rw [fixA_app a r q y hy, List.reverse_append]
def turn (l : List Int) (i : Nat) : List Int := (List.range l.length).map fun j => if j < i ∨ l.length - i ≤ j then l.getD (l.length - 1 - j) 0 else l.getD j 0
theorem turn_len (l : List Int) (i : Nat) : (turn l i).length = l.length := by unfold turn; simp
theorem turn_get (l : List Int) (i j : Nat) (h : j < l.length) : (turn l i)[j]? = some (if j < i ∨ l.length - i ≤ j then l.getD (l.length - 1 - j) 0 else l.getD j 0) := by
  unfold turn
  rw [List.getElem?_map, List.getElem?_range h]
  rfl
theorem turn_zero (l : List Int) : turn l 0 = l := by
  apply List.ext_getElem?
  intro j
  rcases Nat.lt_or_ge j l.length with h | h
  · rw [turn_get l 0 j h, if_neg (by omega), List.getD_eq_getElem?_getD, List.getElem?_eq_getElem h]
    rfl
  · rw [List.getElem?_eq_none (by rw [turn_len]; exact h), List.getElem?_eq_none h]
theorem turn_end (l : List Int) (i : Nat) (h : l.length ≤ 2 * i + 1) : turn l i = l.reverse := by
  apply List.ext_getElem?
  intro j
  rcases Nat.lt_or_ge j l.length with hj | hj
  · rw [turn_get l i j hj, List.getElem?_reverse hj]
    by_cases h1 : j < i ∨ l.length - i ≤ j
    · rw [if_pos h1, List.getD_eq_getElem?_getD, List.getElem?_eq_getElem (by omega)]
      rfl
    · rw [if_neg h1, List.getD_eq_getElem?_getD, List.getElem?_eq_getElem hj, show l.length - 1 - j = j by omega, List.getElem?_eq_getElem hj]
      rfl
  · rw [List.getElem?_eq_none (by rw [turn_len]; exact hj), List.getElem?_eq_none (by rw [List.length_reverse]; exact hj)]
theorem turn_rd (l : List Int) (i j : Nat) (h : j < l.length) (h1 : i ≤ j) (h2 : j < l.length - i) : (turn l i).getD j 0 = l.getD j 0 := by
  rw [List.getD_eq_getElem?_getD, turn_get l i j h, if_neg (by omega)]
  rfl
theorem turn_step (l : List Int) (i : Nat) (h : 2 * i + 1 < l.length) : ((turn l i).set i ((turn l i).getD (l.length - 1 - i) 0)).set (l.length - 1 - i) ((turn l i).getD i 0) = turn l (i + 1) := by
  rw [turn_rd l i _ (by omega) (by omega) (by omega), turn_rd l i _ (by omega) (by omega) (by omega)]
  apply List.ext_getElem?
  intro j
  rcases Nat.lt_or_ge j l.length with hj | hj
  · rw [List.getElem?_set, List.getElem?_set, turn_get l (i + 1) j hj, turn_get l i j hj]
    simp only [List.length_set, turn_len]
    by_cases e1 : l.length - 1 - i = j
    · rw [if_pos e1, if_pos (by omega), if_pos (by omega), show l.length - 1 - j = i by omega]
    · rw [if_neg e1]
      by_cases e2 : i = j
      · rw [if_pos e2, if_pos (by omega), if_pos (by omega), e2]
      · rw [if_neg e2]
        by_cases e3 : j < i ∨ l.length - i ≤ j
        · rw [if_pos e3, if_pos (by omega)]
        · rw [if_neg e3, if_neg (by omega)]
  · rw [List.getElem?_eq_none (by simp [turn_len]; exact hj), List.getElem?_eq_none (by rw [turn_len]; exact hj)]
theorem rev_l (l : List Int) (hn : l.length ≤ 1000000) : ∀ d i : Nat, l.length ≤ 2 * i + d → i ≤ l.length → Ev (fun k => slices_Reverse_byte_byte_131.l0 k (turn l i) (i : Int) ((l.length : Int) - 1 - i)) l.reverse := by
  intro d
  induction d with
  | zero =>
    intro i h1 h2
    refine ⟨1, fun k hk => ?_⟩
    obtain ⟨k, rfl⟩ : ∃ m, k = m + 1 := ⟨k - 1, by omega⟩
    simp only [slices_Reverse_byte_byte_131.l0]
    rw [if_neg (by omega), turn_end l i (by omega)]
  | succ d ih =>
    intro i h1 h2
    rcases Nat.lt_or_ge (2 * i + 1) l.length with h | h
    · obtain ⟨K, hK⟩ := ih (i + 1) (by omega) (by omega)
      dsimp only at hK
      refine ⟨K + 1, fun k hk => ?_⟩
      obtain ⟨k, rfl⟩ : ∃ m, k = m + 1 := ⟨k - 1, by omega⟩
      simp only [slices_Reverse_byte_byte_131.l0, turn_len]
      rw [if_pos (by omega), if_pos (by omega), if_pos (by omega), if_pos (by omega), if_pos (by omega)]
      have e1 : wrap64 ((i : Int) + 1) = ((i + 1 : Nat) : Int) := by rw [Go.IntWalk.wrap64_in _ (by omega)]; omega
      have e2 : wrap64 ((l.length : Int) - 1 - i - 1) = (l.length : Int) - 1 - ((i + 1 : Nat) : Int) := by rw [Go.IntWalk.wrap64_in _ (by omega)]; omega
      have e3 : ((l.length : Int) - 1 - (i : Int)).toNat = l.length - 1 - i := by omega
      have e4 : Go.Proofs.YteikhnmmkanndaaW.PrintWords.rd (turn l i) ((l.length : Int) - 1 - i) = (turn l i).getD (l.length - 1 - i) 0 := by unfold Go.Proofs.YteikhnmmkanndaaW.PrintWords.rd; rw [e3]
      have e5 : Go.Proofs.YteikhnmmkanndaaW.PrintWords.rd (turn l i) (i : Int) = (turn l i).getD i 0 := by unfold Go.Proofs.YteikhnmmkanndaaW.PrintWords.rd; rw [Int.toNat_natCast]
      rw [e1, e2, e3, e4, e5, Int.toNat_natCast, turn_step l i h]
      exact hK k (by omega)
    · refine ⟨1, fun k hk => ?_⟩
      obtain ⟨k, rfl⟩ : ∃ m, k = m + 1 := ⟨k - 1, by omega⟩
      simp only [slices_Reverse_byte_byte_131.l0]
      rw [if_neg (by omega), turn_end l i (by omega)]
theorem rev_ev (l : List Int) (hn : l.length ≤ 1000000) : Ev (fun k => slices_Reverse_byte_byte_131.f k l) l.reverse := by
  unfold slices_Reverse_byte_byte_131.f
  have := rev_l l hn l.length 0 (by omega) (by omega)
  rw [turn_zero] at this
  rw [Go.IntWalk.wrap64_in _ (by omega)]
  simpa using this
theorem digits_l (n : Nat) (hn : n ≤ 1000) : ∀ (m v : Nat) (acc : List Int), v < 10 ^ m → (∀ j, j < m → 10 ^ j ≤ v ∨ acc.length + j < n) → n ≤ acc.length + m → v < 2 ^ 64 → acc.length + m ≤ 1000 →
    Ev (fun k => nat_digits.l0 k (v : Int) (n : Int) acc) ((acc ++ fixA m v).reverse) := by
  intro m
  induction m with
  | zero =>
    intro v acc hv _ hl _ hb
    have : v = 0 := by omega
    subst this
    obtain ⟨K, hK⟩ := rev_ev acc (by omega)
    dsimp only at hK
    refine ⟨K + 1, fun k hk => ?_⟩
    obtain ⟨k, rfl⟩ : ∃ m, k = m + 1 := ⟨k - 1, by omega⟩
    simp only [nat_digits.l0]
    rw [if_neg (by omega), if_neg (by omega), hK k (by omega)]
    simp [fixA]
  | succ m ih =>
    intro v acc hv hj hl h64 hb
    have e1 : IntKind.u64.wrap (Int.tdiv (v : Int) 10) = ((v / 10 : Nat) : Int) := by
      rw [Int.tdiv_eq_ediv_of_nonneg (by omega)]
      simp [IntKind.wrap, IntKind.bits, IntKind.signed]
      omega
    have e2 : IntKind.u64.wrap (48 + Int.tmod (v : Int) 10) % 256 = ((48 + v % 10 : Nat) : Int) := by
      rw [Int.tmod_eq_emod_of_nonneg (by omega)]
      simp [IntKind.wrap, IntKind.bits, IntKind.signed]
      omega
    obtain ⟨K, hK⟩ := ih (v / 10) (acc ++ [((48 + v % 10 : Nat) : Int)]) (by rw [Nat.pow_succ] at hv; omega) (by
      intro j h
      rcases hj (j + 1) (by omega) with h1 | h1
      · left; rw [Nat.pow_succ] at h1; omega
      · right; simp; omega) (by simp; omega) (by omega) (by simp; omega)
    dsimp only at hK
    rw [List.append_assoc, List.singleton_append] at hK
    refine ⟨K + 1, fun k hk => ?_⟩
    obtain ⟨k, rfl⟩ : ∃ m, k = m + 1 := ⟨k - 1, by omega⟩
    simp only [nat_digits.l0, e1, e2]
    by_cases h0 : 0 < v
    · rw [if_pos (by omega), if_pos (by omega)]
      exact hK k (by omega)
    · have h1 : acc.length < n := by
        rcases hj 0 (by omega) with h | h
        · simp at h; omega
        · omega
      rw [if_neg (by omega), if_pos (by omega), if_pos (by omega)]
      exact hK k (by omega)
theorem digits_one {x r : Nat} (h1 : 1 ≤ r) (h2 : x < 10 ^ r) (h3 : r = 1 ∨ 10 ^ (r - 1) ≤ x) (h64 : x < 2 ^ 64) (hr : r ≤ 1000) : Ev (fun k => nat_digits.f k (x : Int) 1) (fixA r x).reverse := by
  have := digits_l 1 (by decide) r x [] h2 (by
    intro j hj
    rcases h3 with h | h
    · right; simp; omega
    · left; exact Nat.le_trans (Nat.pow_le_pow_right (by decide) (by omega)) h) (by simp; omega) h64 (by simp; omega)
  exact this
theorem digits_pad {x : Nat} (h2 : x < 10 ^ 19) : Ev (fun k => nat_digits.f k (x : Int) 19) (fixA 19 x).reverse := by
  have := digits_l 19 (by decide) 19 x [] h2 (by intro j hj; right; simp; omega) (by simp) (by omega) (by simp)
  exact this
end Go.Proofs.Yteikhnmmkanndaa
namespace Go.Proofs.Yteikhnmmkanndaa
open Go.RowKit Go.Proofs.YteikhnmmkanndaaW.PrintWords
set_option linter.unusedSimpArgs false
set_option linter.unusedVariables false
def turnV (f : Nat → Value) (n i : Nat) (p : Nat) : Value := if p < n ∧ (p < i ∨ n - i ≤ p) then f (n - 1 - p) else f p
theorem turnV_zero (f : Nat → Value) (n p : Nat) : turnV f n 0 p = f p := by
  unfold turnV
  rw [if_neg (by omega)]
theorem turnV_end (f : Nat → Value) (n i p : Nat) (h : n ≤ 2 * i + 1) : turnV f n i p = if p < n then f (n - 1 - p) else f p := by
  unfold turnV
  by_cases h1 : p < n
  · rw [if_pos h1]
    by_cases h2 : p < i ∨ n - i ≤ p
    · rw [if_pos ⟨h1, h2⟩]
    · rw [if_neg (fun h => h2 h.2), show n - 1 - p = p by omega]
  · rw [if_neg (fun h => h1 h.1), if_neg h1]
theorem turnV_at (f : Nat → Value) (n i p : Nat) (h1 : i ≤ p) (h2 : p < n - i) : turnV f n i p = f p := by
  unfold turnV
  rw [if_neg (by omega)]
theorem turnV_step (f : Nat → Value) (n i p : Nat) (h : 2 * i + 1 < n) : (if p = n - 1 - i then f i else if p = i then f (n - 1 - i) else turnV f n i p) = turnV f n (i + 1) p := by
  unfold turnV
  by_cases h1 : p = n - 1 - i
  · rw [if_pos h1, if_pos (by omega), show n - 1 - p = i by omega]
  · rw [if_neg h1]
    by_cases h2 : p = i
    · rw [if_pos h2, if_pos (by omega), h2]
    · rw [if_neg h2]
      by_cases h3 : p < n ∧ (p < i ∨ n - i ≤ p)
      · rw [if_pos h3, if_pos (by omega)]
      · rw [if_neg h3, if_neg (by omega)]
structure Swp (S0 : World) (g N i j : Nat) (f : Nat → Value) (K : Nat → Value) (L : Nat → Bool) (v : Nat → Value) (w : World) : Prop where
  row : w.rowIs g 22 N (fun p => if L 15 = true ∧ p = j then f i else if L 13 = true ∧ p = i then f j else f p)
  one : One g S0 w
  vals : ∀ k, k ≠ 13 → k ≠ 15 → L k = true → v k = K k
structure AmidS (S0 : World) (g N i j : Nat) (f : Nat → Value) (K : Nat → Value) (ops : Array Oper) (k : Nat) (L : Nat → Bool) (v : Nat → Value) (w : World) : Prop where
  held : Swp S0 g N i j f K L v w
  new : L k = false
  deps : ∀ j, waits ops k j = true → L j = true
  later : ∀ j, waits ops j k = true → L j = false
section
variable {P : Program} {ops : Array Oper} {E : ((Nat → Value) → Act) → Prop} {S0 : World} {g N i j : Nat} {f K : Nat → Value} {L : Nat → Bool} {v : Nat → Value} {w w' : World} {k : Nat} {u : Value}
theorem Steps.swp {a0 : Act} {o : Oper} {r : List Oper} {F : (Nat → Value) → Act}
    (h : ∀ L v w, Hid (AmidS S0 g N i j f K ops k L v w) → wpList P ops (Only a0 o (fun u w' => Swp S0 g N i j f K (setB L k) (setV v k u) w')) [o] (F v) w)
    (h2 : Steps P ops a0 (Swp S0 g N i j f K) E (k + 1) r (fun v => (F v).put o.dst (v k))) : Steps P ops a0 (Swp S0 g N i j f K) E k (o :: r) F :=
  Steps.cons (fun L v w h1 h2 h3 h4 => h L v w (Lib.hid ⟨h1, h2, h3, h4⟩)) h2
theorem AmidS.val (h : AmidS S0 g N i j f K ops k L v w) (m : Nat) (h1 : m ≠ 13) (h2 : m ≠ 15) (hw : waits ops k m = true) : v m = K m := h.held.vals m h1 h2 (h.deps m hw)
theorem Swp.vals_put (h : Swp S0 g N i j f K L v w) (hu : k ≠ 13 → k ≠ 15 → u = K k) : ∀ m, m ≠ 13 → m ≠ 15 → setB L k m = true → setV v k u m = K m := by
  intro m h1 h2 hm
  by_cases hk : m = k
  · subst hk; rw [setV_self]; exact hu h1 h2
  · rw [setV_ne hk]
    rw [setB_ne hk] at hm
    exact h.vals m h1 h2 hm
theorem AmidS.same (h : AmidS S0 g N i j f K ops k L v w) (h13 : k ≠ 13) (h15 : k ≠ 15) (hu : u = K k) : Swp S0 g N i j f K (setB L k) (setV v k u) w :=
  ⟨by rw [setB_ne (Ne.symm h13), setB_ne (Ne.symm h15)]; exact h.held.row, h.held.one, h.held.vals_put (fun _ _ => hu)⟩
theorem AmidS.row0 (h : AmidS S0 g N i j f K ops k L v w) (h1 : waits ops 13 k = true) (h2 : waits ops 15 k = true) : w.rowIs g 22 N f := by
  have := h.held.row
  rw [h.later 13 h1, h.later 15 h2] at this
  exact this.congr (fun p _ => by simp)
theorem AmidS.put13 (h : AmidS S0 g N i j f K ops 13 L v w) (h2 : waits ops 15 13 = true) (hij : i ≠ j) : Swp S0 g N i j f K (setB L 13) (setV v 13 u) (w.setCell ⟨g, i, none⟩ (f j)) := by
  refine ⟨?_, h.held.one.trans (One.set w g i (f j)), h.held.vals_put (fun h => absurd rfl h)⟩
  have := h.held.row
  rw [h.later 15 h2, h.new] at this
  rw [setB_self, setB_ne (by decide : (15 : Nat) ≠ 13), h.later 15 h2]
  exact (this.set i (f j)).congr (fun p _ => by simp)
theorem AmidS.put15 (h : AmidS S0 g N i j f K ops 15 L v w) (h2 : waits ops 15 13 = true) : Swp S0 g N i j f K (setB L 15) (setV v 15 u) (w.setCell ⟨g, j, none⟩ (f i)) := by
  refine ⟨?_, h.held.one.trans (One.set w g j (f i)), h.held.vals_put (fun _ h => absurd rfl h)⟩
  have := h.held.row
  rw [h.new] at this
  rw [setB_self, setB_ne (by decide : (13 : Nat) ≠ 15)]
  exact (this.set j (f i)).congr (fun p _ => by simp)
end
set_option maxRecDepth 100000 in
set_option maxHeartbeats 4000000 in
theorem reverse_any (g n M cap : Nat) (f : Nat → Value) (w : World) (hn : n ≤ M) (hn1 : n ≤ 1099511627776) (hr : w.rowIs g 22 M f) (hf : ∀ k, k < n → ∃ b l c, f k = .slice (some ⟨b, 0, none⟩) l c) :
    Calls Try.prog 115 #[.slice (some ⟨g, 0, none⟩) n cap] w fun e w' => e = .returned (.tuple #[]) ∧ w'.rowIs g 22 M (fun p => if p < n then f (n - 1 - p) else f p) ∧ One g w w' := by
  have HR := Lib.hid hr
  have HF := Lib.hid hf
  clear hr hf
  have hsub : wrap64 ((n : Int) - 1) = (n : Int) - 1 := Go.IntWalk.wrap64_in _ (by omega)
  go_enter Try.func115, Try.ntmps115
  go_wp2_with fail
  go_loopw [2, 3] (fun v2 v3 wr => ∃ i : Nat, i ≤ n ∧ v2 = .int .i64 (i : Nat) ∧ v3 = .int .i64 ((n : Int) - 1 - i) ∧ Hid (wr.rowIs g 22 M (turnV f n i)) ∧ Hid (One g w wr)) (fun v2 _ _ => n - (intOf v2).toNat)
  case atStart => exact ⟨0, Nat.zero_le _, rfl, by simp, Lib.hid (HR.out.congr (fun p _ => (turnV_zero f n p).symm)), Lib.hid ⟨rfl, rfl, rfl, rfl, fun _ _ => rfl⟩⟩
  case round =>
    obtain ⟨i, hin, rfl, rfl, hrow, hone⟩ := hrel
    by_cases hlt : 2 * i + 1 < n
    · obtain ⟨j, hj⟩ : ∃ j, n - 1 - i = j := ⟨_, rfl⟩
      have hji : (n : Int) - 1 - (i : Int) = (j : Int) := by omega
      rw [hji]
      have dlt : decide ((i : Int) < (j : Int)) = true := decide_eq_true (by omega)
      obtain ⟨bi, li, ci, hfi⟩ := HF.out i (by omega)
      obtain ⟨bj, lj, cj, hfj⟩ := HF.out j (by omega)
      have hti := (turnV_at f n i i (Nat.le_refl _) (by omega)).trans hfi
      have htj := (turnV_at f n i j (by omega) (by omega)).trans hfj
      have hne : i ≠ j := by omega
      have p1 : (0 : Int) ≤ (i : Int) := by omega
      have p2 : (i : Int) < (n : Int) := by omega
      have p3 : (0 : Int) ≤ (j : Int) := by omega
      have p4 : (j : Int) < (n : Int) := by omega
      have hiM : i < M := by omega
      have hjM : j < M := by omega
      have w1 : wrap64 ((i : Int) + 1) = (i : Int) + 1 := Go.IntWalk.wrap64_in _ (by omega)
      have w2 : wrap64 ((j : Int) - 1) = (j : Int) - 1 := Go.IntWalk.wrap64_in _ (by omega)
      clear hji
      go_wp2_with fail
      let K : Nat → Value := fun k => [.slice (some ⟨g, 0, none⟩) n cap, .int .i64 (i : Int), .slice (some ⟨g, 0, none⟩) n cap, .int .i64 (j : Int), .slice (some ⟨g, 0, none⟩) n cap, .int .i64 (j : Int), .pointer (some ⟨g, j, none⟩), .slice (some ⟨bj, 0, none⟩) lj cj, .slice (some ⟨g, 0, none⟩) n cap, .int .i64 (i : Int), .pointer (some ⟨g, i, none⟩), .slice (some ⟨bi, 0, none⟩) li ci, .pointer (some ⟨g, i, none⟩), .int .i64 0, .pointer (some ⟨g, j, none⟩), .int .i64 0].getD k undef
      refine region_mono (Swp wr g M i j (turnV f n i) K) (by kernel_rfl) (by kernel_rfl) (by kernel_rfl) ⟨hrow.out.congr (fun p _ => by simp), ⟨rfl, rfl, rfl, rfl, fun _ _ => rfl⟩, fun k _ _ h => by simp at h⟩ ?_
      refine Steps.swp ?_ ?_
      · intro L v w' hJ
        go_wp2_with fail
        exact ⟨rfl, rfl, hJ.out.same (by decide) (by decide) rfl⟩
      simp only [Act.put, List.setIfInBounds_toArray, List.set_cons_zero, List.set_cons_succ, Nat.reduceAdd]
      refine Steps.swp ?_ ?_
      · intro L v w' hJ
        go_wp2_with fail
        exact ⟨rfl, rfl, hJ.out.same (by decide) (by decide) rfl⟩
      simp only [Act.put, List.setIfInBounds_toArray, List.set_cons_zero, List.set_cons_succ, Nat.reduceAdd]
      refine Steps.swp ?_ ?_
      · intro L v w' hJ
        go_wp2_with fail
        exact ⟨rfl, rfl, hJ.out.same (by decide) (by decide) rfl⟩
      simp only [Act.put, List.setIfInBounds_toArray, List.set_cons_zero, List.set_cons_succ, Nat.reduceAdd]
      refine Steps.swp ?_ ?_
      · intro L v w' hJ
        go_wp2_with fail
        exact ⟨rfl, rfl, hJ.out.same (by decide) (by decide) rfl⟩
      simp only [Act.put, List.setIfInBounds_toArray, List.set_cons_zero, List.set_cons_succ, Nat.reduceAdd]
      refine Steps.swp ?_ ?_
      · intro L v w' hJ
        go_wp2_with fail
        exact ⟨rfl, rfl, hJ.out.same (by decide) (by decide) rfl⟩
      simp only [Act.put, List.setIfInBounds_toArray, List.set_cons_zero, List.set_cons_succ, Nat.reduceAdd]
      refine Steps.swp ?_ ?_
      · intro L v w' hJ
        go_wp2_with fail
        exact ⟨rfl, rfl, hJ.out.same (by decide) (by decide) rfl⟩
      simp only [Act.put, List.setIfInBounds_toArray, List.set_cons_zero, List.set_cons_succ, Nat.reduceAdd]
      refine Steps.swp ?_ ?_
      · intro L v w' hJ
        have hv4 : v 4 = .slice (some ⟨g, 0, none⟩) n cap := hJ.out.val 4 (by decide) (by decide) (by kernel_rfl)
        simp only [hv4]
        clear hv4
        have hv5 : v 5 = .int .i64 (j : Int) := hJ.out.val 5 (by decide) (by decide) (by kernel_rfl)
        simp only [hv5]
        clear hv5
        go_wp2_with fail
        exact ⟨rfl, rfl, hJ.out.same (by decide) (by decide) rfl⟩
      simp only [Act.put, List.setIfInBounds_toArray, List.set_cons_zero, List.set_cons_succ, Nat.reduceAdd]
      refine Steps.swp ?_ ?_
      · intro L v w' hJ
        have hv6 : v 6 = .pointer (some ⟨g, j, none⟩) := hJ.out.val 6 (by decide) (by decide) (by kernel_rfl)
        simp only [hv6]
        clear hv6
        have hrw := hJ.out.row0 (by kernel_rfl) (by kernel_rfl)
        have kc := hrw.cell hjM
        rw [htj] at kc
        clear hrw
        go_wp2_with fail
        exact ⟨rfl, rfl, hJ.out.same (by decide) (by decide) rfl⟩
      simp only [Act.put, List.setIfInBounds_toArray, List.set_cons_zero, List.set_cons_succ, Nat.reduceAdd]
      refine Steps.swp ?_ ?_
      · intro L v w' hJ
        go_wp2_with fail
        exact ⟨rfl, rfl, hJ.out.same (by decide) (by decide) rfl⟩
      simp only [Act.put, List.setIfInBounds_toArray, List.set_cons_zero, List.set_cons_succ, Nat.reduceAdd]
      refine Steps.swp ?_ ?_
      · intro L v w' hJ
        go_wp2_with fail
        exact ⟨rfl, rfl, hJ.out.same (by decide) (by decide) rfl⟩
      simp only [Act.put, List.setIfInBounds_toArray, List.set_cons_zero, List.set_cons_succ, Nat.reduceAdd]
      refine Steps.swp ?_ ?_
      · intro L v w' hJ
        have hv8 : v 8 = .slice (some ⟨g, 0, none⟩) n cap := hJ.out.val 8 (by decide) (by decide) (by kernel_rfl)
        simp only [hv8]
        clear hv8
        have hv9 : v 9 = .int .i64 (i : Int) := hJ.out.val 9 (by decide) (by decide) (by kernel_rfl)
        simp only [hv9]
        clear hv9
        go_wp2_with fail
        exact ⟨rfl, rfl, hJ.out.same (by decide) (by decide) rfl⟩
      simp only [Act.put, List.setIfInBounds_toArray, List.set_cons_zero, List.set_cons_succ, Nat.reduceAdd]
      refine Steps.swp ?_ ?_
      · intro L v w' hJ
        have hv10 : v 10 = .pointer (some ⟨g, i, none⟩) := hJ.out.val 10 (by decide) (by decide) (by kernel_rfl)
        simp only [hv10]
        clear hv10
        have hrw := hJ.out.row0 (by kernel_rfl) (by kernel_rfl)
        have kc := hrw.cell hiM
        rw [hti] at kc
        clear hrw
        go_wp2_with fail
        exact ⟨rfl, rfl, hJ.out.same (by decide) (by decide) rfl⟩
      simp only [Act.put, List.setIfInBounds_toArray, List.set_cons_zero, List.set_cons_succ, Nat.reduceAdd]
      refine Steps.swp ?_ ?_
      · intro L v w' hJ
        have hv0 : v 0 = .slice (some ⟨g, 0, none⟩) n cap := hJ.out.val 0 (by decide) (by decide) (by kernel_rfl)
        simp only [hv0]
        clear hv0
        have hv1 : v 1 = .int .i64 (i : Int) := hJ.out.val 1 (by decide) (by decide) (by kernel_rfl)
        simp only [hv1]
        clear hv1
        go_wp2_with fail
        exact ⟨rfl, rfl, hJ.out.same (by decide) (by decide) rfl⟩
      simp only [Act.put, List.setIfInBounds_toArray, List.set_cons_zero, List.set_cons_succ, Nat.reduceAdd]
      refine Steps.swp ?_ ?_
      · intro L v w' hJ
        have hv12 : v 12 = .pointer (some ⟨g, i, none⟩) := hJ.out.val 12 (by decide) (by decide) (by kernel_rfl)
        simp only [hv12]
        clear hv12
        have hv7 : v 7 = .slice (some ⟨bj, 0, none⟩) lj cj := hJ.out.val 7 (by decide) (by decide) (by kernel_rfl)
        simp only [hv7]
        clear hv7
        have hrw := hJ.out.held.row
        have kc := hrw.cell hiM
        have fz := hrw.frozen i
        clear hrw
        go_wp2_with fail
        exact ⟨rfl, rfl, by rw [← htj]; exact hJ.out.put13 (by kernel_rfl) hne⟩
      simp only [Act.put, List.setIfInBounds_toArray, List.set_cons_zero, List.set_cons_succ, Nat.reduceAdd]
      refine Steps.swp ?_ ?_
      · intro L v w' hJ
        have hv2 : v 2 = .slice (some ⟨g, 0, none⟩) n cap := hJ.out.val 2 (by decide) (by decide) (by kernel_rfl)
        simp only [hv2]
        clear hv2
        have hv3 : v 3 = .int .i64 (j : Int) := hJ.out.val 3 (by decide) (by decide) (by kernel_rfl)
        simp only [hv3]
        clear hv3
        go_wp2_with fail
        exact ⟨rfl, rfl, hJ.out.same (by decide) (by decide) rfl⟩
      simp only [Act.put, List.setIfInBounds_toArray, List.set_cons_zero, List.set_cons_succ, Nat.reduceAdd]
      refine Steps.swp ?_ ?_
      · intro L v w' hJ
        have hv14 : v 14 = .pointer (some ⟨g, j, none⟩) := hJ.out.val 14 (by decide) (by decide) (by kernel_rfl)
        simp only [hv14]
        clear hv14
        have hv11 : v 11 = .slice (some ⟨bi, 0, none⟩) li ci := hJ.out.val 11 (by decide) (by decide) (by kernel_rfl)
        simp only [hv11]
        clear hv11
        have hrw := hJ.out.held.row
        have kc := hrw.cell hjM
        have fz := hrw.frozen j
        clear hrw
        go_wp2_with fail
        exact ⟨rfl, rfl, by rw [← hti]; exact hJ.out.put15 (by kernel_rfl)⟩
      simp only [Act.put, List.setIfInBounds_toArray, List.set_cons_zero, List.set_cons_succ, Nat.reduceAdd]
      refine Steps.nil ?_
      intro v w' hJ
      simp only [K] at hJ
      have hrow2 := hJ.row
      have hone2 := Lib.hid (hone.out.trans hJ.one)
      have HR2 := Lib.hid (hrow2.congr (fun p _ => by
        have := turnV_step f n i p hlt
        rw [← this, hj]
        simp [turnV_at f n i i (Nat.le_refl _) (show i < n - i by omega), turnV_at f n i j (show i ≤ j by omega) (show j < n - i by omega)]) : w'.rowIs g 22 M (turnV f n (i + 1)))
      clear hJ hrow2
      go_wp2_with fail
      exact ⟨⟨i + 1, by omega, congrArg (Value.int .i64) (by omega), congrArg (Value.int .i64) (by omega), HR2, hone2⟩, by simp [intOf]; omega⟩
    · have dlt : decide ((i : Int) < (n : Int) - 1 - (i : Int)) = false := decide_eq_false (by omega)
      have HE := Lib.hid (hrow.out.congr (fun p _ => turnV_end f n i p (by omega)))
      have HO := hone
      go_wp2_with fail
      first | go_end0 | ((try simp only [Exit.inBlock, Exit.then]); refine bodyPost_ret (results_none rfl _ _ _) rfl ?_)
      exact ⟨rfl, HE.out, HO.out⟩
end Go.Proofs.Yteikhnmmkanndaa
namespace Go.Proofs.Yteikhnmmkanndaa
open Go.RowKit Go.Proofs.YteikhnmmkanndaaW.PrintWords
def OwnS (w : World) (v : Value) (n : Nat) (xs : List Value) : Prop :=
  xs.length = n ∧ ((v = .slice none 0 0 ∧ n = 0) ∨ ∃ g cap cur, v = .slice (some ⟨g, 0, none⟩) n cap ∧ w.heap[g]? = some (.cells cur 22 (0, 0)) ∧ n ≤ cap ∧ cap ≤ maxLen ∧ cur.size = cap ∧ cur.toList.take n = xs ∧ ∀ u ∈ cur.toList, noInt u = true)
theorem OwnS.nil (w : World) : OwnS w (.slice none 0 0) 0 [] := ⟨rfl, .inl ⟨rfl, rfl⟩⟩
theorem OwnS.lt {w : World} {v : Value} {n : Nat} {xs : List Value} (h : OwnS w v n xs) (g : Nat) (hg : v.ownBlock = some g) : g < w.heap.size := by
  rcases h.2 with ⟨rfl, _⟩ | ⟨g', cap, cur, rfl, hc, _⟩
  · simp [Value.ownBlock] at hg
  · have : g' = g := by simpa [Value.ownBlock] using hg
    subst this
    exact (Array.getElem?_eq_some_iff.1 hc).1
theorem OwnS.of_block {w w' : World} {v : Value} {n : Nat} {xs : List Value} (h : OwnS w v n xs) (hb : ∀ g, v.ownBlock = some g → w'.heap[g]? = w.heap[g]?) : OwnS w' v n xs := by
  refine ⟨h.1, ?_⟩
  rcases h.2 with hn | ⟨g, cap, cur, rfl, hc, r⟩
  · exact .inl hn
  · exact .inr ⟨g, cap, cur, rfl, (hb g rfl).trans hc, r⟩
theorem OwnS.below {w w' : World} {v : Value} {n : Nat} {xs : List Value} (h : OwnS w v n xs) (hb : Below w.heap.size w w') : OwnS w' v n xs := h.of_block (fun g hg => hb.block g (h.lt g hg))
theorem zero_noInt (k : Nat) : ∀ u ∈ (Builtin.zeroCells (Value.slice none 0 0).cells k).toList, noInt u = true := by
  intro u hu
  unfold Builtin.zeroCells at hu
  simp at hu
  obtain ⟨a, ha, rfl⟩ := hu
  show noInt ((#[Value.slice none 0 0])[a % 1]!) = true
  rw [Nat.mod_one]
  rfl
theorem OwnS.row {w : World} {g n cap : Nat} {xs : List Value} (h : OwnS w (.slice (some ⟨g, 0, none⟩) n cap) n xs) : n ≤ cap ∧ w.rowIs g 22 cap (fun p => if p < n then xs.getD p undef else (match w.cell? ⟨g, p, none⟩ with | some u => u | none => undef)) := by
  rcases h.2 with ⟨hv, _⟩ | ⟨g', cap', cur, hv, hc, hn, hm, hs, ht, _⟩
  · cases hv
  · cases hv
    refine ⟨hn, cur, hc, hs, fun i hi => ?_⟩
    have hlt : i < cur.size := by omega
    by_cases h1 : i < n
    · show _ = some (if i < n then _ else _)
      rw [if_pos h1, ← ht]
      simp [List.getD_eq_getElem?_getD, h1, Array.getElem?_eq_getElem hlt]
    · show _ = some (if i < n then _ else _)
      rw [if_neg h1]
      simp [World.cell?, hc, Array.getElem?_eq_getElem hlt]
theorem OwnS.append {w : World} {v : Value} {n : Nat} {xs : List Value} (h : OwnS w v n xs) (ty : TypeId) (x : Value) (hx : noInt x = true) (h1 : x.oneCell' = true) (B c : Nat) (hnew : w.cell? ⟨B, 0, none⟩ = some x) (hn : n + 1 ≤ 1000000) :
    ∃ g cap w', (Builtin.append_ #[143, 143] ty #[v, .slice (some ⟨B, 0, none⟩) 1 c]).run Try.prog w = .ok (.slice (some ⟨g, 0, none⟩) (n + 1) cap) w' ∧ OwnS w' (.slice (some ⟨g, 0, none⟩) (n + 1) cap) (n + 1) (xs ++ [x]) ∧
      w.grownBy w' v.ownBlock ∧ Keep w w' ∧ (v.ownBlock = some g ∨ g = w.heap.size) ∧ g < w'.heap.size := by
  obtain ⟨i0, hi, hz0, hz1, hz2⟩ := info_parts info22
  have hnews : ∀ j u, [x][j]? = some u → w.cell? ((⟨B, 0, none⟩ : Addr).add j) = some u := by
    intro j u hu
    match j, hu with
    | 0, hu =>
      cases hu
      exact hnew
  have hone : ∀ u ∈ [x], u.oneCell' = true := fun u hu => by rw [List.mem_singleton.1 hu]; exact h1
  have hl1 : [x].length = 1 * i0.size := by rw [hz1]; rfl
  have hlen : (xs ++ [x]).length = n + 1 := by rw [List.length_append, h.1]; rfl
  have grown : ∀ old, old < n + 1 → ∀ row, OwnS (w.drew.alloc (.cells (xs.toArray ++ #[x] ++ Builtin.zeroCells (Value.slice none 0 0).cells (grownCap w (n + 1) old 22 - (n + 1))) 22)) (.slice (some ⟨w.heap.size, 0, none⟩) (n + 1) (grownCap w (n + 1) old 22)) (n + 1) (xs ++ [x]) ∧
      w.grownBy (w.drew.alloc (.cells (xs.toArray ++ #[x] ++ Builtin.zeroCells (Value.slice none 0 0).cells (grownCap w (n + 1) old 22 - (n + 1))) 22)) row ∧ Keep w (w.drew.alloc (.cells (xs.toArray ++ #[x] ++ Builtin.zeroCells (Value.slice none 0 0).cells (grownCap w (n + 1) old 22 - (n + 1))) 22)) := by
    intro old ho row
    have hge := grownCap_ge w (n + 1) old 22
    have hcm : grownCap w (n + 1) old 22 ≤ maxLen := grownCap_le_maxLen w (n + 1) old 22 (by unfold maxLen; omega)
    have hgb : w.grownBy (w.drew.alloc (.cells (xs.toArray ++ #[x] ++ Builtin.zeroCells (Value.slice none 0 0).cells (grownCap w (n + 1) old 22 - (n + 1))) 22)) none := ⟨rfl, rfl, rfl, by simp, fun k hk _ => heap_alloc_old w.drew _ hk⟩
    refine ⟨⟨hlen, .inr ⟨w.heap.size, _, _, rfl, heap_alloc_new w.drew _, hge, hcm, ?_, ?_, ?_⟩⟩, ⟨rfl, rfl, rfl, by simp, fun k hk _ => heap_alloc_old w.drew _ hk⟩, Keep.of_below ((Below.refl w.heap.size w).grown hgb (Nat.le_refl _) (fun k e => by cases e))⟩
    · simp only [Array.size_append, List.size_toArray, size_zeroCells, h.1]
      show n + 1 + (grownCap w (n + 1) old 22 - (n + 1)) * 1 = _
      omega
    · simp only [Array.toList_append, List.append_assoc]
      rw [← List.append_assoc, ← hlen]
      exact List.take_left
    · intro u hu
      simp only [Array.toList_append, List.mem_append] at hu
      rcases hu with (hu | hu) | hu
      · rcases h.2 with ⟨_, h0⟩ | ⟨g, cap, cur, _, _, _, _, _, ht, hni⟩
        · have : xs = [] := List.eq_nil_of_length_eq_zero (by rw [h.1]; exact h0)
          subst this
          simp at hu
        · rw [← ht] at hu
          exact hni u (List.mem_of_mem_take (by simpa using hu))
      · have : u = x := by simpa using hu
        rw [this]; exact hx
      · exact zero_noInt _ u hu
  rcases h.2 with ⟨rfl, rfl⟩ | ⟨g, cap, cur, rfl, hg, hnc, hcm, hcs, ht, hni⟩
  · have hxs : xs = [] := List.eq_nil_of_length_eq_zero h.1
    subst hxs
    have hr := run_append_nil (P := Try.prog) w 143 ty 22 i0 (.slice none 0 0) Try.underlying143 hi hz0 ⟨B, 0, none⟩ 1 c [x] hl1 hnews (by decide) (by decide) (by rw [hz2]; decide)
    obtain ⟨g1, g2, g3⟩ := grown 0 (by omega) (Value.ownBlock (.slice none 0 0))
    simp only [Nat.zero_add, List.nil_append, Array.empty_append] at g1 g2 g3 ⊢
    exact ⟨_, _, _, hr, g1, g2, g3, .inr rfl, by simp⟩
  · by_cases hroom : n + 1 ≤ cap
    · have hr := run_append_room (P := Try.prog) w 143 ty 22 i0 Try.underlying143 hi g n cap cur hg ⟨B, 0, none⟩ 1 c [x] hl1 hnews hone hroom (by rw [hz1, List.length_singleton]; omega)
      rw [hz1, Nat.mul_one] at hr
      have hgr : w.grownBy (w.setRow g (cur.toList.take n ++ [x] ++ cur.toList.drop (n + [x].length)).toArray) (some g) := ⟨rfl, rfl, rfl, by simp, fun k _ hk => setRow_other w g k _ (fun e => hk (by rw [e]))⟩
      refine ⟨g, cap, _, hr, ⟨hlen, .inr ⟨g, cap, _, rfl, setRow_heap w g cur _ 22 _ hg, hroom, hcm, ?_, ?_, ?_⟩⟩, hgr, ⟨by simp, ?_, ?_⟩, .inl rfl, ?_⟩
      · simp only [List.size_toArray, List.length_append, List.length_take, List.length_drop, Array.length_toList, List.length_singleton]
        omega
      · rw [ht, ← hlen]
        exact List.take_left
      · intro u hu
        simp only [List.mem_append] at hu
        rcases hu with (hu | hu) | hu
        · exact hni u (List.mem_of_mem_take hu)
        · rw [List.mem_singleton.1 hu]; exact hx
        · exact hni u (List.mem_of_mem_drop hu)
      · intro p k m hp
        by_cases hpg : p.block = g
        · exfalso
          have hmem : Value.int k m ∈ cur.toList := by
            unfold World.cell? at hp
            rw [hpg, hg] at hp
            simp at hp
            exact List.mem_of_getElem? (i := p.off) (by simpa using hp.2)
          have := hni _ hmem
          simp [noInt] at this
        · exact (World.cell?_of_block (setRow_other w g p.block _ hpg)).trans hp
      · intro b cs hb _
        by_cases hbg : b = g
        · exfalso
          have h47 : w.heap[b]? = some (.cells cs 47 (0, 0)) := hb
          rw [hbg, hg] at h47
          simp at h47
        · exact (setRow_other w g b _ hbg).trans hb
      · have := (Array.getElem?_eq_some_iff.1 hg).1
        have h2 := hgr.size
        omega
    · have holds : ∀ j u, xs[j]? = some u → w.cell? ((⟨g, 0, none⟩ : Addr).add j) = some u := by
        intro j u hj
        rw [← ht, List.getElem?_take] at hj
        by_cases hjn : j < n
        · rw [if_pos hjn] at hj
          have hj2 : cur[j]? = some u := by simpa using hj
          rcases Nat.eq_zero_or_pos j with h0 | h0
          · subst h0; simp [Addr.add, World.cell?, hg, hj2]
          · simp [Addr.add, World.cell?, hg, hj2, Nat.ne_of_gt h0]
        · rw [if_neg hjn] at hj; cases hj
      have hr := run_append_grow (P := Try.prog) w 143 ty 22 i0 (.slice none 0 0) Try.underlying143 hi hz0 ⟨g, 0, none⟩ n cap xs (by rw [hz1, h.1, Nat.mul_one]) holds ⟨B, 0, none⟩ 1 c [x] hl1 hnews (by omega) (by omega) (growslice_fits (by omega) (by rw [hz2]; omega))
      obtain ⟨g1, g2, g3⟩ := grown cap (by omega) (Value.ownBlock (.slice (some ⟨g, 0, none⟩) n cap))
      exact ⟨_, _, _, hr, g1, g2, g3, .inr rfl, by simp⟩
end Go.Proofs.Yteikhnmmkanndaa
namespace Go.Proofs.Yteikhnmmkanndaa
open Go.RowKit Go.Proofs.YteikhnmmkanndaaW.PrintWords
set_option linter.unusedVariables false
set_option linter.unusedSimpArgs false
theorem OwnS.len {w : World} {v : Value} {n : Nat} {xs : List Value} (h : OwnS w v n xs) : lenOf v = n := by
  rcases h.2 with ⟨rfl, rfl⟩ | ⟨g, cap, cur, rfl, _⟩ <;> rfl
def PartsV (w : World) (v : Value) (sl : List Value) (ls : List (List Int)) : Prop := sl.length = ls.length ∧ ∀ (i : Nat) (l : List Int), ls[i]? = some l → ∃ b c, sl[i]? = some (Value.slice (some ⟨b, 0, none⟩) l.length c) ∧ b < w.heap.size ∧ v.ownBlock ≠ some b ∧ 0 < l.length ∧ ∀ j z, l[j]? = some z → w.cell? ⟨b, j, none⟩ = some (.int .u8 z)
theorem PartsV.nil (w : World) (v : Value) : PartsV w v [] [] := ⟨rfl, fun i l h => by simp at h⟩
theorem PartsV.keep {w w' : World} {v : Value} {sl : List Value} {ls : List (List Int)} (h : PartsV w v sl ls) (k : Keep w w') : PartsV w' v sl ls :=
  ⟨h.1, fun i l hl => by
    obtain ⟨b, c, h1, h2, h3, h4, h5⟩ := h.2 i l hl
    exact ⟨b, c, h1, Nat.lt_of_lt_of_le h2 k.size, h3, h4, fun j z hz => k.ints _ _ _ (h5 j z hz)⟩⟩
theorem PartsV.push {w w' : World} {v : Value} {sl : List Value} {ls : List (List Int)} (h : PartsV w v sl ls) (k : Keep w w') {g n cap b c : Nat} {l : List Int} (hat : v.ownBlock = some g ∨ g = w.heap.size) (hb : b < w.heap.size) (hbo : v.ownBlock ≠ some b) (hl0 : 0 < l.length)
    (hc : ∀ j z, l[j]? = some z → w.cell? ⟨b, j, none⟩ = some (.int .u8 z)) : PartsV w' (.slice (some ⟨g, 0, none⟩) n cap) (sl ++ [.slice (some ⟨b, 0, none⟩) l.length c]) (ls ++ [l]) := by
  have far : ∀ b', b' < w.heap.size → v.ownBlock ≠ some b' → (Value.slice (some ⟨g, 0, none⟩) n cap).ownBlock ≠ some b' := by
    intro b' h1 h2 he
    have : g = b' := by simpa [Value.ownBlock] using he
    subst this
    rcases hat with h | h
    · exact h2 h
    · omega
  refine ⟨by simp [h.1], fun i l' hl' => ?_⟩
  rcases Nat.lt_or_ge i ls.length with hi | hi
  · rw [List.getElem?_append_left hi] at hl'
    obtain ⟨b', c', h1, h2, h3, h4, h5⟩ := h.2 i l' hl'
    exact ⟨b', c', by rw [List.getElem?_append_left (by rw [h.1]; exact hi)]; exact h1, Nat.lt_of_lt_of_le h2 k.size, far b' h2 h3, h4, fun j z hz => k.ints _ _ _ (h5 j z hz)⟩
  · rw [List.getElem?_append_right hi] at hl'
    have hi2 : i = ls.length := by
      rcases Nat.eq_or_lt_of_le hi with h | h
      · exact h.symm
      · rw [List.getElem?_eq_none (by simp; omega)] at hl'; cases hl'
    subst hi2
    rw [Nat.sub_self] at hl'
    cases hl'
    exact ⟨b, c, by rw [← h.1, List.getElem?_append_right (Nat.le_refl _), Nat.sub_self]; rfl, Nat.lt_of_lt_of_le hb k.size, far b hb hbo, hl0, fun j z hz => k.ints _ _ _ (hc j z hz)⟩
theorem Parts.of_turn {w w' : World} {g n cap : Nat} {sl : List Value} {ls : List (List Int)} {f : Nat → Value} {N : Nat} (h : PartsV w (.slice (some ⟨g, 0, none⟩) n cap) sl ls) (hn : sl.length = n) (hN : n ≤ N) (hf : ∀ p, p < n → f p = sl.getD p undef)
    (hr : w'.rowIs g 22 N (fun p => if p < n then f (n - 1 - p) else f p)) (ho : One g w w') : Parts w' g ls.reverse := by
  intro i l hl
  have hi : i < ls.length := by
    rcases Nat.lt_or_ge i ls.length with h | h
    · exact h
    · rw [List.getElem?_eq_none (by simpa using h)] at hl; cases hl
  rw [List.getElem?_reverse hi] at hl
  obtain ⟨b, c, h1, h2, h3, h4, h5⟩ := h.2 _ l hl
  have hls : ls.length = n := by rw [← h.1]; exact hn
  have hne : b ≠ g := by
    rintro rfl
    exact h3 (by simp [Value.ownBlock])
  refine ⟨b, c, ?_, Nat.lt_of_lt_of_le h2 (Nat.le_of_eq ho.size.symm), h4, fun j z hz => ?_⟩
  · have hc := hr.cell (i := i) (by omega)
    rw [hc, if_pos (by omega), hf _ (by omega), List.getD_eq_getElem?_getD, ← hls, h1]
    rfl
  · exact (World.cell?_of_block (ho.block b hne)).trans (h5 j z hz)
set_option maxRecDepth 100000 in
set_option maxHeartbeats 2000000 in
theorem piece_any (x : Nat) (m : Int) (l : List Int) (hE : Ev (fun k => PAll.nat_digits.f k (x : Int) m) l) (h0 : 0 < l.length) (W : World) : Calls Try.prog 114 #[.int .u64 (x : Nat), .int .i64 m] W fun e w' => ∃ b c, e = .returned (.slice (some ⟨b, 0, none⟩) l.length c) ∧ W.heap.size ≤ b ∧ b < w'.heap.size ∧ (∀ j z, l[j]? = some z → w'.cell? ⟨b, j, none⟩ = some (.int .u8 z)) ∧ Below W.heap.size W w' := by
  obtain ⟨k, hk⟩ := Ev.rounds hE
  refine (PAll.nat_digits.calls k (x : Int) m l W hk).mono ?_
  rintro e w4 ⟨vd, rfl, hR, hb4⟩
  have hO := R_own hR
  rcases hO.2 with ⟨_, h1⟩ | ⟨g, cap, cur, rfl, hge, _⟩
  · omega
  · have hl := fun i (hi : i < l.length * 1) => hO.cellAt i hi
    refine ⟨g, cap, rfl, hge, own_lt hO g rfl, fun j z hz => ?_, hb4⟩
    have hj : j < l.length := by
      rcases Nat.lt_or_ge j l.length with h | h
      · exact h
      · rw [List.getElem?_eq_none h] at hz; cases hz
    have := hl j (by omega)
    rw [this]
    unfold nums
    rw [List.getElem?_map, hz]
    rfl
theorem ten_two (R : Nat) : 10 ^ (19 * R) ≤ 2 ^ (64 * R) := by
  rw [Nat.pow_mul, Nat.pow_mul]
  exact Nat.pow_le_pow_left (by decide) R
set_option maxRecDepth 100000 in
set_option maxHeartbeats 4000000 in
theorem ntext_any (v : Value) (x R : Nat) (w : World) (h : N64 w v x) (hx : x < 10 ^ (19 * R)) (hR : R ≤ 1000) :
    Calls Try.prog 46 #[v] w fun e w' => ∃ l, e = .returned (.string (strOfNums l)) ∧ Dec x l ∧ l.length ≤ 19 * (R + 1) ∧ Below w.heap.size w w' := by
  have HM := Lib.hid h
  obtain ⟨A, ca, rfl, _, _, _⟩ := h
  have HX := Lib.hid hx
  have e0 := Blk.new w 26 #[.slice A (wl 64 x) ca]
  have hb0 := cba (Below.refl _ w) (.cells #[.slice A (wl 64 x) ca] 26)
  have k0 : (w.alloc (.cells #[.slice A (wl 64 x) ca] 26)).cell? ⟨w.heap.size, 0, none⟩ = some (.slice A (wl 64 x) ca) := e0.cell 0
  clear hx
  go_enter Try.func46, Try.ntmps46
  go_wp2_with fail
  have e1 := Blk.new (w.alloc (.cells #[.slice A (wl 64 x) ca] 26)) 26 #[.slice A (wl 64 x) ca]
  have hb1 := cba hb0 (.cells #[.slice A (wl 64 x) ca] 26)
  simp only [World.size_alloc] at e1
  obtain ⟨S, hS⟩ : ∃ S, (w.alloc (.cells #[.slice A (wl 64 x) ca] 26)).alloc (.cells #[.slice A (wl 64 x) ca] 26) = S := ⟨_, rfl⟩
  rw [hS] at e1 hb1 ⊢
  clear hS e0 k0 hb0
  have HB1 := Lib.hid hb1
  have BX := Lib.hid (show Box S (w.heap.size + 1) x from ⟨_, _, e1, HM.out.below hb1⟩)
  clear e1 hb1
  go_loopw [3, 4] (fun v3 v4 wr => ∃ (n : Nat) (sl : List Value) (ls : List (List Int)) (gb y : Nat), v4 = .pointer (some ⟨gb, 0, none⟩) ∧ Hid (OwnS wr v3 n sl) ∧ Hid (PartsV wr v3 sl ls) ∧ Hid (Box wr gb y) ∧ Hid (v3.ownBlock ≠ some gb ∧ w.heap.size ≤ gb ∧ ∀ g, v3.ownBlock = some g → w.heap.size ≤ g) ∧ Hid (∀ l, Dec y l → Dec x (l ++ ls.reverse.flatten)) ∧ Hid (y < 10 ^ (19 * (R - n)) ∧ y ≤ x ∧ n ≤ R ∧ ls.flatten.length ≤ 19 * n ∧ sl.length = n) ∧ Hid (Below w.heap.size w wr)) (fun v3 _ _ => R + 1 - lenOf v3)
  case atStart => exact ⟨0, [], [], w.heap.size + 1, x, rfl, Lib.hid (OwnS.nil _), Lib.hid (PartsV.nil _ _), BX, Lib.hid ⟨by simp [Value.ownBlock], Nat.le_succ _, fun g hg => by simp [Value.ownBlock] at hg⟩, Lib.hid (fun l hl => by simpa using hl), Lib.hid ⟨by simpa using HX.out, Nat.le_refl _, Nat.zero_le _, by simp, rfl⟩, HB1⟩
  case round =>
    obtain ⟨n, sl, ls, gb, y, rfl, HO, HP, HBX, HG, HD, HY, HBW⟩ := hrel
    have hlen := HO.out.len
    obtain ⟨P, cP, hbk, hny⟩ := HBX.out
    have EB := Lib.hid hbk
    have NY := Lib.hid hny
    have kb := hbk.cell 0
    clear hbk hny HBX
    have hy := HY.out
    have hwy : wl 64 y ≤ 1099511627776 := Nat.le_trans ((wl_le (k := 64) (by decide) y R).2 (Nat.lt_of_le_of_lt hy.2.1 (Nat.lt_of_lt_of_le HX.out (ten_two R)))) (by omega)
    have HSM : Hid (∀ W v, N64 W v y → Calls Try.prog 95 #[v, .int .u64 10000000000000000000] W fun e w' => ∃ q, e = .returned (.tuple #[q, .int .u64 (y % 10 ^ 19 : Nat)]) ∧ N64 w' q (y / 10 ^ 19) ∧ Below W.heap.size W w') := Lib.hid (fun W v hv => nsmall_any v y (10 ^ 19) W hv hwy (by decide) (by decide))
    have HYE := Lib.hid (show y / 10 ^ 19 * 10 ^ 19 + y % 10 ^ 19 = y by rw [Nat.mul_comm]; exact Nat.div_add_mod y (10 ^ 19))
    have hr19 : y % 10 ^ 19 < 10 ^ 19 := Nat.mod_lt _ (by decide)
    obtain ⟨q, hq⟩ : ∃ q, y / 10 ^ 19 = q := ⟨_, rfl⟩
    obtain ⟨r, hr⟩ : ∃ r, y % 10 ^ 19 = r := ⟨_, rfl⟩
    rw [hq, hr] at HSM HYE
    rw [hr] at hr19
    have HR19 := Lib.hid hr19
    clear hq hr hr19 hwy hy
    go_wp2_with fail
    with_reducible refine (HSM.out _ _ NY.out).mono ?_
    rintro e w2 ⟨u, rfl, hu, hb2⟩
    obtain ⟨Q, cq, rfl, hq1, hq2, hq3⟩ := hu
    have NQ := Lib.hid (show N64 w2 (.agg #[.slice Q (wl 64 q) cq]) q from ⟨Q, cq, rfl, hq1, hq2, hq3⟩)
    have hgsz := hb2.size
    have hown := HO.out.lt
    clear kb hq1 hq2 hq3
    replace HP := Lib.hid (HP.out.keep (Keep.of_below hb2))
    replace HO := Lib.hid (HO.out.below hb2)
    replace EB := Lib.hid (blk_below EB.out hb2)
    replace HBW := Lib.hid (cbt HBW.out hb2)
    have e5 := Blk.new w2 26 #[.slice Q (wl 64 q) cq]
    have hb5 := cba (Below.refl _ w2) (.cells #[.slice Q (wl 64 q) cq] 26)
    go_upto_region 4 with (fail)
    obtain ⟨S2, hS⟩ : ∃ S, w2.alloc (.cells #[.slice Q (wl 64 q) cq] 26) = S := ⟨_, rfl⟩
    rw [hS] at e5 hb5 ⊢
    obtain ⟨g5, hg⟩ : ∃ g, w2.heap.size = g := ⟨_, rfl⟩
    have hgb5 : gb < g5 := by rw [← hg]; exact EB.out.lt
    have HO5 := Lib.hid (show u3.ownBlock ≠ some g5 from fun h => by have := hown g5 h; omega)
    replace NQ := Lib.hid (NQ.out.below hb5)
    replace HP := Lib.hid (HP.out.keep (Keep.of_below hb5))
    replace HO := Lib.hid (HO.out.below hb5)
    replace EB := Lib.hid (blk_below EB.out hb5)
    replace HBW := Lib.hid (cbt HBW.out hb5)
    rw [hg] at e5
    simp only [hg]
    have E5 := Lib.hid e5
    clear hS hg hb2 hb5 e5 hgsz hown
    have k5 := E5.out.cell 0
    by_cases hq0 : q = 0
    · have HZ := Lib.hid (fun v W (h : N64 W v q) => zero_yes v W (hq0 ▸ h))
      subst hq0
      rw [Nat.zero_mul, Nat.zero_add] at HYE
      obtain ⟨rr, d1, d2, d3⟩ := Dec.exists r
      have hrr : rr ≤ 19 := by
        rcases d3 with h | h
        · omega
        · have := (Nat.pow_lt_pow_iff_right (a := 10) (by decide)).1 (Nat.lt_of_le_of_lt h HR19.out)
          omega
      have hdec : Dec r (fixA rr r).reverse := ⟨rr, d1, d2, d3, rfl⟩
      have hpl : (fixA rr r).reverse.length ≤ 19 := by rw [List.length_reverse, fixA_len]; exact hrr
      have hp0 : 0 < (fixA rr r).reverse.length := by rw [List.length_reverse, fixA_len]; exact d1
      have HPC := Lib.hid (fun W => piece_any r 1 (fixA rr r).reverse (digits_one d1 d2 d3 (Nat.lt_trans HR19.out (by decide)) (by omega)) hp0 W)
      have HDX := Lib.hid (HD.out _ (show Dec y (fixA rr r).reverse by rw [← HYE.out]; exact hdec))
      obtain ⟨pl, hple⟩ : ∃ p, (fixA rr r).reverse = p := ⟨_, rfl⟩
      rw [hple] at HPC HDX hpl hp0
      clear hple hdec d1 d2 d3 hrr
      go_wp2_with fail
      with_reducible refine (HZ.out _ _ NQ.out).mono ?_
      rintro e w3 ⟨rfl, hb⟩
      clear k5
      replace NQ := Lib.hid (NQ.out.below hb)
      replace HP := Lib.hid (HP.out.keep (Keep.of_below hb))
      replace HO := Lib.hid (HO.out.below hb)
      replace EB := Lib.hid (blk_below EB.out hb)
      replace E5 := Lib.hid (blk_below E5.out hb)
      replace HBW := Lib.hid (cbt HBW.out hb)
      clear hb
      go_wp2_with fail
      with_reducible refine (HPC.out _).mono ?_
      rintro e w4 ⟨b4, c4, rfl, hb40, hb41, hcell, hb⟩
      have hown3 := HO.out.lt
      replace NQ := Lib.hid (NQ.out.below hb)
      replace HP := Lib.hid (HP.out.keep (Keep.of_below hb))
      replace HO := Lib.hid (HO.out.below hb)
      replace EB := Lib.hid (blk_below EB.out hb)
      replace E5 := Lib.hid (blk_below E5.out hb)
      replace HBW := Lib.hid (cbt HBW.out hb)
      have hb4o : u3.ownBlock ≠ some b4 := fun h => by have := hown3 b4 h; omega
      have hbA := cba (Below.refl w4.heap.size w4) (.cells #[.slice (some ⟨b4, 0, none⟩) pl.length c4] 22)
      have hnn : n + 1 ≤ 1000000 := by have := HY.out.2.2.1; omega
      obtain ⟨g, cap, w5, hrun, hown5, hgr, hk5, hat, hlt5⟩ := OwnS.append (HO.out.below hbA) 143 (.slice (some ⟨b4, 0, none⟩) pl.length c4) rfl rfl w4.heap.size 1 ((Blk.new w4 22 #[.slice (some ⟨b4, 0, none⟩) pl.length c4]).cell 0) hnn
      have HP5 := Lib.hid (PartsV.push (n := n + 1) (cap := cap) (c := c4) (HP.out.keep (Keep.of_below hbA)) hk5 hat (Nat.lt_of_lt_of_le hb41 hbA.size) hb4o hp0 (fun j z hz => (hbA.cell (p := ⟨b4, j, none⟩) hb41).trans (hcell j z hz)))
      have hgw0 : w.heap.size ≤ g := by
        rcases hat with h | h
        · exact HG.out.2.2 g h
        · rw [h]; exact Nat.le_trans HBW.out.size hbA.size
      have NQ4 := Lib.hid (NQ.out.below hbA)
      replace HBW := Lib.hid ((cbt HBW.out hbA).grown hgr (Nat.le_trans HBW.out.size hbA.size) (fun k h => HG.out.2.2 k h))
      clear hcell hb hb40 hb41 hown3
      go_wp2_with (at_builtin; refine wpList_append_run (by rfl) (.tmp 15) (.tmp 18) 143 143 (by rfl) (by rfl) (by rfl) hrun ?_)
      clear hrun
      have HE := Lib.hid hown5
      obtain ⟨hnc, hrow0⟩ := hown5.row
      obtain ⟨F, hrow, hF⟩ : ∃ F : Nat → Value, w5.rowIs g 22 cap F ∧ ∀ p, p < n + 1 → F p = (sl ++ [Value.slice (some ⟨b4, 0, none⟩) pl.length c4]).getD p undef := ⟨_, hrow0, fun p hp => if_pos hp⟩
      clear hrow0
      have hy2 := HY.out
      have hfv : ∀ p, p < n + 1 → ∃ b l c, F p = .slice (some ⟨b, 0, none⟩) l c := by
        intro p hp
        rw [hF p hp]
        have hlp : p < (ls ++ [pl]).length := by rw [← HP5.out.1]; simp; omega
        obtain ⟨b, c, h1, _⟩ := HP5.out.2 p _ (List.getElem?_eq_getElem hlp)
        exact ⟨b, _, c, by rw [List.getD_eq_getElem?_getD, h1]; rfl⟩
      have HRV := Lib.hid (reverse_any g (n + 1) cap cap F w5 hnc (by have := hy2.2.2.1; omega) hrow hfv)
      have hs5 : (sl ++ [Value.slice (some ⟨b4, 0, none⟩) pl.length c4]).length = n + 1 := by simp [hy2.2.2.2.2]
      have HPT := Lib.hid (fun (w' : World) hr ho => Parts.of_turn (w := w5) (w' := w') HP5.out hs5 hnc hF hr ho)
      have hgw : g < w5.heap.size := hlt5
      clear hfv hrow hs5 hF
      go_wp2_with fail
      with_reducible refine HRV.out.mono ?_
      rintro e w6 ⟨rfl, hr6, ho6⟩
      have HPA := Lib.hid (HPT.out w6 hr6 ho6)
      have hb6 : Below w.heap.size w w6 := ⟨ho6.os.trans HBW.out.os, ho6.tape.trans HBW.out.tape, ho6.output.trans HBW.out.output, Nat.le_trans HBW.out.size (Nat.le_of_eq ho6.size.symm), fun k hk => (ho6.block k (by omega)).trans (HBW.out.block k hk)⟩
      have HB6 := Lib.hid hb6
      have hfx : (ls ++ [pl]).reverse.flatten = pl ++ ls.reverse.flatten := by rw [List.reverse_append, List.flatten_append]; simp
      have hfl : (pl ++ ls.reverse.flatten).length ≤ 19 * (R + 1) := by
        have h1 : ls.reverse.flatten.length = ls.flatten.length := by rw [List.length_flatten, List.length_flatten, List.map_reverse, List.sum_reverse]
        rw [List.length_append, h1]
        have := hy2.2.2.1
        have := hy2.2.2.2.1
        omega
      have hf0 : 0 < (ls ++ [pl]).reverse.flatten.length := by rw [hfx, List.length_append]; omega
      have HCC := Lib.hid (concat_any g (n + 1) cap (ls ++ [pl]).reverse w6 (by rw [List.length_reverse, ← HP5.out.1]; simp [hy2.2.2.2.2]) hf0 (by rw [ho6.size]; exact hgw) HPA.out (by have := hy2.2.2.1; omega) (by rw [hfx]; omega))
      have HFL := Lib.hid hfl
      clear hr6 ho6 hb6 hfl hfx hf0 hy2
      go_wp2_with fail
      with_reducible refine HCC.out.mono ?_
      rintro e w7 ⟨vs, rfl, hs, hb7⟩
      have hconv := own_string (P := Try.prog) (src := 22) (dst := 9) (e := 5) (xs := (ls ++ [pl]).reverse.flatten) Try.underlying22 (by kernel_rfl) (by kernel_rfl) (by simpa [nums] using hs)
      have HB7 := Lib.hid (cbt HB6.out hb7)
      clear hs hb7
      go_wp2_with fail
      go_ret
      exact ⟨_, rfl, HDX.out, HFL.out, HB7.out⟩
    · have HZ := Lib.hid (fun v W (h : N64 W v q) => zero_no v q W h (Nat.pos_of_ne_zero hq0))
      have HQ0 := Lib.hid hq0
      have HPC := Lib.hid (fun W => piece_any r 19 (fixA 19 r).reverse (digits_pad HR19.out) (by rw [List.length_reverse, fixA_len]; decide) W)
      have hpl : (fixA 19 r).reverse.length = 19 := by rw [List.length_reverse, fixA_len]
      have hp0 : 0 < (fixA 19 r).reverse.length := by omega
      have HDX := Lib.hid (fun l (hl : Dec q l) => HD.out _ (HYE.out ▸ hl.app (Nat.pos_of_ne_zero hq0) HR19.out))
      obtain ⟨pl, hple⟩ : ∃ p, (fixA 19 r).reverse = p := ⟨_, rfl⟩
      rw [hple] at HPC HDX hpl hp0
      have HPL := Lib.hid hpl
      clear hple hq0 hpl
      go_wp2_with fail
      with_reducible refine (HZ.out _ _ NQ.out).mono ?_
      rintro e w3 ⟨rfl, hb⟩
      clear k5
      replace NQ := Lib.hid (NQ.out.below hb)
      replace HP := Lib.hid (HP.out.keep (Keep.of_below hb))
      replace HO := Lib.hid (HO.out.below hb)
      replace EB := Lib.hid (blk_below EB.out hb)
      replace E5 := Lib.hid (blk_below E5.out hb)
      replace HBW := Lib.hid (cbt HBW.out hb)
      clear hb
      go_wp2_with fail
      with_reducible refine (HPC.out _).mono ?_
      rintro e w4 ⟨b4, c4, rfl, hb40, hb41, hcell, hb⟩
      have hown3 := HO.out.lt
      replace NQ := Lib.hid (NQ.out.below hb)
      replace HP := Lib.hid (HP.out.keep (Keep.of_below hb))
      replace HO := Lib.hid (HO.out.below hb)
      replace EB := Lib.hid (blk_below EB.out hb)
      replace E5 := Lib.hid (blk_below E5.out hb)
      replace HBW := Lib.hid (cbt HBW.out hb)
      have hb4o : u3.ownBlock ≠ some b4 := fun h => by have := hown3 b4 h; omega
      have hbA := cba (Below.refl w4.heap.size w4) (.cells #[.slice (some ⟨b4, 0, none⟩) pl.length c4] 22)
      have hnn : n + 1 ≤ 1000000 := by have := HY.out.2.2.1; omega
      obtain ⟨g, cap, w5, hrun, hown5, hgr, hk5, hat, hlt5⟩ := OwnS.append (HO.out.below hbA) 143 (.slice (some ⟨b4, 0, none⟩) pl.length c4) rfl rfl w4.heap.size 1 ((Blk.new w4 22 #[.slice (some ⟨b4, 0, none⟩) pl.length c4]).cell 0) hnn
      have HP5 := Lib.hid (PartsV.push (n := n + 1) (cap := cap) (c := c4) (HP.out.keep (Keep.of_below hbA)) hk5 hat (Nat.lt_of_lt_of_le hb41 hbA.size) hb4o hp0 (fun j z hz => (hbA.cell (p := ⟨b4, j, none⟩) hb41).trans (hcell j z hz)))
      have hgw0 : w.heap.size ≤ g := by
        rcases hat with h | h
        · exact HG.out.2.2 g h
        · rw [h]; exact Nat.le_trans HBW.out.size hbA.size
      have NQ4 := Lib.hid (NQ.out.below hbA)
      replace HBW := Lib.hid ((cbt HBW.out hbA).grown hgr (Nat.le_trans HBW.out.size hbA.size) (fun k h => HG.out.2.2 k h))
      clear hcell hb hb40 hb41 hown3
      have hbO := HO.out.len
      have hge := HG.out.2.1
      have hE5 : w5.heap[g5]? = _ := (hgr.block g5 (by simp; exact Nat.lt_succ_of_lt E5.out.lt) (fun h => HO5.out h.symm)).trans (E5.out.alloc _)
      have hEB : w5.heap[gb]? = _ := (hgr.block gb (by simp; exact Nat.lt_succ_of_lt EB.out.lt) (fun h => HG.out.1 h.symm)).trans (EB.out.alloc _)
      have E5' := Lib.hid (show Blk w5 g5 26 #[.slice Q (wl 64 q) cq] from hE5)
      have EB' := Lib.hid (show Blk w5 gb 26 #[.slice P (wl 64 y) cP] from hEB)
      have NQ' := Lib.hid (NQ4.out.keep hk5)
      have k5 := E5'.out.cell 0
      have kb := EB'.out.cell 0
      have fb := EB'.out.frozen 0
      have hgbg : g ≠ gb := by
        rcases hat with h | h
        · intro e; exact HG.out.1 (by rw [h, e])
        · have := EB.out.lt; have h2 := hbA.size; omega
      have hgb0 := HG.out.2.1
      have hlen3 := HO.out.len
      have ES := EB'.out.set_ 0 (.slice Q (wl 64 q) cq)
      have kx := ES.cell 0
      have hkS := Keep.set EB'.out 0 rfl (.slice Q (wl 64 q) cq)
      have hOS := hown5.of_block (w' := w5.setCell ⟨gb, 0, none⟩ (.slice Q (wl 64 q) cq)) (fun g' hg' => by
        have : g = g' := by simpa [Value.ownBlock] using hg'
        subst this
        exact Below.heap_setCell w5 _ _ g hgbg)
      have hBS := HBW.out.setCell (p := ⟨gb, 0, none⟩) hgb0 (.slice Q (wl 64 q) cq)
      have hsz : (w5.setCell ⟨gb, 0, none⟩ (.slice Q (wl 64 q) cq)).heap.size = w5.heap.size := by simp [World.setCell]
      have hNS := NQ'.out.keep hkS
      have hPS := HP5.out.keep hkS
      have HALL := Lib.hid (show ∀ X : World, X = (w5.setCell ⟨gb, 0, none⟩ (.slice Q (wl 64 q) cq)).alloc (.cells #[.slice Q (wl 64 q) cq] 26) → OwnS X (.slice (some ⟨g, 0, none⟩) (n + 1) cap) (n + 1) (sl ++ [.slice (some ⟨b4, 0, none⟩) pl.length c4]) ∧ PartsV X (.slice (some ⟨g, 0, none⟩) (n + 1) cap) (sl ++ [.slice (some ⟨b4, 0, none⟩) pl.length c4]) (ls ++ [pl]) ∧ Box X w5.heap.size q ∧ Below w.heap.size w X from by
        intro X hX
        subst hX
        have hb9 := cba (Below.refl _ (w5.setCell ⟨gb, 0, none⟩ (.slice Q (wl 64 q) cq))) (.cells #[.slice Q (wl 64 q) cq] 26)
        have e9 := Blk.new (w5.setCell ⟨gb, 0, none⟩ (.slice Q (wl 64 q) cq)) 26 #[.slice Q (wl 64 q) cq]
        rw [hsz] at e9
        exact ⟨hOS.below hb9, hPS.keep (Keep.of_below hb9), ⟨Q, cq, e9, hNS.below hb9⟩, cbt hBS hb9⟩)
      have HY2 := Lib.hid (show q < 10 ^ (19 * (R - (n + 1))) ∧ q ≤ x ∧ n + 1 ≤ R ∧ (ls ++ [pl]).flatten.length ≤ 19 * (n + 1) ∧ (sl ++ [Value.slice (some ⟨b4, 0, none⟩) pl.length c4]).length = n + 1 from by
        obtain ⟨y1, y2, y3, y4, y5⟩ := HY.out
        have hye := HYE.out
        have hq0 := HQ0.out
        have hnR : n + 1 ≤ R := by
          rcases Nat.lt_or_ge n R with h | h
          · exact h
          · exfalso
            rw [show R - n = 0 by omega, Nat.mul_zero, Nat.pow_zero] at y1
            omega
        refine ⟨?_, by omega, hnR, ?_, by simp [y5]⟩
        · refine Nat.lt_of_mul_lt_mul_right (a := 10 ^ 19) ?_
          rw [← Nat.pow_add, show 19 * (R - (n + 1)) + 19 = 19 * (R - n) by omega]
          omega
        · rw [List.flatten_append, List.length_append]
          simp
          have := HPL.out
          simp at y4
          omega)
      have hlt9 : g < w5.heap.size := hlt5
      go_wp2_with (at_builtin; refine wpList_append_run (by rfl) (.tmp 20) (.tmp 23) 143 143 (by rfl) (by rfl) (by rfl) hrun ?_)
      obtain ⟨o1, o2, o3, o4⟩ := HALL.out _ rfl
      have hne9 : g ≠ w5.heap.size := Nat.ne_of_lt hlt9
      have hDX2 : ∀ l, Dec q l → Dec x (l ++ (ls ++ [pl]).reverse.flatten) := fun l hl => by
        have := HDX.out l hl
        rw [List.reverse_append, List.flatten_append]
        simpa using this
      have hnR := HY2.out.2.2.1
      have hmea : R + 1 - lenOf (Value.slice (some ⟨g, 0, none⟩) (n + 1) cap) < R + 1 - lenOf u3 := by
        rw [hlen3]
        simp only [lenOf]
        omega
      have hown9 : (Value.slice (some ⟨g, 0, none⟩) (n + 1) cap).ownBlock ≠ some w5.heap.size := by
        intro h
        exact hne9 (by simpa [Value.ownBlock] using h)
      have hbase9 : ∀ g', (Value.slice (some ⟨g, 0, none⟩) (n + 1) cap).ownBlock = some g' → w.heap.size ≤ g' := by
        intro g' h
        have : g = g' := by simpa [Value.ownBlock] using h
        rw [← this]
        exact hgw0
      exact ⟨⟨n + 1, _, ls ++ [pl], w5.heap.size, q, rfl, Lib.hid o1, Lib.hid o2, Lib.hid o3, Lib.hid ⟨hown9, Nat.le_trans hgw0 (Nat.le_of_lt hlt9), hbase9⟩, Lib.hid hDX2, HY2, Lib.hid o4⟩, hmea⟩
end Go.Proofs.Yteikhnmmkanndaa
namespace Go.Proofs.Yteikhnmmkanndaa
open Go.RowKit Go.Proofs.YteikhnmmkanndaaW.PrintWords Go.Proofs.YteikhnmmkanndaaW.PrintMore Go.Proofs.Yteikhnmmkanndaa.PAll
theorem strOfNums_app (a b : List Int) : strOfNums a ++ strOfNums b = strOfNums (a ++ b) := by
  apply ByteArray.ext
  rw [ByteArray.data_append]
  simp [strOfNums]
theorem strOfNums_toList (a : List Int) : (strOfNums a).toList = a.map fun n => UInt8.ofNat n.toNat := by
  rw [← strOfNums_data]
  exact ByteArray.toList_eq _
theorem dig_zero_cs (r : Nat) (h : r < 256) : locutionref25_at.f (cs 8 r) 0 = some (r : Int) := by
  have := at_ds (x := r) (n := wl 8 r) (wl_lt (by decide) r) 0
  have e : dig 8 r 0 = r := by unfold dig; rw [Nat.mul_zero, Nat.pow_zero, Nat.div_one]; exact Nat.mod_eq_of_lt h
  rw [e] at this
  exact this
theorem wl8_pow {x m : Nat} (h : x < 10 ^ m) : wl 8 x ≤ m := by
  rw [wl_le (by decide)]
  refine Nat.lt_of_lt_of_le h ?_
  rw [Nat.pow_mul]
  exact Nat.pow_le_pow_left (by decide) m
theorem rtext_zero (s : List Int) : Ev (fun k => locutionref25_Text.l0 k (cs 8 0) (strOfNums s)) (if s = [] then strOfNums [48] else strOfNums s) := by
  refine ⟨1, fun k hk => ?_⟩
  obtain ⟨k, rfl⟩ : ∃ m, k = m + 1 := ⟨k - 1, by omega⟩
  simp only [locutionref25_Text.l0, cs_zero (show 0 < 8 by decide), List.length_nil]
  rw [if_neg (by decide), strOfNums_toList]
  by_cases h : s = []
  · subst h; simp; rfl
  · rw [if_neg (by simpa using h), if_neg h]
theorem rtext_l : ∀ m x (s : List Int), x < 10 ^ m → 0 < x → m + s.length ≤ 1000000 → ∃ l, Dec x l ∧ Ev (fun k => locutionref25_Text.l0 k (cs 8 x) (strOfNums s)) (strOfNums (l ++ s)) := by
  intro m
  induction m with
  | zero => intro x s hx h0 _; rw [Nat.pow_zero] at hx; omega
  | succ m ih =>
    intro x s hx h0 hs
    have hw := wl8_pow hx
    obtain ⟨K1, hK1⟩ := div_ev x 10 (wl 8 x) (wl_lt (by decide) x) (by decide) (by decide +kernel) (by omega)
    dsimp only at hK1
    rw [show ds 8 x (wl 8 x) = cs 8 x from rfl, cs10] at hK1
    have hr : x % 10 < 256 := by omega
    have hch : wrap64 (48 + ((x % 10 : Nat) : Int)) % 256 = ((48 + x % 10 : Nat) : Int) := by rw [Go.IntWalk.wrap64_in _ (by omega)]; omega
    have hsz : (strOfNums [((48 + x % 10 : Nat) : Int)]).size + (strOfNums s).size ≤ 9223372036854775807 := by rw [strOfNums_size, strOfNums_size, List.length_singleton]; omega
    have hlen : ((cs 8 x).length : Int) > 0 := by
      rw [cs_len]
      have := (wl_eq_zero (k := 8) (by decide) (x := x)).1
      omega
    have step : ∀ (K : Nat) (z : ByteArray), (∀ k, K ≤ k → locutionref25_Text.l0 k (cs 8 (x / 10)) (strOfNums (((48 + x % 10 : Nat) : Int) :: s)) = some z) → Ev (fun k => locutionref25_Text.l0 k (cs 8 x) (strOfNums s)) z := by
      intro K z hK
      refine ⟨K + K1 + 1, fun k hk => ?_⟩
      obtain ⟨k, rfl⟩ : ∃ m, k = m + 1 := ⟨k - 1, by omega⟩
      simp only [locutionref25_Text.l0]
      rw [if_pos hlen, hK1 k (by omega)]
      simp only [Option.bind_some, dig_zero_cs _ hr, hch]
      rw [if_pos hsz, strOfNums_app]
      exact hK k (by omega)
    by_cases hq : x / 10 = 0
    · refine ⟨[((48 + x % 10 : Nat) : Int)], ⟨1, by decide, by omega, .inl rfl, rfl⟩, ?_⟩
      obtain ⟨K, hK⟩ := rtext_zero (((48 + x % 10 : Nat) : Int) :: s)
      dsimp only at hK
      rw [← hq] at hK
      refine step K _ (fun k hk => ?_)
      rw [hK k hk, if_neg (by simp)]
      rfl
    · obtain ⟨l, hl, K, hK⟩ := ih (x / 10) (((48 + x % 10 : Nat) : Int) :: s) (by rw [Nat.pow_succ] at hx; omega) (by omega) (by simp; omega)
      dsimp only at hK
      have hd := hl.app (y := x % 10) (a := 1) (by omega) (by omega)
      rw [Nat.pow_one, show x / 10 * 10 + x % 10 = x by omega] at hd
      have e1 : (fixA 1 (x % 10)).reverse = [((48 + x % 10 : Nat) : Int)] := by
        show [((48 + x % 10 % 10 : Nat) : Int)] = _
        rw [Nat.mod_mod]
      rw [e1] at hd
      exact ⟨_, hd, step K _ (fun k hk => by rw [hK k hk, List.append_assoc]; rfl)⟩
theorem rtext_ev {x m : Nat} (hx : x < 10 ^ m) (hm : m ≤ 100000) : ∃ l, Dec x l ∧ Ev (fun k => locutionref25_Text.f k (cs 8 x)) (strOfNums l) := by
  unfold locutionref25_Text.f
  rw [show (⟨#[]⟩ : ByteArray) = strOfNums [] from rfl]
  rcases Nat.eq_zero_or_pos x with h | h
  · subst h
    have := rtext_zero []
    rw [if_pos rfl] at this
    exact ⟨[48], ⟨1, by decide, by decide, .inl rfl, rfl⟩, this⟩
  · obtain ⟨l, h1, h2⟩ := rtext_l m x [] hx h (by simp; omega)
    rw [List.append_nil] at h2
    exact ⟨l, h1, h2⟩
theorem rtextR_any {v : Value} {x m : Nat} {w : World} (h : R256 w v x) (hx : x < 10 ^ m) (hm : m ≤ 100000) : Calls Try.prog 47 #[v] w fun e w' => ∃ l, e = .returned (.string (strOfNums l)) ∧ Dec x l ∧ Below w.heap.size w w' := by
  obtain ⟨A, c, rfl, hl, hf⟩ := h
  obtain ⟨l, h1, h2⟩ := rtext_ev hx hm
  obtain ⟨k, hk⟩ := Ev.rounds h2
  refine (locutionref25_Text.calls k (fun _ => True) A c _ _ w ⟨A, c, rfl, hl, hf⟩ hk).mono ?_
  rintro e w1 ⟨rfl, hb⟩
  exact ⟨l, rfl, h1, hb⟩
end Go.Proofs.Yteikhnmmkanndaa
namespace Go.Proofs.Yteikhnmmkanndaa
open Go.RowKit Go.Proofs.YteikhnmmkanndaaW.PrintWords Go.Proofs.YteikhnmmkanndaaW.PrintMore
def chr (n : Int) : UInt8 := UInt8.ofNat n.toNat
theorem chr_dig (d : Nat) (h : d < 10) : (chr ((48 + d : Nat) : Int)).toNat = 48 + d := by
  unfold chr
  rw [Int.toNat_natCast, UInt8.toNat_ofNat']
  exact Nat.mod_eq_of_lt (by omega)
theorem fixA_dig : ∀ r x, ∀ c ∈ (fixA r x).map chr, isDig c
  | 0, _, c, h => by simp [fixA] at h
  | r + 1, x, c, h => by
    unfold fixA at h
    rw [List.map_cons, List.mem_cons] at h
    rcases h with h | h
    · subst h
      unfold isDig
      rw [chr_dig _ (by omega)]
      omega
    · exact fixA_dig r (x / 10) c h
theorem fixA_dec : ∀ r x, x < 10 ^ r → decN ((fixA r x).reverse.map chr) = x
  | 0, x, h => by
    have : x = 0 := by omega
    subst this
    rfl
  | r + 1, x, h => by
    unfold fixA
    rw [List.reverse_cons, List.map_append, List.map_cons, List.map_nil, decN_snoc, fixA_dec r (x / 10) (by rw [Nat.pow_succ] at h; omega), chr_dig _ (by omega)]
    omega
theorem fixA_last : ∀ r x, x < 10 ^ (r + 1) → (fixA (r + 1) x).reverse.head? = some ((48 + x / 10 ^ r : Nat) : Int)
  | 0, x, h => by
    have : x < 10 := by simpa using h
    unfold fixA fixA
    simp
    omega
  | r + 1, x, h => by
    rw [fixA, List.reverse_cons]
    have := fixA_last r (x / 10) (by rw [Nat.pow_succ] at h; omega)
    rw [List.head?_append, this, Nat.div_div_eq_div_mul, ← Nat.pow_succ']
    rfl
theorem Dec.text {x : Nat} {l : List Int} (h : Dec x l) : okText (strOfNums l).toList ∧ decN (strOfNums l).toList = x := by
  obtain ⟨r, h1, h2, h3, rfl⟩ := h
  obtain ⟨r, rfl⟩ : ∃ m, r = m + 1 := ⟨r - 1, by omega⟩
  rw [strOfNums_toList]
  show okText ((fixA (r + 1) x).reverse.map chr) ∧ decN ((fixA (r + 1) x).reverse.map chr) = x
  refine ⟨⟨?_, ?_, ?_⟩, fixA_dec _ _ h2⟩
  · intro h
    have := congrArg List.length h
    simp [fixA_len] at this
  · intro c hc
    rw [List.map_reverse, List.mem_reverse] at hc
    exact fixA_dig _ _ c hc
  · rintro ⟨ha, hb⟩
    rw [List.length_map, List.length_reverse, fixA_len] at ha
    rw [List.head?_map, fixA_last r x h2] at hb
    have hq : x / 10 ^ r < 10 := Nat.div_lt_of_lt_mul (by rw [Nat.pow_succ] at h2; exact h2)
    have hb2 : chr ((48 + x / 10 ^ r : Nat) : Int) = 48 := by simpa using hb
    have hc := chr_dig _ hq
    rw [hb2] at hc
    have : x / 10 ^ r = 0 := by
      have h48 : (48 : UInt8).toNat = 48 := rfl
      omega
    have h10 : 10 ^ r ≤ x := by
      rcases h3 with h | h
      · omega
      · exact h
    have h0 := Nat.div_pos h10 (Nat.pow_pos (n := r) (show 0 < 10 by decide))
    rw [this] at h0
    exact absurd h0 (by decide)
theorem Dec.size {x : Nat} {l : List Int} (_ : Dec x l) : (strOfNums l).size = l.length := strOfNums_size l
theorem Dec.some (x : Nat) : ∃ l, Dec x l := by
  obtain ⟨r, h1, h2, h3⟩ := Dec.exists x
  exact ⟨_, r, h1, h2, h3, rfl⟩
theorem Dec.le {x m : Nat} {l : List Int} (h : Dec x l) (hx : x < 10 ^ (m + 1)) : l.length ≤ m + 1 := by
  obtain ⟨r, h1, h2, h3, rfl⟩ := h
  rw [List.length_reverse, fixA_len]
  rcases h3 with h | h
  · omega
  · have := (Nat.pow_lt_pow_iff_right (a := 10) (by decide)).1 (Nat.lt_of_le_of_lt h hx)
    omega
theorem ntext_dec {x R : Nat} {l : List Int} {v : Value} {W : World} (h : N64 W v x) (hx : x < 10 ^ (19 * R)) (hR : R ≤ 1000) (hl : Dec x l) : Calls Try.prog 46 #[v] W fun e w' => e = .returned (.string (strOfNums l)) ∧ Below W.heap.size W w' := by
  refine (ntext_any v x R W h hx hR).mono ?_
  rintro e w' ⟨m, rfl, hm, _, hb⟩
  rw [hl.unique hm]
  exact ⟨rfl, hb⟩
theorem rtext_dec {x m : Nat} {l : List Int} {v : Value} {W : World} (h : R256 W v x) (hx : x < 10 ^ m) (hm : m ≤ 100000) (hl : Dec x l) : Calls Try.prog 47 #[v] W fun e w' => e = .returned (.string (strOfNums l)) ∧ Below W.heap.size W w' := by
  refine (rtextR_any h hx hm).mono ?_
  rintro e w' ⟨m, rfl, hm, hb⟩
  rw [hl.unique hm]
  exact ⟨rfl, hb⟩
end Go.Proofs.Yteikhnmmkanndaa
