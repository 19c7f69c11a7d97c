/- Laid together by prune.py out of the texts that the row needs: the declarations that its theorem uses. -/
import Derived.Test.YteikhnmmkanndaaXRatSums5
import Derived.ChangeSlices
import Derived.ChangeSame
import Derived.OpenShut
import Derived.ChangeOld
namespace Go.Proofs.Yteikhnmmkanndaa
open Go.RowKit Go.Proofs.YteikhnmmkanndaaW.PrintWords
set_option linter.unusedSimpArgs false
set_option linter.unusedVariables false
theorem RF.fst {w : World} {A B : Option Addr} {p c q e n d : Nat} (h : RF w (.agg #[.slice A p c, .slice B q e]) n d) : R256 w (.slice A p c) n := by
  obtain ⟨_, _, _, _, _, _, hv, h1, _⟩ := h
  cases hv
  exact h1
theorem RF.snd {w : World} {A B : Option Addr} {p c q e n d : Nat} (h : RF w (.agg #[.slice A p c, .slice B q e]) n d) : R256 w (.slice B q e) d := by
  obtain ⟨_, _, _, _, _, _, hv, _, h2⟩ := h
  cases hv
  exact h2
theorem RF.of {w : World} {v u : Value} {n d : Nat} (h1 : R256 w v n) (h2 : R256 w u d) : ∃ A p c B q e, v = .slice A p c ∧ u = .slice B q e ∧ RF w (.agg #[.slice A p c, .slice B q e]) n d := by
  have h1' := h1
  have h2' := h2
  obtain ⟨A, c, rfl, _, _⟩ := h1
  obtain ⟨B, e, rfl, _, _⟩ := h2
  exact ⟨_, _, _, _, _, _, rfl, rfl, _, _, _, _, _, _, rfl, h1', h2'⟩
theorem R256.one {w : World} {g : Nat} {t : TypeId} (h : Blk w g t #[.int .i64 1]) : R256 w (.slice (some ⟨g, 0, none⟩) 1 1) 1 := by
  unfold R256
  rw [cs1]
  refine ⟨some ⟨g, 0, none⟩, 1, rfl, Nat.le_refl _, ?_⟩
  intro W' hW
  refine Kd.C_of_reads (d := 0) ⟨rfl, by decide, fun h0 => ⟨⟨g, 0, none⟩, rfl, fun j hj => ?_⟩⟩
  have hj0 : j = 0 := by
    have : ([1] : List Int).length = 1 := rfl
    omega
  subst hj0
  have hb : Blk W' g t #[.int .i64 1] := (hW g trivial h.lt).trans h
  exact hb.cell 0
theorem len_R256 {w : World} {A : Option Addr} {n c x : Nat} (h : R256 w (.slice A n c) x) : n = wl 8 x := by
  obtain ⟨A', c', hv, _, _⟩ := h
  cases hv
  exact cs_len 8 x
set_option maxRecDepth 100000 in
set_option maxHeartbeats 4000000 in
theorem xof_any (va vb : Value) (n d : Nat) (w : World) (ha : R256 w va n) (hb : R256 w vb d) (hn : wl 8 n ≤ 400000000) (hd : wl 8 d ≤ 400000000) (h0 : 0 < d) : Calls Try.prog 112 #[va, vb] w (MkR w (rn n d) (rd n d)) := by
  have HA := Lib.hid ha
  have HB := Lib.hid hb
  have hla := ha
  obtain ⟨A, ca, rfl, _, _⟩ := ha
  obtain ⟨B, cb, rfl, _, _⟩ := hb
  have hl := len_R256 hla
  clear hla
  have hg0 : 0 < Nat.gcd n d := Nat.gcd_pos_of_pos_right n h0
  have HRN : Hid (n / Nat.gcd n d = rn n d) := Lib.hid rfl
  have HRD : Hid (d / Nat.gcd n d = rd n d) := Lib.hid rfl
  have HZ1 := Lib.hid (rd_zero h0)
  have hgd : wl 8 (Nat.gcd n d) ≤ 400000000 := Nat.le_trans (wl_mono (by decide) (Nat.gcd_le_right n h0)) hd
  have HG := Lib.hid (fun W va vb (h1 : R256 W va n) (h2 : R256 W vb d) => rgcd_any h1 h2 (by omega) (by omega))
  have HD1 := Lib.hid (fun W va vb (h1 : R256 W va n) (h2 : R256 W vb (Nat.gcd n d)) => rdiv_any h1 h2 (by omega) (by omega) hg0)
  have HD2 := Lib.hid (fun W va vb (h1 : R256 W va d) (h2 : R256 W vb (Nat.gcd n d)) => rdiv_any h1 h2 (by omega) (by omega) hg0)
  obtain ⟨g, hg⟩ : ∃ g, Nat.gcd n d = g := ⟨_, rfl⟩
  rw [hg] at HG HD1 HD2 HRN HRD
  clear hn hd hg hgd hg0 h0
  obtain ⟨la, hla⟩ : ∃ k, (cs 8 n).length = k := ⟨_, rfl⟩
  rw [hla] at HA hl ⊢
  by_cases hz : la = 0
  · have hn0 : n = 0 := by have := (wl_eq_zero (k := 8) (by decide) (x := n)).1; omega
    have HN0 := Lib.hid hn0
    have hd1 : ((la : Int) == 0) = true := beq_iff_eq.2 (by omega)
    clear hn0 hl hz hla
    have e0 := Blk.new (w) 52 #[(.slice none 0 0), (.slice none 0 0)]
    have hb := cba (Below.refl _ w) (.cells #[(.slice none 0 0), (.slice none 0 0)] 52)
    have hsz : w.heap.size ≤ w.heap.size := Nat.le_refl _
    go_enter Try.func112, Try.ntmps112
    go_upto_region 1 with (fail)
    obtain ⟨S, hS⟩ : ∃ S, (w).alloc (.cells #[(.slice none 0 0), (.slice none 0 0)] 52) = S := ⟨_, rfl⟩
    rw [hS] at e0 hb ⊢
    replace HA := Lib.hid (HA.out.below hb)
    replace HB := Lib.hid (HB.out.below hb)
    have HB0 := Lib.hid hb
    have E0 := Lib.hid e0
    clear hS hb hsz e0
    have k_E0_0 := E0.out.cell 0
    have k_E0_1 := E0.out.cell 1
    go_wp2_with fail
    with_reducible refine (HG.out _ _ _ HA.out HB.out).mono ?_
    rintro e w2 ⟨u, rfl, hu, hb⟩
    clear k_E0_0 k_E0_1
    replace HA := Lib.hid (HA.out.below hb)
    replace HB := Lib.hid (HB.out.below hb)
    replace E0 := Lib.hid (blk_below E0.out hb)
    replace HB0 := Lib.hid (cbt HB0.out hb)
    have NG := Lib.hid hu
    clear hb hu
    have k_E0_0 := E0.out.cell 0
    have k_E0_1 := E0.out.cell 1
    have f0 := E0.out.frozen 0
    have f1 := E0.out.frozen 1
    have hlt := E0.out.lt
    have hne : w.heap.size ≠ w2.heap.size := by omega
    have g0 := (E0.out.alloc (.cells #[.int .i64 1] 3)).frozen 0
    have g1 := (E0.out.alloc (.cells #[.int .i64 1] 3)).frozen 1
    have c0 := (E0.out.alloc (.cells #[.int .i64 1] 3)).cell 0
    have c1 := (E0.out.alloc (.cells #[.int .i64 1] 3)).cell 1
    have b1 := (E0.out.set_ 0 (.slice none 0 0)).set_ 1 (.slice (some ⟨w2.heap.size, 0, none⟩) 1 1)
    have b2 := b1.alloc (.cells #[.int .i64 1] 3)
    have b3 := Blk.new ((w2.setCell ⟨w.heap.size, 0, none⟩ (.slice none 0 0)).setCell ⟨w.heap.size, 1, none⟩ (.slice (some ⟨w2.heap.size, 0, none⟩) 1 1)) 3 #[.int .i64 1]
    have hs : ((w2.setCell ⟨w.heap.size, 0, none⟩ (.slice none 0 0)).setCell ⟨w.heap.size, 1, none⟩ (.slice (some ⟨w2.heap.size, 0, none⟩) 1 1)).heap.size = w2.heap.size := by simp
    rw [hs] at b3
    have k0 := b2.cell 0
    have k1 := b2.cell 1
    have HX := Lib.hid (show MkR w (rn n d) (rd n d) (.returned (.agg #[.slice none 0 0, .slice (some ⟨w2.heap.size, 0, none⟩) 1 1])) (((w2.setCell ⟨w.heap.size, 0, none⟩ (.slice none 0 0)).setCell ⟨w.heap.size, 1, none⟩ (.slice (some ⟨w2.heap.size, 0, none⟩) 1 1)).alloc (.cells #[.int .i64 1] 3)) from by
      rw [HN0.out, rn_zero, HZ1.out]
      exact ⟨_, rfl, ⟨_, _, _, _, _, _, rfl, R256.zero _, R256.one b3⟩, ((HB0.out.setCell (p := ⟨w.heap.size, 0, none⟩) (Nat.le_refl _) _).setCell (p := ⟨w.heap.size, 1, none⟩) (Nat.le_refl _) _).alloc (by simpa using HB0.out.size) _⟩)
    clear b1 b2 b3 hs
    go_wp2_with fail
    exact bodyPost_ret (v := .agg #[.slice none 0 0, .slice (some ⟨w2.heap.size, 0, none⟩) 1 1]) (by simp [results, Try.results112, go_sem, hlt, k_E0_0, k_E0_1]) rfl HX.out
  · have hd1 : ((la : Int) == 0) = false := beq_eq_false_iff_ne.2 (by omega)
    clear HZ1 hl hz hla
    have e0 := Blk.new (w) 52 #[(.slice none 0 0), (.slice none 0 0)]
    have hb := cba (Below.refl _ w) (.cells #[(.slice none 0 0), (.slice none 0 0)] 52)
    have hsz : w.heap.size ≤ w.heap.size := Nat.le_refl _
    go_enter Try.func112, Try.ntmps112
    go_upto_region 1 with (fail)
    obtain ⟨S, hS⟩ : ∃ S, (w).alloc (.cells #[(.slice none 0 0), (.slice none 0 0)] 52) = S := ⟨_, rfl⟩
    rw [hS] at e0 hb ⊢
    replace HA := Lib.hid (HA.out.below hb)
    replace HB := Lib.hid (HB.out.below hb)
    have HB0 := Lib.hid hb
    have E0 := Lib.hid e0
    clear hS hb hsz e0
    have k_E0_0 := E0.out.cell 0
    have k_E0_1 := E0.out.cell 1
    go_wp2_with fail
    with_reducible refine (HG.out _ _ _ HA.out HB.out).mono ?_
    rintro e w2 ⟨u, rfl, hu, hb⟩
    clear k_E0_0 k_E0_1
    replace HA := Lib.hid (HA.out.below hb)
    replace HB := Lib.hid (HB.out.below hb)
    replace E0 := Lib.hid (blk_below E0.out hb)
    replace HB0 := Lib.hid (cbt HB0.out hb)
    have NG := Lib.hid hu
    clear hb hu
    have k_E0_0 := E0.out.cell 0
    have k_E0_1 := E0.out.cell 1
    go_wp2_with fail
    with_reducible refine (HD1.out _ _ _ HA.out NG.out).mono ?_
    rintro e w3 ⟨u, r, rfl, hq, hr, hb⟩
    clear k_E0_0 k_E0_1
    replace HA := Lib.hid (HA.out.below hb)
    replace HB := Lib.hid (HB.out.below hb)
    replace NG := Lib.hid (NG.out.below hb)
    replace E0 := Lib.hid (blk_below E0.out hb)
    replace HB0 := Lib.hid (cbt HB0.out hb)
    have NN := Lib.hid hq
    clear hb hq hr
    have k_E0_0 := E0.out.cell 0
    have k_E0_1 := E0.out.cell 1
    go_wp2_with fail
    with_reducible refine (HD2.out _ _ _ HB.out NG.out).mono ?_
    rintro e w4 ⟨u', r', rfl, hq, hr, hb⟩
    clear k_E0_0 k_E0_1
    replace HA := Lib.hid (HA.out.below hb)
    replace HB := Lib.hid (HB.out.below hb)
    replace NG := Lib.hid (NG.out.below hb)
    replace NN := Lib.hid (NN.out.below hb)
    replace E0 := Lib.hid (blk_below E0.out hb)
    replace HB0 := Lib.hid (cbt HB0.out hb)
    have ND := Lib.hid hq
    clear hb hq hr
    have k_E0_0 := E0.out.cell 0
    have k_E0_1 := E0.out.cell 1
    obtain ⟨A1, p1, c1, B1, q1, e1, rfl, rfl, hX⟩ := RF.of NN.out ND.out
    rw [HRN.out, HRD.out] at hX
    have HXX := Lib.hid hX
    clear hX
    have f0 := E0.out.frozen 0
    have f1 := E0.out.frozen 1
    have HX := Lib.hid (show MkR w (rn n d) (rd n d) (.returned (.agg #[.slice A1 p1 c1, .slice B1 q1 e1])) ((w4.setCell ⟨w.heap.size, 0, none⟩ (.slice A1 p1 c1)).setCell ⟨w.heap.size, 1, none⟩ (.slice B1 q1 e1)) from
      ⟨_, rfl, (HXX.out.keep (Keep.set E0.out 0 rfl _)).keep (Keep.set (E0.out.set_ 0 _) 1 rfl _), (HB0.out.setCell (p := ⟨w.heap.size, 0, none⟩) (Nat.le_refl _) _).setCell (p := ⟨w.heap.size, 1, none⟩) (Nat.le_refl _) _⟩)
    go_wp2
    exact bodyPost_ret (v := .agg #[.slice A1 p1 c1, .slice B1 q1 e1]) (by simp [results, Try.results112, go_sem, k_E0_0, k_E0_1]) rfl HX.out
set_option maxRecDepth 100000 in
set_option maxHeartbeats 4000000 in
theorem xmul_any (va vb : Value) (n d m e : Nat) (w : World) (ha : RF w va n d) (hb : RF w vb m e) (hn : wl 8 n ≤ 100000000) (hd : wl 8 d ≤ 100000000) (hm : wl 8 m ≤ 100000000) (he : wl 8 e ≤ 100000000) (hd0 : 0 < d) (he0 : 0 < e) : Calls Try.prog 77 #[va, vb] w (MkR w (rn (n * m) (d * e)) (rd (n * m) (d * e))) := by
  have Ha := Lib.hid ha
  obtain ⟨Pa, pa, ca, Qa, qa, ea, rfl, _, _⟩ := ha
  have Hb := Lib.hid hb
  obtain ⟨Pb, pb, cb, Qb, qb, eb, rfl, _, _⟩ := hb
  have hm1 := wl_mul_le (k := 8) (x := n) (y := m) (by decide) hn hm
  have HM1 := Lib.hid (fun W va vb (h1 : R256 W va (n)) (h2 : R256 W vb (m)) => rmul_any h1 h2 (by omega) (by omega))
  have hm2 := wl_mul_le (k := 8) (x := d) (y := e) (by decide) hd he
  have HM2 := Lib.hid (fun W va vb (h1 : R256 W va (d)) (h2 : R256 W vb (e)) => rmul_any h1 h2 (by omega) (by omega))
  have HMA := Lib.hid (fun va vb W h1 h2 => xof_any va vb (n * m) (d * e) W h1 h2 (by omega) (by omega) (Nat.mul_pos hd0 he0))
  clear hm1 hm2 hd0 he0
  clear hn hd hm he
  have e0 := ((Blk.new (w) 52 #[(.slice Pa pa ca), (.slice Qa qa ea)]).alloc (.cells #[(.slice Pb pb cb), (.slice Qb qb eb)] 52)).alloc (.cells #[(.slice none 0 0), (.slice none 0 0)] 52)
  have e1 := (Blk.new ((w).alloc (.cells #[(.slice Pa pa ca), (.slice Qa qa ea)] 52)) 52 #[(.slice Pb pb cb), (.slice Qb qb eb)]).alloc (.cells #[(.slice none 0 0), (.slice none 0 0)] 52)
  have e2 := Blk.new (((w).alloc (.cells #[(.slice Pa pa ca), (.slice Qa qa ea)] 52)).alloc (.cells #[(.slice Pb pb cb), (.slice Qb qb eb)] 52)) 52 #[(.slice none 0 0), (.slice none 0 0)]
  have hb := cba (cba (cba (Below.refl _ w) (.cells #[(.slice Pa pa ca), (.slice Qa qa ea)] 52)) (.cells #[(.slice Pb pb cb), (.slice Qb qb eb)] 52)) (.cells #[(.slice none 0 0), (.slice none 0 0)] 52)
  simp only [World.size_alloc] at e1 e2
  have hsz : w.heap.size ≤ w.heap.size := Nat.le_refl _
  go_enter Try.func77, Try.ntmps77
  go_upto_region 1 with (fail)
  obtain ⟨S, hS⟩ : ∃ S, (((w).alloc (.cells #[(.slice Pa pa ca), (.slice Qa qa ea)] 52)).alloc (.cells #[(.slice Pb pb cb), (.slice Qb qb eb)] 52)).alloc (.cells #[(.slice none 0 0), (.slice none 0 0)] 52) = S := ⟨_, rfl⟩
  rw [hS] at e0 e1 e2 hb ⊢
  replace Ha := Lib.hid (Ha.out.below hb)
  replace Hb := Lib.hid (Hb.out.below hb)
  have HB0 := Lib.hid hb
  have E0 := Lib.hid e0
  have E1 := Lib.hid e1
  have E2 := Lib.hid e2
  clear hS hb hsz e0 e1 e2
  have Ha0 := Lib.hid (RF.fst Ha.out)
  have Ha1 := Lib.hid (RF.snd Ha.out)
  have Hb0 := Lib.hid (RF.fst Hb.out)
  have Hb1 := Lib.hid (RF.snd Hb.out)
  go_wp2_with fail
  let FS : List Kept1 := [.eq (.pointer (some ⟨w.heap.size, 0, none⟩)), .r (n), .eq (.pointer (some ⟨w.heap.size + 1, 0, none⟩)), .r (m), .r (n * m), .eq (.pointer (some ⟨w.heap.size, 1, none⟩)), .r (d), .eq (.pointer (some ⟨w.heap.size + 1, 1, none⟩)), .r (e), .r (d * e), .rf (rn (n * m) (d * e)) (rd (n * m) (d * e)), .any]
  let BS : List Bx := [Bx.ref (.inr (w.heap.size + 1 + 1)) 11 #[(.slice none 0 0), (.slice none 0 0)] (rn (n * m) (d * e)) (rd (n * m) (d * e))]
  refine region_mono (Held S (fun j => FS.getD j .any) BS) (by kernel_rfl) (by kernel_rfl) (by kernel_rfl) (Held.start _ _ _ (by simp [BS, Bx.nat, Bx.rat, Bx.ref] <;> exact E2.out) (by simp [BS, Bx.nat, Bx.rat, Bx.ref])) ?_
  refine Steps.held ?_ ?_
  · intro L v w' hJ
    go_wp2_with fail
    exact ⟨rfl, rfl, hJ.out.same (by rfl) (rfl)⟩
  simp only [Act.put, List.setIfInBounds_toArray, List.set_cons_zero, List.set_cons_succ, Nat.reduceAdd]
  refine Steps.held ?_ ?_
  · intro L v w' hJ
    have hv0 : v 0 = .pointer (some ⟨w.heap.size, 0, none⟩) := hJ.out.fact 0 (by kernel_rfl)
    simp only [hv0]
    clear hv0
    have kb := hJ.out.blk E0.out (by simp [oldsOf, BS, Bx.nat, Bx.rat, Bx.ref] <;> omega)
    have k0 := kb.cell 0
    have k1 := kb.cell 1
    clear kb
    go_wp2_with fail
    exact ⟨rfl, rfl, hJ.out.same (by rfl) (Ha0.out.keep hJ.out.held.keep)⟩
  simp only [Act.put, List.setIfInBounds_toArray, List.set_cons_zero, List.set_cons_succ, Nat.reduceAdd]
  refine Steps.held ?_ ?_
  · intro L v w' hJ
    go_wp2_with fail
    exact ⟨rfl, rfl, hJ.out.same (by rfl) (rfl)⟩
  simp only [Act.put, List.setIfInBounds_toArray, List.set_cons_zero, List.set_cons_succ, Nat.reduceAdd]
  refine Steps.held ?_ ?_
  · intro L v w' hJ
    have hv2 : v 2 = .pointer (some ⟨w.heap.size + 1, 0, none⟩) := hJ.out.fact 2 (by kernel_rfl)
    simp only [hv2]
    clear hv2
    have kb := hJ.out.blk E1.out (by simp [oldsOf, BS, Bx.nat, Bx.rat, Bx.ref] <;> omega)
    have k0 := kb.cell 0
    have k1 := kb.cell 1
    clear kb
    go_wp2_with fail
    exact ⟨rfl, rfl, hJ.out.same (by rfl) (Hb0.out.keep hJ.out.held.keep)⟩
  simp only [Act.put, List.setIfInBounds_toArray, List.set_cons_zero, List.set_cons_succ, Nat.reduceAdd]
  refine Steps.held ?_ ?_
  · intro L v w' hJ
    have X0 := Lib.hid (show R256 w' (v 1) (n) from hJ.out.fact 1 (by kernel_rfl))
    have X1 := Lib.hid (show R256 w' (v 3) (m) from hJ.out.fact 3 (by kernel_rfl))
    go_wp2_with fail
    with_reducible refine (HM1.out _ _ _ X0.out X1.out).mono ?_
    rintro e w1 ⟨u, rfl, hu, hb⟩
    go_wp2_with fail
    exact ⟨rfl, rfl, hJ.out.call (by rfl) hb (hu)⟩
  simp only [Act.put, List.setIfInBounds_toArray, List.set_cons_zero, List.set_cons_succ, Nat.reduceAdd]
  refine Steps.held ?_ ?_
  · intro L v w' hJ
    go_wp2_with fail
    exact ⟨rfl, rfl, hJ.out.same (by rfl) (rfl)⟩
  simp only [Act.put, List.setIfInBounds_toArray, List.set_cons_zero, List.set_cons_succ, Nat.reduceAdd]
  refine Steps.held ?_ ?_
  · intro L v w' hJ
    have hv5 : v 5 = .pointer (some ⟨w.heap.size, 1, none⟩) := hJ.out.fact 5 (by kernel_rfl)
    simp only [hv5]
    clear hv5
    have kb := hJ.out.blk E0.out (by simp [oldsOf, BS, Bx.nat, Bx.rat, Bx.ref] <;> omega)
    have k0 := kb.cell 0
    have k1 := kb.cell 1
    clear kb
    go_wp2_with fail
    exact ⟨rfl, rfl, hJ.out.same (by rfl) (Ha1.out.keep hJ.out.held.keep)⟩
  simp only [Act.put, List.setIfInBounds_toArray, List.set_cons_zero, List.set_cons_succ, Nat.reduceAdd]
  refine Steps.held ?_ ?_
  · intro L v w' hJ
    go_wp2_with fail
    exact ⟨rfl, rfl, hJ.out.same (by rfl) (rfl)⟩
  simp only [Act.put, List.setIfInBounds_toArray, List.set_cons_zero, List.set_cons_succ, Nat.reduceAdd]
  refine Steps.held ?_ ?_
  · intro L v w' hJ
    have hv7 : v 7 = .pointer (some ⟨w.heap.size + 1, 1, none⟩) := hJ.out.fact 7 (by kernel_rfl)
    simp only [hv7]
    clear hv7
    have kb := hJ.out.blk E1.out (by simp [oldsOf, BS, Bx.nat, Bx.rat, Bx.ref] <;> omega)
    have k0 := kb.cell 0
    have k1 := kb.cell 1
    clear kb
    go_wp2_with fail
    exact ⟨rfl, rfl, hJ.out.same (by rfl) (Hb1.out.keep hJ.out.held.keep)⟩
  simp only [Act.put, List.setIfInBounds_toArray, List.set_cons_zero, List.set_cons_succ, Nat.reduceAdd]
  refine Steps.held ?_ ?_
  · intro L v w' hJ
    have X0 := Lib.hid (show R256 w' (v 6) (d) from hJ.out.fact 6 (by kernel_rfl))
    have X1 := Lib.hid (show R256 w' (v 8) (e) from hJ.out.fact 8 (by kernel_rfl))
    go_wp2_with fail
    with_reducible refine (HM2.out _ _ _ X0.out X1.out).mono ?_
    rintro e w1 ⟨u, rfl, hu, hb⟩
    go_wp2_with fail
    exact ⟨rfl, rfl, hJ.out.call (by rfl) hb (hu)⟩
  simp only [Act.put, List.setIfInBounds_toArray, List.set_cons_zero, List.set_cons_succ, Nat.reduceAdd]
  refine Steps.held ?_ ?_
  · intro L v w' hJ
    have X0 := Lib.hid (show R256 w' (v 4) (n * m) from hJ.out.fact 4 (by kernel_rfl))
    have X1 := Lib.hid (show R256 w' (v 9) (d * e) from hJ.out.fact 9 (by kernel_rfl))
    go_wp2_with fail
    with_reducible refine (HMA.out _ _ _ X0.out X1.out).mono ?_
    rintro e w1 ⟨u, rfl, hu, hb⟩
    go_wp2_with fail
    exact ⟨rfl, rfl, hJ.out.call (by rfl) hb (hu)⟩
  simp only [Act.put, List.setIfInBounds_toArray, List.set_cons_zero, List.set_cons_succ, Nat.reduceAdd]
  refine Steps.held ?_ ?_
  · intro L v w' hJ
    obtain ⟨hown, hst⟩ := hJ.out.oldbox 0 _ rfl (w.heap.size + 1 + 1) rfl
    have hN : RF w' (v 10) (rn (n * m) (d * e)) (rd (n * m) (d * e)) := hJ.out.fact 10 (by kernel_rfl)
    obtain ⟨A1, p1, c1, B1, q1, e1, hv, h1, h2⟩ := hN
    have HN := Lib.hid (show RF w' (.agg #[.slice A1 p1 c1, .slice B1 q1 e1]) (rn (n * m) (d * e)) (rd (n * m) (d * e)) from ⟨A1, p1, c1, B1, q1, e1, rfl, h1, h2⟩)
    have kb := hJ.out.box 0 _ rfl rfl (w.heap.size + 1 + 1) hown
    have k0 : w'.cell? ⟨(w.heap.size + 1 + 1), 0, none⟩ = some ((.slice none 0 0)) := kb.cell 0
    have k1 : w'.cell? ⟨(w.heap.size + 1 + 1), 1, none⟩ = some ((.slice none 0 0)) := kb.cell 1
    have f0 := kb.frozen 0
    have f1 := kb.frozen 1
    have HO := Lib.hid hown
    have HS := Lib.hid hst
    clear kb h1 h2 hown hst
    simp only [hv]
    clear hv
    go_wp2_with fail
    exact ⟨rfl, rfl, hJ.out.fill2 0 _ rfl rfl (by rfl) (w.heap.size + 1 + 1) HO.out HS.out _ _ rfl rfl rfl (fun W k => HN.out.keep k) (fun _ => trivial)⟩
  simp only [Act.put, List.setIfInBounds_toArray, List.set_cons_zero, List.set_cons_succ, Nat.reduceAdd]
  refine Steps.nil ?_
  intro v w' hJ
  obtain ⟨cs, hblk, hf⟩ := hJ.end_old 0 _ rfl (w.heap.size + 1 + 1) rfl (Nat.le_of_ble_eq_true rfl)
  have hf' : RF w' (.agg cs) (rn (n * m) (d * e)) (rd (n * m) (d * e)) := hf
  obtain ⟨A1, p1, c1, B1, q1, e1, hcs, h1, h2⟩ := hf'
  have hcs' := Value.agg.inj hcs
  subst hcs'
  have k0 := hblk.cell 0
  have k1 := hblk.cell 1
  have hbw : Below w.heap.size w w' := hJ.but.to_below HB0.out HB0.out.size (by intro g hg; simp [oldsOf, BS, Bx.nat, Bx.rat, Bx.ref] at hg; subst hg; omega)
  have HX := Lib.hid (show MkR w (rn (n * m) (d * e)) (rd (n * m) (d * e)) (.returned (.agg #[.slice A1 p1 c1, .slice B1 q1 e1])) w' from ⟨_, rfl, ⟨A1, p1, c1, B1, q1, e1, rfl, h1, h2⟩, hbw⟩)
  clear hJ h1 h2 hbw hblk hcs hf
  go_wp2_with fail
  exact bodyPost_ret (v := .agg #[.slice A1 p1 c1, .slice B1 q1 e1]) (by simp [results, Try.results77, go_sem, k0, k1]) rfl HX.out
set_option maxRecDepth 100000 in
set_option maxHeartbeats 4000000 in
theorem xadd_any (va vb : Value) (n d m e : Nat) (w : World) (ha : RF w va n d) (hb : RF w vb m e) (hn : wl 8 n ≤ 100000000) (hd : wl 8 d ≤ 100000000) (hm : wl 8 m ≤ 100000000) (he : wl 8 e ≤ 100000000) (hd0 : 0 < d) (he0 : 0 < e) : Calls Try.prog 68 #[va, vb] w (MkR w (rn (n * e + m * d) (d * e)) (rd (n * e + m * d) (d * e))) := by
  have Ha := Lib.hid ha
  obtain ⟨Pa, pa, ca, Qa, qa, ea, rfl, _, _⟩ := ha
  have Hb := Lib.hid hb
  obtain ⟨Pb, pb, cb, Qb, qb, eb, rfl, _, _⟩ := hb
  have hm1 := wl_mul_le (k := 8) (x := n) (y := e) (by decide) hn he
  have HM1 := Lib.hid (fun W va vb (h1 : R256 W va (n)) (h2 : R256 W vb (e)) => rmul_any h1 h2 (by omega) (by omega))
  have hm2 := wl_mul_le (k := 8) (x := m) (y := d) (by decide) hm hd
  have HM2 := Lib.hid (fun W va vb (h1 : R256 W va (m)) (h2 : R256 W vb (d)) => rmul_any h1 h2 (by omega) (by omega))
  have hm3 := wl_mul_le (k := 8) (x := d) (y := e) (by decide) hd he
  have HM3 := Lib.hid (fun W va vb (h1 : R256 W va (d)) (h2 : R256 W vb (e)) => rmul_any h1 h2 (by omega) (by omega))
  have hsm := wl_add_le (k := 8) (x := n * e) (y := m * d) (a := 200000000) (by decide) (by omega) (by omega)
  have HAD := Lib.hid (fun W va vb (h1 : R256 W va (n * e)) (h2 : R256 W vb (m * d)) => radd_any h1 h2 (by omega) (by omega))
  have HMA := Lib.hid (fun va vb W h1 h2 => xof_any va vb (n * e + m * d) (d * e) W h1 h2 (by omega) (by omega) (Nat.mul_pos hd0 he0))
  clear hm1 hm2 hm3 hsm hd0 he0
  clear hn hd hm he
  have e0 := ((Blk.new (w) 52 #[(.slice Pa pa ca), (.slice Qa qa ea)]).alloc (.cells #[(.slice Pb pb cb), (.slice Qb qb eb)] 52)).alloc (.cells #[(.slice none 0 0), (.slice none 0 0)] 52)
  have e1 := (Blk.new ((w).alloc (.cells #[(.slice Pa pa ca), (.slice Qa qa ea)] 52)) 52 #[(.slice Pb pb cb), (.slice Qb qb eb)]).alloc (.cells #[(.slice none 0 0), (.slice none 0 0)] 52)
  have e2 := Blk.new (((w).alloc (.cells #[(.slice Pa pa ca), (.slice Qa qa ea)] 52)).alloc (.cells #[(.slice Pb pb cb), (.slice Qb qb eb)] 52)) 52 #[(.slice none 0 0), (.slice none 0 0)]
  have hb := cba (cba (cba (Below.refl _ w) (.cells #[(.slice Pa pa ca), (.slice Qa qa ea)] 52)) (.cells #[(.slice Pb pb cb), (.slice Qb qb eb)] 52)) (.cells #[(.slice none 0 0), (.slice none 0 0)] 52)
  simp only [World.size_alloc] at e1 e2
  have hsz : w.heap.size ≤ w.heap.size := Nat.le_refl _
  go_enter Try.func68, Try.ntmps68
  go_upto_region 1 with (fail)
  obtain ⟨S, hS⟩ : ∃ S, (((w).alloc (.cells #[(.slice Pa pa ca), (.slice Qa qa ea)] 52)).alloc (.cells #[(.slice Pb pb cb), (.slice Qb qb eb)] 52)).alloc (.cells #[(.slice none 0 0), (.slice none 0 0)] 52) = S := ⟨_, rfl⟩
  rw [hS] at e0 e1 e2 hb ⊢
  replace Ha := Lib.hid (Ha.out.below hb)
  replace Hb := Lib.hid (Hb.out.below hb)
  have HB0 := Lib.hid hb
  have E0 := Lib.hid e0
  have E1 := Lib.hid e1
  have E2 := Lib.hid e2
  clear hS hb hsz e0 e1 e2
  have Ha0 := Lib.hid (RF.fst Ha.out)
  have Ha1 := Lib.hid (RF.snd Ha.out)
  have Hb0 := Lib.hid (RF.fst Hb.out)
  have Hb1 := Lib.hid (RF.snd Hb.out)
  go_wp2_with fail
  let FS : List Kept1 := [.eq (.pointer (some ⟨w.heap.size, 0, none⟩)), .r (n), .eq (.pointer (some ⟨w.heap.size + 1, 1, none⟩)), .r (e), .r (n * e), .eq (.pointer (some ⟨w.heap.size + 1, 0, none⟩)), .r (m), .eq (.pointer (some ⟨w.heap.size, 1, none⟩)), .r (d), .r (m * d), .r (n * e + m * d), .eq (.pointer (some ⟨w.heap.size, 1, none⟩)), .r (d), .eq (.pointer (some ⟨w.heap.size + 1, 1, none⟩)), .r (e), .r (d * e), .rf (rn (n * e + m * d) (d * e)) (rd (n * e + m * d) (d * e)), .any]
  let BS : List Bx := [Bx.ref (.inr (w.heap.size + 1 + 1)) 17 #[(.slice none 0 0), (.slice none 0 0)] (rn (n * e + m * d) (d * e)) (rd (n * e + m * d) (d * e))]
  refine region_mono (Held S (fun j => FS.getD j .any) BS) (by kernel_rfl) (by kernel_rfl) (by kernel_rfl) (Held.start _ _ _ (by simp [BS, Bx.nat, Bx.rat, Bx.ref] <;> exact E2.out) (by simp [BS, Bx.nat, Bx.rat, Bx.ref])) ?_
  refine Steps.held ?_ ?_
  · intro L v w' hJ
    go_wp2_with fail
    exact ⟨rfl, rfl, hJ.out.same (by rfl) (rfl)⟩
  simp only [Act.put, List.setIfInBounds_toArray, List.set_cons_zero, List.set_cons_succ, Nat.reduceAdd]
  refine Steps.held ?_ ?_
  · intro L v w' hJ
    have hv0 : v 0 = .pointer (some ⟨w.heap.size, 0, none⟩) := hJ.out.fact 0 (by kernel_rfl)
    simp only [hv0]
    clear hv0
    have kb := hJ.out.blk E0.out (by simp [oldsOf, BS, Bx.nat, Bx.rat, Bx.ref] <;> omega)
    have k0 := kb.cell 0
    have k1 := kb.cell 1
    clear kb
    go_wp2_with fail
    exact ⟨rfl, rfl, hJ.out.same (by rfl) (Ha0.out.keep hJ.out.held.keep)⟩
  simp only [Act.put, List.setIfInBounds_toArray, List.set_cons_zero, List.set_cons_succ, Nat.reduceAdd]
  refine Steps.held ?_ ?_
  · intro L v w' hJ
    go_wp2_with fail
    exact ⟨rfl, rfl, hJ.out.same (by rfl) (rfl)⟩
  simp only [Act.put, List.setIfInBounds_toArray, List.set_cons_zero, List.set_cons_succ, Nat.reduceAdd]
  refine Steps.held ?_ ?_
  · intro L v w' hJ
    have hv2 : v 2 = .pointer (some ⟨w.heap.size + 1, 1, none⟩) := hJ.out.fact 2 (by kernel_rfl)
    simp only [hv2]
    clear hv2
    have kb := hJ.out.blk E1.out (by simp [oldsOf, BS, Bx.nat, Bx.rat, Bx.ref] <;> omega)
    have k0 := kb.cell 0
    have k1 := kb.cell 1
    clear kb
    go_wp2_with fail
    exact ⟨rfl, rfl, hJ.out.same (by rfl) (Hb1.out.keep hJ.out.held.keep)⟩
  simp only [Act.put, List.setIfInBounds_toArray, List.set_cons_zero, List.set_cons_succ, Nat.reduceAdd]
  refine Steps.held ?_ ?_
  · intro L v w' hJ
    have X0 := Lib.hid (show R256 w' (v 1) (n) from hJ.out.fact 1 (by kernel_rfl))
    have X1 := Lib.hid (show R256 w' (v 3) (e) from hJ.out.fact 3 (by kernel_rfl))
    go_wp2_with fail
    with_reducible refine (HM1.out _ _ _ X0.out X1.out).mono ?_
    rintro e w1 ⟨u, rfl, hu, hb⟩
    go_wp2_with fail
    exact ⟨rfl, rfl, hJ.out.call (by rfl) hb (hu)⟩
  simp only [Act.put, List.setIfInBounds_toArray, List.set_cons_zero, List.set_cons_succ, Nat.reduceAdd]
  refine Steps.held ?_ ?_
  · intro L v w' hJ
    go_wp2_with fail
    exact ⟨rfl, rfl, hJ.out.same (by rfl) (rfl)⟩
  simp only [Act.put, List.setIfInBounds_toArray, List.set_cons_zero, List.set_cons_succ, Nat.reduceAdd]
  refine Steps.held ?_ ?_
  · intro L v w' hJ
    have hv5 : v 5 = .pointer (some ⟨w.heap.size + 1, 0, none⟩) := hJ.out.fact 5 (by kernel_rfl)
    simp only [hv5]
    clear hv5
    have kb := hJ.out.blk E1.out (by simp [oldsOf, BS, Bx.nat, Bx.rat, Bx.ref] <;> omega)
    have k0 := kb.cell 0
    have k1 := kb.cell 1
    clear kb
    go_wp2_with fail
    exact ⟨rfl, rfl, hJ.out.same (by rfl) (Hb0.out.keep hJ.out.held.keep)⟩
  simp only [Act.put, List.setIfInBounds_toArray, List.set_cons_zero, List.set_cons_succ, Nat.reduceAdd]
  refine Steps.held ?_ ?_
  · intro L v w' hJ
    go_wp2_with fail
    exact ⟨rfl, rfl, hJ.out.same (by rfl) (rfl)⟩
  simp only [Act.put, List.setIfInBounds_toArray, List.set_cons_zero, List.set_cons_succ, Nat.reduceAdd]
  refine Steps.held ?_ ?_
  · intro L v w' hJ
    have hv7 : v 7 = .pointer (some ⟨w.heap.size, 1, none⟩) := hJ.out.fact 7 (by kernel_rfl)
    simp only [hv7]
    clear hv7
    have kb := hJ.out.blk E0.out (by simp [oldsOf, BS, Bx.nat, Bx.rat, Bx.ref] <;> omega)
    have k0 := kb.cell 0
    have k1 := kb.cell 1
    clear kb
    go_wp2_with fail
    exact ⟨rfl, rfl, hJ.out.same (by rfl) (Ha1.out.keep hJ.out.held.keep)⟩
  simp only [Act.put, List.setIfInBounds_toArray, List.set_cons_zero, List.set_cons_succ, Nat.reduceAdd]
  refine Steps.held ?_ ?_
  · intro L v w' hJ
    have X0 := Lib.hid (show R256 w' (v 6) (m) from hJ.out.fact 6 (by kernel_rfl))
    have X1 := Lib.hid (show R256 w' (v 8) (d) from hJ.out.fact 8 (by kernel_rfl))
    go_wp2_with fail
    with_reducible refine (HM2.out _ _ _ X0.out X1.out).mono ?_
    rintro e w1 ⟨u, rfl, hu, hb⟩
    go_wp2_with fail
    exact ⟨rfl, rfl, hJ.out.call (by rfl) hb (hu)⟩
  simp only [Act.put, List.setIfInBounds_toArray, List.set_cons_zero, List.set_cons_succ, Nat.reduceAdd]
  refine Steps.held ?_ ?_
  · intro L v w' hJ
    have X0 := Lib.hid (show R256 w' (v 4) (n * e) from hJ.out.fact 4 (by kernel_rfl))
    have X1 := Lib.hid (show R256 w' (v 9) (m * d) from hJ.out.fact 9 (by kernel_rfl))
    go_wp2_with fail
    with_reducible refine (HAD.out _ _ _ X0.out X1.out).mono ?_
    rintro e w1 ⟨u, rfl, hu, hb⟩
    go_wp2_with fail
    exact ⟨rfl, rfl, hJ.out.call (by rfl) hb (hu)⟩
  simp only [Act.put, List.setIfInBounds_toArray, List.set_cons_zero, List.set_cons_succ, Nat.reduceAdd]
  refine Steps.held ?_ ?_
  · intro L v w' hJ
    go_wp2_with fail
    exact ⟨rfl, rfl, hJ.out.same (by rfl) (rfl)⟩
  simp only [Act.put, List.setIfInBounds_toArray, List.set_cons_zero, List.set_cons_succ, Nat.reduceAdd]
  refine Steps.held ?_ ?_
  · intro L v w' hJ
    have hv11 : v 11 = .pointer (some ⟨w.heap.size, 1, none⟩) := hJ.out.fact 11 (by kernel_rfl)
    simp only [hv11]
    clear hv11
    have kb := hJ.out.blk E0.out (by simp [oldsOf, BS, Bx.nat, Bx.rat, Bx.ref] <;> omega)
    have k0 := kb.cell 0
    have k1 := kb.cell 1
    clear kb
    go_wp2_with fail
    exact ⟨rfl, rfl, hJ.out.same (by rfl) (Ha1.out.keep hJ.out.held.keep)⟩
  simp only [Act.put, List.setIfInBounds_toArray, List.set_cons_zero, List.set_cons_succ, Nat.reduceAdd]
  refine Steps.held ?_ ?_
  · intro L v w' hJ
    go_wp2_with fail
    exact ⟨rfl, rfl, hJ.out.same (by rfl) (rfl)⟩
  simp only [Act.put, List.setIfInBounds_toArray, List.set_cons_zero, List.set_cons_succ, Nat.reduceAdd]
  refine Steps.held ?_ ?_
  · intro L v w' hJ
    have hv13 : v 13 = .pointer (some ⟨w.heap.size + 1, 1, none⟩) := hJ.out.fact 13 (by kernel_rfl)
    simp only [hv13]
    clear hv13
    have kb := hJ.out.blk E1.out (by simp [oldsOf, BS, Bx.nat, Bx.rat, Bx.ref] <;> omega)
    have k0 := kb.cell 0
    have k1 := kb.cell 1
    clear kb
    go_wp2_with fail
    exact ⟨rfl, rfl, hJ.out.same (by rfl) (Hb1.out.keep hJ.out.held.keep)⟩
  simp only [Act.put, List.setIfInBounds_toArray, List.set_cons_zero, List.set_cons_succ, Nat.reduceAdd]
  refine Steps.held ?_ ?_
  · intro L v w' hJ
    have X0 := Lib.hid (show R256 w' (v 12) (d) from hJ.out.fact 12 (by kernel_rfl))
    have X1 := Lib.hid (show R256 w' (v 14) (e) from hJ.out.fact 14 (by kernel_rfl))
    go_wp2_with fail
    with_reducible refine (HM3.out _ _ _ X0.out X1.out).mono ?_
    rintro e w1 ⟨u, rfl, hu, hb⟩
    go_wp2_with fail
    exact ⟨rfl, rfl, hJ.out.call (by rfl) hb (hu)⟩
  simp only [Act.put, List.setIfInBounds_toArray, List.set_cons_zero, List.set_cons_succ, Nat.reduceAdd]
  refine Steps.held ?_ ?_
  · intro L v w' hJ
    have X0 := Lib.hid (show R256 w' (v 10) (n * e + m * d) from hJ.out.fact 10 (by kernel_rfl))
    have X1 := Lib.hid (show R256 w' (v 15) (d * e) from hJ.out.fact 15 (by kernel_rfl))
    go_wp2_with fail
    with_reducible refine (HMA.out _ _ _ X0.out X1.out).mono ?_
    rintro e w1 ⟨u, rfl, hu, hb⟩
    go_wp2_with fail
    exact ⟨rfl, rfl, hJ.out.call (by rfl) hb (hu)⟩
  simp only [Act.put, List.setIfInBounds_toArray, List.set_cons_zero, List.set_cons_succ, Nat.reduceAdd]
  refine Steps.held ?_ ?_
  · intro L v w' hJ
    obtain ⟨hown, hst⟩ := hJ.out.oldbox 0 _ rfl (w.heap.size + 1 + 1) rfl
    have hN : RF w' (v 16) (rn (n * e + m * d) (d * e)) (rd (n * e + m * d) (d * e)) := hJ.out.fact 16 (by kernel_rfl)
    obtain ⟨A1, p1, c1, B1, q1, e1, hv, h1, h2⟩ := hN
    have HN := Lib.hid (show RF w' (.agg #[.slice A1 p1 c1, .slice B1 q1 e1]) (rn (n * e + m * d) (d * e)) (rd (n * e + m * d) (d * e)) from ⟨A1, p1, c1, B1, q1, e1, rfl, h1, h2⟩)
    have kb := hJ.out.box 0 _ rfl rfl (w.heap.size + 1 + 1) hown
    have k0 : w'.cell? ⟨(w.heap.size + 1 + 1), 0, none⟩ = some ((.slice none 0 0)) := kb.cell 0
    have k1 : w'.cell? ⟨(w.heap.size + 1 + 1), 1, none⟩ = some ((.slice none 0 0)) := kb.cell 1
    have f0 := kb.frozen 0
    have f1 := kb.frozen 1
    have HO := Lib.hid hown
    have HS := Lib.hid hst
    clear kb h1 h2 hown hst
    simp only [hv]
    clear hv
    go_wp2_with fail
    exact ⟨rfl, rfl, hJ.out.fill2 0 _ rfl rfl (by rfl) (w.heap.size + 1 + 1) HO.out HS.out _ _ rfl rfl rfl (fun W k => HN.out.keep k) (fun _ => trivial)⟩
  simp only [Act.put, List.setIfInBounds_toArray, List.set_cons_zero, List.set_cons_succ, Nat.reduceAdd]
  refine Steps.nil ?_
  intro v w' hJ
  obtain ⟨cs, hblk, hf⟩ := hJ.end_old 0 _ rfl (w.heap.size + 1 + 1) rfl (Nat.le_of_ble_eq_true rfl)
  have hf' : RF w' (.agg cs) (rn (n * e + m * d) (d * e)) (rd (n * e + m * d) (d * e)) := hf
  obtain ⟨A1, p1, c1, B1, q1, e1, hcs, h1, h2⟩ := hf'
  have hcs' := Value.agg.inj hcs
  subst hcs'
  have k0 := hblk.cell 0
  have k1 := hblk.cell 1
  have hbw : Below w.heap.size w w' := hJ.but.to_below HB0.out HB0.out.size (by intro g hg; simp [oldsOf, BS, Bx.nat, Bx.rat, Bx.ref] at hg; subst hg; omega)
  have HX := Lib.hid (show MkR w (rn (n * e + m * d) (d * e)) (rd (n * e + m * d) (d * e)) (.returned (.agg #[.slice A1 p1 c1, .slice B1 q1 e1])) w' from ⟨_, rfl, ⟨A1, p1, c1, B1, q1, e1, rfl, h1, h2⟩, hbw⟩)
  clear hJ h1 h2 hbw hblk hcs hf
  go_wp2_with fail
  exact bodyPost_ret (v := .agg #[.slice A1 p1 c1, .slice B1 q1 e1]) (by simp [results, Try.results68, go_sem, k0, k1]) rfl HX.out
set_option maxRecDepth 100000 in
set_option maxHeartbeats 4000000 in
theorem xcmp_any (va vb : Value) (n d m e : Nat) (w : World) (ha : RF w va n d) (hb : RF w vb m e) (hn : wl 8 n ≤ 100000000) (hd : wl 8 d ≤ 100000000) (hm : wl 8 m ≤ 100000000) (he : wl 8 e ≤ 100000000) : Calls Try.prog 76 #[va, vb] w fun x w' => x = .returned (.int .i64 (cmpN (n * e) (m * d))) ∧ Below w.heap.size w w' := by
  have Ha := Lib.hid ha
  obtain ⟨Pa, pa, ca, Qa, qa, ea, rfl, _, _⟩ := ha
  have Hb := Lib.hid hb
  obtain ⟨Pb, pb, cb, Qb, qb, eb, rfl, _, _⟩ := hb
  have hm1 := wl_mul_le (k := 8) (x := n) (y := e) (by decide) hn he
  have HM1 := Lib.hid (fun W va vb (h1 : R256 W va (n)) (h2 : R256 W vb (e)) => rmul_any h1 h2 (by omega) (by omega))
  have hm2 := wl_mul_le (k := 8) (x := m) (y := d) (by decide) hm hd
  have HM2 := Lib.hid (fun W va vb (h1 : R256 W va (m)) (h2 : R256 W vb (d)) => rmul_any h1 h2 (by omega) (by omega))
  have HCM := Lib.hid (fun W va vb (h1 : R256 W va (n * e)) (h2 : R256 W vb (m * d)) => rcmp_any h1 h2 (by omega))
  clear hn hd hm he hm1 hm2
  obtain ⟨cc, hcc⟩ : ∃ c, cmpN (n * e) (m * d) = c := ⟨_, rfl⟩
  rw [hcc] at HCM ⊢
  clear hcc
  have e0 := (Blk.new (w) 52 #[(.slice Pa pa ca), (.slice Qa qa ea)]).alloc (.cells #[(.slice Pb pb cb), (.slice Qb qb eb)] 52)
  have e1 := Blk.new ((w).alloc (.cells #[(.slice Pa pa ca), (.slice Qa qa ea)] 52)) 52 #[(.slice Pb pb cb), (.slice Qb qb eb)]
  have hb := cba (cba (Below.refl _ w) (.cells #[(.slice Pa pa ca), (.slice Qa qa ea)] 52)) (.cells #[(.slice Pb pb cb), (.slice Qb qb eb)] 52)
  simp only [World.size_alloc] at e1
  have hsz : w.heap.size ≤ w.heap.size := Nat.le_refl _
  go_enter Try.func76, Try.ntmps76
  go_upto_region 1 with (fail)
  obtain ⟨S, hS⟩ : ∃ S, ((w).alloc (.cells #[(.slice Pa pa ca), (.slice Qa qa ea)] 52)).alloc (.cells #[(.slice Pb pb cb), (.slice Qb qb eb)] 52) = S := ⟨_, rfl⟩
  rw [hS] at e0 e1 hb ⊢
  replace Ha := Lib.hid (Ha.out.below hb)
  replace Hb := Lib.hid (Hb.out.below hb)
  have HB0 := Lib.hid hb
  have E0 := Lib.hid e0
  have E1 := Lib.hid e1
  clear hS hb hsz e0 e1
  have Ha0 := Lib.hid (RF.fst Ha.out)
  have Ha1 := Lib.hid (RF.snd Ha.out)
  have Hb0 := Lib.hid (RF.fst Hb.out)
  have Hb1 := Lib.hid (RF.snd Hb.out)
  go_wp2_with fail
  let FS : List Kept1 := [.eq (.pointer (some ⟨w.heap.size, 0, none⟩)), .r (n), .eq (.pointer (some ⟨w.heap.size + 1, 1, none⟩)), .r (e), .r (n * e), .eq (.pointer (some ⟨w.heap.size + 1, 0, none⟩)), .r (m), .eq (.pointer (some ⟨w.heap.size, 1, none⟩)), .r (d), .r (m * d), .eq (.int .i64 cc), .eq (.int .i64 cc)]
  refine region_mono (Held S (fun j => FS.getD j .any) []) (by kernel_rfl) (by kernel_rfl) (by kernel_rfl) (Held.start _ _ _ (by simp) (by simp)) ?_
  refine Steps.held ?_ ?_
  · intro L v w' hJ
    go_wp2_with fail
    exact ⟨rfl, rfl, hJ.out.same (by rfl) (rfl)⟩
  simp only [Act.put, List.setIfInBounds_toArray, List.set_cons_zero, List.set_cons_succ, Nat.reduceAdd]
  refine Steps.held ?_ ?_
  · intro L v w' hJ
    have hv0 : v 0 = .pointer (some ⟨w.heap.size, 0, none⟩) := hJ.out.fact 0 (by kernel_rfl)
    simp only [hv0]
    clear hv0
    have kb := hJ.out.blk E0.out (by simp [oldsOf])
    have k0 := kb.cell 0
    have k1 := kb.cell 1
    clear kb
    go_wp2_with fail
    exact ⟨rfl, rfl, hJ.out.same (by rfl) (Ha0.out.keep hJ.out.held.keep)⟩
  simp only [Act.put, List.setIfInBounds_toArray, List.set_cons_zero, List.set_cons_succ, Nat.reduceAdd]
  refine Steps.held ?_ ?_
  · intro L v w' hJ
    go_wp2_with fail
    exact ⟨rfl, rfl, hJ.out.same (by rfl) (rfl)⟩
  simp only [Act.put, List.setIfInBounds_toArray, List.set_cons_zero, List.set_cons_succ, Nat.reduceAdd]
  refine Steps.held ?_ ?_
  · intro L v w' hJ
    have hv2 : v 2 = .pointer (some ⟨w.heap.size + 1, 1, none⟩) := hJ.out.fact 2 (by kernel_rfl)
    simp only [hv2]
    clear hv2
    have kb := hJ.out.blk E1.out (by simp [oldsOf])
    have k0 := kb.cell 0
    have k1 := kb.cell 1
    clear kb
    go_wp2_with fail
    exact ⟨rfl, rfl, hJ.out.same (by rfl) (Hb1.out.keep hJ.out.held.keep)⟩
  simp only [Act.put, List.setIfInBounds_toArray, List.set_cons_zero, List.set_cons_succ, Nat.reduceAdd]
  refine Steps.held ?_ ?_
  · intro L v w' hJ
    have X0 := Lib.hid (show R256 w' (v 1) (n) from hJ.out.fact 1 (by kernel_rfl))
    have X1 := Lib.hid (show R256 w' (v 3) (e) from hJ.out.fact 3 (by kernel_rfl))
    go_wp2_with fail
    with_reducible refine (HM1.out _ _ _ X0.out X1.out).mono ?_
    rintro e w1 ⟨u, rfl, hu, hb⟩
    go_wp2_with fail
    exact ⟨rfl, rfl, hJ.out.call (by rfl) hb (hu)⟩
  simp only [Act.put, List.setIfInBounds_toArray, List.set_cons_zero, List.set_cons_succ, Nat.reduceAdd]
  refine Steps.held ?_ ?_
  · intro L v w' hJ
    go_wp2_with fail
    exact ⟨rfl, rfl, hJ.out.same (by rfl) (rfl)⟩
  simp only [Act.put, List.setIfInBounds_toArray, List.set_cons_zero, List.set_cons_succ, Nat.reduceAdd]
  refine Steps.held ?_ ?_
  · intro L v w' hJ
    have hv5 : v 5 = .pointer (some ⟨w.heap.size + 1, 0, none⟩) := hJ.out.fact 5 (by kernel_rfl)
    simp only [hv5]
    clear hv5
    have kb := hJ.out.blk E1.out (by simp [oldsOf])
    have k0 := kb.cell 0
    have k1 := kb.cell 1
    clear kb
    go_wp2_with fail
    exact ⟨rfl, rfl, hJ.out.same (by rfl) (Hb0.out.keep hJ.out.held.keep)⟩
  simp only [Act.put, List.setIfInBounds_toArray, List.set_cons_zero, List.set_cons_succ, Nat.reduceAdd]
  refine Steps.held ?_ ?_
  · intro L v w' hJ
    go_wp2_with fail
    exact ⟨rfl, rfl, hJ.out.same (by rfl) (rfl)⟩
  simp only [Act.put, List.setIfInBounds_toArray, List.set_cons_zero, List.set_cons_succ, Nat.reduceAdd]
  refine Steps.held ?_ ?_
  · intro L v w' hJ
    have hv7 : v 7 = .pointer (some ⟨w.heap.size, 1, none⟩) := hJ.out.fact 7 (by kernel_rfl)
    simp only [hv7]
    clear hv7
    have kb := hJ.out.blk E0.out (by simp [oldsOf])
    have k0 := kb.cell 0
    have k1 := kb.cell 1
    clear kb
    go_wp2_with fail
    exact ⟨rfl, rfl, hJ.out.same (by rfl) (Ha1.out.keep hJ.out.held.keep)⟩
  simp only [Act.put, List.setIfInBounds_toArray, List.set_cons_zero, List.set_cons_succ, Nat.reduceAdd]
  refine Steps.held ?_ ?_
  · intro L v w' hJ
    have X0 := Lib.hid (show R256 w' (v 6) (m) from hJ.out.fact 6 (by kernel_rfl))
    have X1 := Lib.hid (show R256 w' (v 8) (d) from hJ.out.fact 8 (by kernel_rfl))
    go_wp2_with fail
    with_reducible refine (HM2.out _ _ _ X0.out X1.out).mono ?_
    rintro e w1 ⟨u, rfl, hu, hb⟩
    go_wp2_with fail
    exact ⟨rfl, rfl, hJ.out.call (by rfl) hb (hu)⟩
  simp only [Act.put, List.setIfInBounds_toArray, List.set_cons_zero, List.set_cons_succ, Nat.reduceAdd]
  refine Steps.held ?_ ?_
  · intro L v w' hJ
    have X0 := Lib.hid (show R256 w' (v 4) (n * e) from hJ.out.fact 4 (by kernel_rfl))
    have X1 := Lib.hid (show R256 w' (v 9) (m * d) from hJ.out.fact 9 (by kernel_rfl))
    go_wp2_with fail
    with_reducible refine (HCM.out _ _ _ X0.out X1.out).mono ?_
    rintro e w1 ⟨rfl, hd⟩
    have hb := hd.below
    go_wp2_with fail
    exact ⟨rfl, rfl, hJ.out.call (by rfl) hb (rfl)⟩
  simp only [Act.put, List.setIfInBounds_toArray, List.set_cons_zero, List.set_cons_succ, Nat.reduceAdd]
  refine Steps.held ?_ ?_
  · intro L v w' hJ
    have hv10 : v 10 = .int .i64 cc := hJ.out.fact 10 (by kernel_rfl)
    simp only [hv10]
    clear hv10
    go_wp2_with fail
    exact ⟨rfl, rfl, hJ.out.same (by rfl) (rfl)⟩
  simp only [Act.put, List.setIfInBounds_toArray, List.set_cons_zero, List.set_cons_succ, Nat.reduceAdd]
  refine Steps.nil ?_
  intro v w' hJ
  have h11 : v 11 = .int .i64 cc := hJ.end_fact 11 (by decide)
  have HF := Lib.hid (cbt HB0.out hJ.but.below)
  clear hJ
  simp only [h11]
  clear h11
  go_wp2_with fail
  go_ret
  exact ⟨rfl, HF.out⟩
set_option maxRecDepth 100000 in
set_option maxHeartbeats 4000000 in
theorem xint_any (k : Int) (x : Nat) (hx : IntKind.u64.wrap k = (x : Int)) (hx2 : x < 2 ^ 64) (w : World) : Calls Try.prog 70 #[.int .i64 k] w (MkR w x 1) := by
  have HS := Lib.hid (fun W => rsmall_any x W hx2)
  clear hx2
  have e0 := Blk.new (w) 52 #[(.slice none 0 0), (.slice none 0 0)]
  have hb := cba (Below.refl _ w) (.cells #[(.slice none 0 0), (.slice none 0 0)] 52)
  have hsz : w.heap.size ≤ w.heap.size := Nat.le_refl _
  go_enter Try.func70, Try.ntmps70
  go_upto_region 1 with (fail)
  obtain ⟨S, hS⟩ : ∃ S, (w).alloc (.cells #[(.slice none 0 0), (.slice none 0 0)] 52) = S := ⟨_, rfl⟩
  rw [hS] at e0 hb ⊢
  have HB0 := Lib.hid hb
  have E0 := Lib.hid e0
  clear hS hb hsz e0
  have k_E0_0 := E0.out.cell 0
  have k_E0_1 := E0.out.cell 1
  go_wp2_with fail
  with_reducible refine (HS.out _).mono ?_
  rintro e w1 ⟨u, rfl, hu, hb⟩
  clear k_E0_0 k_E0_1
  replace E0 := Lib.hid (blk_below E0.out hb)
  replace HB0 := Lib.hid (cbt HB0.out hb)
  have NX := Lib.hid hu
  clear hb hu
  have k_E0_0 := E0.out.cell 0
  have k_E0_1 := E0.out.cell 1
  have ZX := NX.out
  obtain ⟨A, c, rfl, _, _⟩ := ZX
  obtain ⟨nx, hnx⟩ : ∃ n, (cs 8 x).length = n := ⟨_, rfl⟩
  rw [hnx] at NX ⊢
  clear hnx
  have f0 := E0.out.frozen 0
  have f1 := E0.out.frozen 1
  have hlt := E0.out.lt
  have hne : w.heap.size ≠ w1.heap.size := by omega
  have b1 := (E0.out.set_ 0 (.slice A nx c)).set_ 1 (.slice (some ⟨w1.heap.size, 0, none⟩) 1 1)
  have b2 := b1.alloc (.cells #[.int .i64 1] 3)
  have b3 := Blk.new ((w1.setCell ⟨w.heap.size, 0, none⟩ (.slice A nx c)).setCell ⟨w.heap.size, 1, none⟩ (.slice (some ⟨w1.heap.size, 0, none⟩) 1 1)) 3 #[.int .i64 1]
  have hs : ((w1.setCell ⟨w.heap.size, 0, none⟩ (.slice A nx c)).setCell ⟨w.heap.size, 1, none⟩ (.slice (some ⟨w1.heap.size, 0, none⟩) 1 1)).heap.size = w1.heap.size := by simp
  rw [hs] at b3
  have k0 := b2.cell 0
  have k1 := b2.cell 1
  have HX := Lib.hid (show MkR w x 1 (.returned (.agg #[.slice A nx c, .slice (some ⟨w1.heap.size, 0, none⟩) 1 1])) (((w1.setCell ⟨w.heap.size, 0, none⟩ (.slice A nx c)).setCell ⟨w.heap.size, 1, none⟩ (.slice (some ⟨w1.heap.size, 0, none⟩) 1 1)).alloc (.cells #[.int .i64 1] 3)) from
    ⟨_, rfl, ⟨_, _, _, _, _, _, rfl, (((NX.out.keep (Keep.set E0.out 0 rfl _)).keep (Keep.set (E0.out.set_ 0 _) 1 rfl _)).below (cba (Below.refl _ _) _)), R256.one b3⟩, ((HB0.out.setCell (p := ⟨w.heap.size, 0, none⟩) (Nat.le_refl _) _).setCell (p := ⟨w.heap.size, 1, none⟩) (Nat.le_refl _) _).alloc (by simpa using HB0.out.size) _⟩)
  clear b1 b2 b3 hs
  go_wp2_with fail
  exact bodyPost_ret (v := .agg #[.slice A nx c, .slice (some ⟨w1.heap.size, 0, none⟩) 1 1]) (by simp [results, Try.results70, go_sem, hlt, k_E0_0, k_E0_1]) rfl HX.out
set_option maxRecDepth 100000 in
set_option maxHeartbeats 4000000 in
theorem xless_any (va vb : Value) (n d m e : Nat) (w : World) (ha : RF w va n d) (hb : RF w vb m e) (hn : wl 8 n ≤ 100000000) (hd : wl 8 d ≤ 100000000) (hm : wl 8 m ≤ 100000000) (he : wl 8 e ≤ 100000000) (hd0 : 0 < d) (he0 : 0 < e) (hle : m * d ≤ n * e) : Calls Try.prog 69 #[va, vb] w (MkR w (rn (n * e - m * d) (d * e)) (rd (n * e - m * d) (d * e))) := by
  have Ha := Lib.hid ha
  obtain ⟨Pa, pa, ca, Qa, qa, ea, rfl, _, _⟩ := ha
  have Hb := Lib.hid hb
  obtain ⟨Pb, pb, cb, Qb, qb, eb, rfl, _, _⟩ := hb
  have HCM := Lib.hid (fun va vb W h1 h2 => xcmp_any va vb n d m e W h1 h2 hn hd hm he)
  have hc0 : decide (cmpN (n * e) (m * d) < 0) = false := decide_eq_false (by have := cmpN_ge (x := n * e) (y := m * d) hle; omega)
  obtain ⟨cc, hcc⟩ : ∃ c, cmpN (n * e) (m * d) = c := ⟨_, rfl⟩
  rw [hcc] at HCM hc0
  have hm1 := wl_mul_le (k := 8) (x := n) (y := e) (by decide) hn he
  have HM1 := Lib.hid (fun W va vb (h1 : R256 W va (n)) (h2 : R256 W vb (e)) => rmul_any h1 h2 (by omega) (by omega))
  have hm2 := wl_mul_le (k := 8) (x := m) (y := d) (by decide) hm hd
  have HM2 := Lib.hid (fun W va vb (h1 : R256 W va (m)) (h2 : R256 W vb (d)) => rmul_any h1 h2 (by omega) (by omega))
  have hm3 := wl_mul_le (k := 8) (x := d) (y := e) (by decide) hd he
  have HM3 := Lib.hid (fun W va vb (h1 : R256 W va (d)) (h2 : R256 W vb (e)) => rmul_any h1 h2 (by omega) (by omega))
  have hsm := Nat.le_trans (wl_mono (k := 8) (by decide) (show n * e - m * d ≤ n * e from Nat.sub_le _ _)) hm1
  have HAD := Lib.hid (fun W va vb (h1 : R256 W va (n * e)) (h2 : R256 W vb (m * d)) => rsub_any h1 h2 (by omega) hle)
  have HMA := Lib.hid (fun va vb W h1 h2 => xof_any va vb (n * e - m * d) (d * e) W h1 h2 (by omega) (by omega) (Nat.mul_pos hd0 he0))
  clear hm1 hm2 hm3 hsm hle hcc
  clear hn hd hm he hd0 he0
  have e0 := ((Blk.new (w) 52 #[(.slice Pa pa ca), (.slice Qa qa ea)]).alloc (.cells #[(.slice Pb pb cb), (.slice Qb qb eb)] 52)).alloc (.cells #[(.slice none 0 0), (.slice none 0 0)] 52)
  have e1 := (Blk.new ((w).alloc (.cells #[(.slice Pa pa ca), (.slice Qa qa ea)] 52)) 52 #[(.slice Pb pb cb), (.slice Qb qb eb)]).alloc (.cells #[(.slice none 0 0), (.slice none 0 0)] 52)
  have e2 := Blk.new (((w).alloc (.cells #[(.slice Pa pa ca), (.slice Qa qa ea)] 52)).alloc (.cells #[(.slice Pb pb cb), (.slice Qb qb eb)] 52)) 52 #[(.slice none 0 0), (.slice none 0 0)]
  have hb := cba (cba (cba (Below.refl _ w) (.cells #[(.slice Pa pa ca), (.slice Qa qa ea)] 52)) (.cells #[(.slice Pb pb cb), (.slice Qb qb eb)] 52)) (.cells #[(.slice none 0 0), (.slice none 0 0)] 52)
  simp only [World.size_alloc] at e1 e2
  have hsz : w.heap.size ≤ w.heap.size := Nat.le_refl _
  go_enter Try.func69, Try.ntmps69
  go_upto_region 1 with (fail)
  obtain ⟨S, hS⟩ : ∃ S, (((w).alloc (.cells #[(.slice Pa pa ca), (.slice Qa qa ea)] 52)).alloc (.cells #[(.slice Pb pb cb), (.slice Qb qb eb)] 52)).alloc (.cells #[(.slice none 0 0), (.slice none 0 0)] 52) = S := ⟨_, rfl⟩
  rw [hS] at e0 e1 e2 hb ⊢
  replace Ha := Lib.hid (Ha.out.below hb)
  replace Hb := Lib.hid (Hb.out.below hb)
  have HB0 := Lib.hid hb
  have E0 := Lib.hid e0
  have E1 := Lib.hid e1
  have E2 := Lib.hid e2
  clear hS hb hsz e0 e1 e2
  have k_E0_0 := E0.out.cell 0
  have k_E0_1 := E0.out.cell 1
  have k_E1_0 := E1.out.cell 0
  have k_E1_1 := E1.out.cell 1
  have k_E2_0 := E2.out.cell 0
  have k_E2_1 := E2.out.cell 1
  go_wp2_with fail
  with_reducible refine (HCM.out _ _ _ Ha.out Hb.out).mono ?_
  rintro e w1 ⟨rfl, hb⟩
  clear k_E0_0 k_E0_1 k_E1_0 k_E1_1 k_E2_0 k_E2_1
  replace Ha := Lib.hid (Ha.out.below hb)
  replace Hb := Lib.hid (Hb.out.below hb)
  replace E0 := Lib.hid (blk_below E0.out hb)
  replace E1 := Lib.hid (blk_below E1.out hb)
  replace E2 := Lib.hid (blk_below E2.out hb)
  replace HB0 := Lib.hid (cbt HB0.out hb)
  clear hb
  have k_E0_0 := E0.out.cell 0
  have k_E0_1 := E0.out.cell 1
  have k_E1_0 := E1.out.cell 0
  have k_E1_1 := E1.out.cell 1
  have k_E2_0 := E2.out.cell 0
  have k_E2_1 := E2.out.cell 1
  have Ha0 := Lib.hid (RF.fst Ha.out)
  have Ha1 := Lib.hid (RF.snd Ha.out)
  have Hb0 := Lib.hid (RF.fst Hb.out)
  have Hb1 := Lib.hid (RF.snd Hb.out)
  go_wp2_with fail
  clear k_E0_0 k_E0_1 k_E1_0 k_E1_1 k_E2_0 k_E2_1
  let FS : List Kept1 := [.eq (.pointer (some ⟨w.heap.size, 0, none⟩)), .r (n), .eq (.pointer (some ⟨w.heap.size + 1, 1, none⟩)), .r (e), .r (n * e), .eq (.pointer (some ⟨w.heap.size + 1, 0, none⟩)), .r (m), .eq (.pointer (some ⟨w.heap.size, 1, none⟩)), .r (d), .r (m * d), .r (n * e - m * d), .eq (.pointer (some ⟨w.heap.size, 1, none⟩)), .r (d), .eq (.pointer (some ⟨w.heap.size + 1, 1, none⟩)), .r (e), .r (d * e), .rf (rn (n * e - m * d) (d * e)) (rd (n * e - m * d) (d * e)), .any]
  let BS : List Bx := [Bx.ref (.inr (w.heap.size + 1 + 1)) 17 #[(.slice none 0 0), (.slice none 0 0)] (rn (n * e - m * d) (d * e)) (rd (n * e - m * d) (d * e))]
  refine region_mono (Held w1 (fun j => FS.getD j .any) BS) (by kernel_rfl) (by kernel_rfl) (by kernel_rfl) (Held.start _ _ _ (by simp [BS, Bx.nat, Bx.rat, Bx.ref] <;> exact E2.out) (by simp [BS, Bx.nat, Bx.rat, Bx.ref])) ?_
  refine Steps.held ?_ ?_
  · intro L v w' hJ
    go_wp2_with fail
    exact ⟨rfl, rfl, hJ.out.same (by rfl) (rfl)⟩
  simp only [Act.put, List.setIfInBounds_toArray, List.set_cons_zero, List.set_cons_succ, Nat.reduceAdd]
  refine Steps.held ?_ ?_
  · intro L v w' hJ
    have hv0 : v 0 = .pointer (some ⟨w.heap.size, 0, none⟩) := hJ.out.fact 0 (by kernel_rfl)
    simp only [hv0]
    clear hv0
    have kb := hJ.out.blk E0.out (by simp [oldsOf, BS, Bx.nat, Bx.rat, Bx.ref] <;> omega)
    have k0 := kb.cell 0
    have k1 := kb.cell 1
    clear kb
    go_wp2_with fail
    exact ⟨rfl, rfl, hJ.out.same (by rfl) (Ha0.out.keep hJ.out.held.keep)⟩
  simp only [Act.put, List.setIfInBounds_toArray, List.set_cons_zero, List.set_cons_succ, Nat.reduceAdd]
  refine Steps.held ?_ ?_
  · intro L v w' hJ
    go_wp2_with fail
    exact ⟨rfl, rfl, hJ.out.same (by rfl) (rfl)⟩
  simp only [Act.put, List.setIfInBounds_toArray, List.set_cons_zero, List.set_cons_succ, Nat.reduceAdd]
  refine Steps.held ?_ ?_
  · intro L v w' hJ
    have hv2 : v 2 = .pointer (some ⟨w.heap.size + 1, 1, none⟩) := hJ.out.fact 2 (by kernel_rfl)
    simp only [hv2]
    clear hv2
    have kb := hJ.out.blk E1.out (by simp [oldsOf, BS, Bx.nat, Bx.rat, Bx.ref] <;> omega)
    have k0 := kb.cell 0
    have k1 := kb.cell 1
    clear kb
    go_wp2_with fail
    exact ⟨rfl, rfl, hJ.out.same (by rfl) (Hb1.out.keep hJ.out.held.keep)⟩
  simp only [Act.put, List.setIfInBounds_toArray, List.set_cons_zero, List.set_cons_succ, Nat.reduceAdd]
  refine Steps.held ?_ ?_
  · intro L v w' hJ
    have X0 := Lib.hid (show R256 w' (v 1) (n) from hJ.out.fact 1 (by kernel_rfl))
    have X1 := Lib.hid (show R256 w' (v 3) (e) from hJ.out.fact 3 (by kernel_rfl))
    go_wp2_with fail
    with_reducible refine (HM1.out _ _ _ X0.out X1.out).mono ?_
    rintro e w1 ⟨u, rfl, hu, hb⟩
    go_wp2_with fail
    exact ⟨rfl, rfl, hJ.out.call (by rfl) hb (hu)⟩
  simp only [Act.put, List.setIfInBounds_toArray, List.set_cons_zero, List.set_cons_succ, Nat.reduceAdd]
  refine Steps.held ?_ ?_
  · intro L v w' hJ
    go_wp2_with fail
    exact ⟨rfl, rfl, hJ.out.same (by rfl) (rfl)⟩
  simp only [Act.put, List.setIfInBounds_toArray, List.set_cons_zero, List.set_cons_succ, Nat.reduceAdd]
  refine Steps.held ?_ ?_
  · intro L v w' hJ
    have hv5 : v 5 = .pointer (some ⟨w.heap.size + 1, 0, none⟩) := hJ.out.fact 5 (by kernel_rfl)
    simp only [hv5]
    clear hv5
    have kb := hJ.out.blk E1.out (by simp [oldsOf, BS, Bx.nat, Bx.rat, Bx.ref] <;> omega)
    have k0 := kb.cell 0
    have k1 := kb.cell 1
    clear kb
    go_wp2_with fail
    exact ⟨rfl, rfl, hJ.out.same (by rfl) (Hb0.out.keep hJ.out.held.keep)⟩
  simp only [Act.put, List.setIfInBounds_toArray, List.set_cons_zero, List.set_cons_succ, Nat.reduceAdd]
  refine Steps.held ?_ ?_
  · intro L v w' hJ
    go_wp2_with fail
    exact ⟨rfl, rfl, hJ.out.same (by rfl) (rfl)⟩
  simp only [Act.put, List.setIfInBounds_toArray, List.set_cons_zero, List.set_cons_succ, Nat.reduceAdd]
  refine Steps.held ?_ ?_
  · intro L v w' hJ
    have hv7 : v 7 = .pointer (some ⟨w.heap.size, 1, none⟩) := hJ.out.fact 7 (by kernel_rfl)
    simp only [hv7]
    clear hv7
    have kb := hJ.out.blk E0.out (by simp [oldsOf, BS, Bx.nat, Bx.rat, Bx.ref] <;> omega)
    have k0 := kb.cell 0
    have k1 := kb.cell 1
    clear kb
    go_wp2_with fail
    exact ⟨rfl, rfl, hJ.out.same (by rfl) (Ha1.out.keep hJ.out.held.keep)⟩
  simp only [Act.put, List.setIfInBounds_toArray, List.set_cons_zero, List.set_cons_succ, Nat.reduceAdd]
  refine Steps.held ?_ ?_
  · intro L v w' hJ
    have X0 := Lib.hid (show R256 w' (v 6) (m) from hJ.out.fact 6 (by kernel_rfl))
    have X1 := Lib.hid (show R256 w' (v 8) (d) from hJ.out.fact 8 (by kernel_rfl))
    go_wp2_with fail
    with_reducible refine (HM2.out _ _ _ X0.out X1.out).mono ?_
    rintro e w1 ⟨u, rfl, hu, hb⟩
    go_wp2_with fail
    exact ⟨rfl, rfl, hJ.out.call (by rfl) hb (hu)⟩
  simp only [Act.put, List.setIfInBounds_toArray, List.set_cons_zero, List.set_cons_succ, Nat.reduceAdd]
  refine Steps.held ?_ ?_
  · intro L v w' hJ
    have X0 := Lib.hid (show R256 w' (v 4) (n * e) from hJ.out.fact 4 (by kernel_rfl))
    have X1 := Lib.hid (show R256 w' (v 9) (m * d) from hJ.out.fact 9 (by kernel_rfl))
    go_wp2_with fail
    with_reducible refine (HAD.out _ _ _ X0.out X1.out).mono ?_
    rintro e w1 ⟨u, rfl, hu, hb⟩
    go_wp2_with fail
    exact ⟨rfl, rfl, hJ.out.call (by rfl) hb (hu)⟩
  simp only [Act.put, List.setIfInBounds_toArray, List.set_cons_zero, List.set_cons_succ, Nat.reduceAdd]
  refine Steps.held ?_ ?_
  · intro L v w' hJ
    go_wp2_with fail
    exact ⟨rfl, rfl, hJ.out.same (by rfl) (rfl)⟩
  simp only [Act.put, List.setIfInBounds_toArray, List.set_cons_zero, List.set_cons_succ, Nat.reduceAdd]
  refine Steps.held ?_ ?_
  · intro L v w' hJ
    have hv11 : v 11 = .pointer (some ⟨w.heap.size, 1, none⟩) := hJ.out.fact 11 (by kernel_rfl)
    simp only [hv11]
    clear hv11
    have kb := hJ.out.blk E0.out (by simp [oldsOf, BS, Bx.nat, Bx.rat, Bx.ref] <;> omega)
    have k0 := kb.cell 0
    have k1 := kb.cell 1
    clear kb
    go_wp2_with fail
    exact ⟨rfl, rfl, hJ.out.same (by rfl) (Ha1.out.keep hJ.out.held.keep)⟩
  simp only [Act.put, List.setIfInBounds_toArray, List.set_cons_zero, List.set_cons_succ, Nat.reduceAdd]
  refine Steps.held ?_ ?_
  · intro L v w' hJ
    go_wp2_with fail
    exact ⟨rfl, rfl, hJ.out.same (by rfl) (rfl)⟩
  simp only [Act.put, List.setIfInBounds_toArray, List.set_cons_zero, List.set_cons_succ, Nat.reduceAdd]
  refine Steps.held ?_ ?_
  · intro L v w' hJ
    have hv13 : v 13 = .pointer (some ⟨w.heap.size + 1, 1, none⟩) := hJ.out.fact 13 (by kernel_rfl)
    simp only [hv13]
    clear hv13
    have kb := hJ.out.blk E1.out (by simp [oldsOf, BS, Bx.nat, Bx.rat, Bx.ref] <;> omega)
    have k0 := kb.cell 0
    have k1 := kb.cell 1
    clear kb
    go_wp2_with fail
    exact ⟨rfl, rfl, hJ.out.same (by rfl) (Hb1.out.keep hJ.out.held.keep)⟩
  simp only [Act.put, List.setIfInBounds_toArray, List.set_cons_zero, List.set_cons_succ, Nat.reduceAdd]
  refine Steps.held ?_ ?_
  · intro L v w' hJ
    have X0 := Lib.hid (show R256 w' (v 12) (d) from hJ.out.fact 12 (by kernel_rfl))
    have X1 := Lib.hid (show R256 w' (v 14) (e) from hJ.out.fact 14 (by kernel_rfl))
    go_wp2_with fail
    with_reducible refine (HM3.out _ _ _ X0.out X1.out).mono ?_
    rintro e w1 ⟨u, rfl, hu, hb⟩
    go_wp2_with fail
    exact ⟨rfl, rfl, hJ.out.call (by rfl) hb (hu)⟩
  simp only [Act.put, List.setIfInBounds_toArray, List.set_cons_zero, List.set_cons_succ, Nat.reduceAdd]
  refine Steps.held ?_ ?_
  · intro L v w' hJ
    have X0 := Lib.hid (show R256 w' (v 10) (n * e - m * d) from hJ.out.fact 10 (by kernel_rfl))
    have X1 := Lib.hid (show R256 w' (v 15) (d * e) from hJ.out.fact 15 (by kernel_rfl))
    go_wp2_with fail
    with_reducible refine (HMA.out _ _ _ X0.out X1.out).mono ?_
    rintro e w1 ⟨u, rfl, hu, hb⟩
    go_wp2_with fail
    exact ⟨rfl, rfl, hJ.out.call (by rfl) hb (hu)⟩
  simp only [Act.put, List.setIfInBounds_toArray, List.set_cons_zero, List.set_cons_succ, Nat.reduceAdd]
  refine Steps.held ?_ ?_
  · intro L v w' hJ
    obtain ⟨hown, hst⟩ := hJ.out.oldbox 0 _ rfl (w.heap.size + 1 + 1) rfl
    have hN : RF w' (v 16) (rn (n * e - m * d) (d * e)) (rd (n * e - m * d) (d * e)) := hJ.out.fact 16 (by kernel_rfl)
    obtain ⟨A1, p1, c1, B1, q1, e1, hv, h1, h2⟩ := hN
    have HN := Lib.hid (show RF w' (.agg #[.slice A1 p1 c1, .slice B1 q1 e1]) (rn (n * e - m * d) (d * e)) (rd (n * e - m * d) (d * e)) from ⟨A1, p1, c1, B1, q1, e1, rfl, h1, h2⟩)
    have kb := hJ.out.box 0 _ rfl rfl (w.heap.size + 1 + 1) hown
    have k0 : w'.cell? ⟨(w.heap.size + 1 + 1), 0, none⟩ = some ((.slice none 0 0)) := kb.cell 0
    have k1 : w'.cell? ⟨(w.heap.size + 1 + 1), 1, none⟩ = some ((.slice none 0 0)) := kb.cell 1
    have f0 := kb.frozen 0
    have f1 := kb.frozen 1
    have HO := Lib.hid hown
    have HS := Lib.hid hst
    clear kb h1 h2 hown hst
    simp only [hv]
    clear hv
    go_wp2_with fail
    exact ⟨rfl, rfl, hJ.out.fill2 0 _ rfl rfl (by rfl) (w.heap.size + 1 + 1) HO.out HS.out _ _ rfl rfl rfl (fun W k => HN.out.keep k) (fun _ => trivial)⟩
  simp only [Act.put, List.setIfInBounds_toArray, List.set_cons_zero, List.set_cons_succ, Nat.reduceAdd]
  refine Steps.nil ?_
  intro v w' hJ
  obtain ⟨cs, hblk, hf⟩ := hJ.end_old 0 _ rfl (w.heap.size + 1 + 1) rfl (Nat.le_of_ble_eq_true rfl)
  have hf' : RF w' (.agg cs) (rn (n * e - m * d) (d * e)) (rd (n * e - m * d) (d * e)) := hf
  obtain ⟨A1, p1, c1, B1, q1, e1, hcs, h1, h2⟩ := hf'
  have hcs' := Value.agg.inj hcs
  subst hcs'
  have k0 := hblk.cell 0
  have k1 := hblk.cell 1
  have hbw : Below w.heap.size w w' := hJ.but.to_below HB0.out HB0.out.size (by intro g hg; simp [oldsOf, BS, Bx.nat, Bx.rat, Bx.ref] at hg; subst hg; omega)
  have HX := Lib.hid (show MkR w (rn (n * e - m * d) (d * e)) (rd (n * e - m * d) (d * e)) (.returned (.agg #[.slice A1 p1 c1, .slice B1 q1 e1])) w' from ⟨_, rfl, ⟨A1, p1, c1, B1, q1, e1, rfl, h1, h2⟩, hbw⟩)
  clear hJ h1 h2 hbw hblk hcs hf
  go_wp2_with fail
  exact bodyPost_ret (v := .agg #[.slice A1 p1 c1, .slice B1 q1 e1]) (by simp [results, Try.results69, go_sem, k0, k1]) rfl HX.out
set_option maxRecDepth 100000 in
set_option maxHeartbeats 4000000 in
theorem xless_no (va vb : Value) (n d m e : Nat) (w : World) (ha : RF w va n d) (hb : RF w vb m e) (hn : wl 8 n ≤ 100000000) (hd : wl 8 d ≤ 100000000) (hm : wl 8 m ≤ 100000000) (he : wl 8 e ≤ 100000000) (hd0 : 0 < d) (he0 : 0 < e) (hle : n * e < m * d) : Calls Try.prog 69 #[va, vb] w (MkR w 0 1) := by
  have Ha := Lib.hid ha
  obtain ⟨Pa, pa, ca, Qa, qa, ea, rfl, _, _⟩ := ha
  have Hb := Lib.hid hb
  obtain ⟨Pb, pb, cb, Qb, qb, eb, rfl, _, _⟩ := hb
  have HCM := Lib.hid (fun va vb W h1 h2 => xcmp_any va vb n d m e W h1 h2 hn hd hm he)
  rw [cmpN_lt hle] at HCM
  have HIN : Hid (∀ W, Calls Try.prog 70 #[.int .i64 0] W (MkR W 0 1)) := Lib.hid (fun W => xint_any 0 0 (by decide) (by decide) W)
  clear hle
  clear hn hd hm he hd0 he0
  have e0 := ((Blk.new (w) 52 #[(.slice Pa pa ca), (.slice Qa qa ea)]).alloc (.cells #[(.slice Pb pb cb), (.slice Qb qb eb)] 52)).alloc (.cells #[(.slice none 0 0), (.slice none 0 0)] 52)
  have e1 := (Blk.new ((w).alloc (.cells #[(.slice Pa pa ca), (.slice Qa qa ea)] 52)) 52 #[(.slice Pb pb cb), (.slice Qb qb eb)]).alloc (.cells #[(.slice none 0 0), (.slice none 0 0)] 52)
  have e2 := Blk.new (((w).alloc (.cells #[(.slice Pa pa ca), (.slice Qa qa ea)] 52)).alloc (.cells #[(.slice Pb pb cb), (.slice Qb qb eb)] 52)) 52 #[(.slice none 0 0), (.slice none 0 0)]
  have hb := cba (cba (cba (Below.refl _ w) (.cells #[(.slice Pa pa ca), (.slice Qa qa ea)] 52)) (.cells #[(.slice Pb pb cb), (.slice Qb qb eb)] 52)) (.cells #[(.slice none 0 0), (.slice none 0 0)] 52)
  simp only [World.size_alloc] at e1 e2
  have hsz : w.heap.size ≤ w.heap.size := Nat.le_refl _
  go_enter Try.func69, Try.ntmps69
  go_upto_region 1 with (fail)
  obtain ⟨S, hS⟩ : ∃ S, (((w).alloc (.cells #[(.slice Pa pa ca), (.slice Qa qa ea)] 52)).alloc (.cells #[(.slice Pb pb cb), (.slice Qb qb eb)] 52)).alloc (.cells #[(.slice none 0 0), (.slice none 0 0)] 52) = S := ⟨_, rfl⟩
  rw [hS] at e0 e1 e2 hb ⊢
  replace Ha := Lib.hid (Ha.out.below hb)
  replace Hb := Lib.hid (Hb.out.below hb)
  have HB0 := Lib.hid hb
  have E0 := Lib.hid e0
  have E1 := Lib.hid e1
  have E2 := Lib.hid e2
  clear hS hb hsz e0 e1 e2
  have k_E0_0 := E0.out.cell 0
  have k_E0_1 := E0.out.cell 1
  have k_E1_0 := E1.out.cell 0
  have k_E1_1 := E1.out.cell 1
  have k_E2_0 := E2.out.cell 0
  have k_E2_1 := E2.out.cell 1
  go_wp2_with fail
  with_reducible refine (HCM.out _ _ _ Ha.out Hb.out).mono ?_
  rintro e w1 ⟨rfl, hb⟩
  clear k_E0_0 k_E0_1 k_E1_0 k_E1_1 k_E2_0 k_E2_1
  replace Ha := Lib.hid (Ha.out.below hb)
  replace Hb := Lib.hid (Hb.out.below hb)
  replace E0 := Lib.hid (blk_below E0.out hb)
  replace E1 := Lib.hid (blk_below E1.out hb)
  replace E2 := Lib.hid (blk_below E2.out hb)
  replace HB0 := Lib.hid (cbt HB0.out hb)
  clear hb
  have k_E0_0 := E0.out.cell 0
  have k_E0_1 := E0.out.cell 1
  have k_E1_0 := E1.out.cell 0
  have k_E1_1 := E1.out.cell 1
  have k_E2_0 := E2.out.cell 0
  have k_E2_1 := E2.out.cell 1
  go_wp2_with fail
  with_reducible refine (HIN.out _).mono ?_
  rintro e w2 ⟨u, rfl, hu, hb⟩
  clear k_E0_0 k_E0_1 k_E1_0 k_E1_1 k_E2_0 k_E2_1
  replace Ha := Lib.hid (Ha.out.below hb)
  replace Hb := Lib.hid (Hb.out.below hb)
  replace E0 := Lib.hid (blk_below E0.out hb)
  replace E1 := Lib.hid (blk_below E1.out hb)
  replace E2 := Lib.hid (blk_below E2.out hb)
  replace HB0 := Lib.hid (cbt HB0.out hb)
  have NR := Lib.hid hu
  clear hb hu
  have k_E0_0 := E0.out.cell 0
  have k_E0_1 := E0.out.cell 1
  have k_E1_0 := E1.out.cell 0
  have k_E1_1 := E1.out.cell 1
  have k_E2_0 := E2.out.cell 0
  have k_E2_1 := E2.out.cell 1
  have ZR := NR.out
  obtain ⟨A1, p1, c1, B1, q1, e1, rfl, _, _⟩ := ZR
  have f0 := E2.out.frozen 0
  have f1 := E2.out.frozen 1
  have HX := Lib.hid (show MkR w 0 1 (.returned (.agg #[.slice A1 p1 c1, .slice B1 q1 e1])) ((w2.setCell ⟨w.heap.size + 1 + 1, 0, none⟩ (.slice A1 p1 c1)).setCell ⟨w.heap.size + 1 + 1, 1, none⟩ (.slice B1 q1 e1)) from
    ⟨_, rfl, (NR.out.keep (Keep.set E2.out 0 rfl _)).keep (Keep.set (E2.out.set_ 0 _) 1 rfl _), (HB0.out.setCell (p := ⟨w.heap.size + 1 + 1, 0, none⟩) (by simp only []; omega) _).setCell (p := ⟨w.heap.size + 1 + 1, 1, none⟩) (by simp only []; omega) _⟩)
  go_wp2
  exact bodyPost_ret (v := .agg #[.slice A1 p1 c1, .slice B1 q1 e1]) (by simp [results, Try.results69, go_sem, k_E2_0, k_E2_1]) rfl HX.out
set_option maxRecDepth 100000 in
set_option maxHeartbeats 4000000 in
theorem isF_yes (va vb : Value) (n d : Nat) (w : World) (ha : F64 w va n d) (hb : RF w vb n d) (hn : wl 64 n ≤ 1099511627) (hn8 : wl 8 n ≤ 1000000000) (hd : wl 64 d ≤ 1099511627) (hd8 : wl 8 d ≤ 1000000000) : Calls Try.prog 67 #[va, vb] w fun x w' => x = .returned (.bool true) ∧ Below w.heap.size w w' := by
  have Ha := Lib.hid ha
  obtain ⟨Pa, pa, ca, Qa, qa, ea, xa, rfl, _, _, _⟩ := ha
  have Hb := Lib.hid hb
  obtain ⟨Pb, pb, cb, Qb, qb, eb, rfl, _, _⟩ := hb
  have HNU := Lib.hid num_any
  have HDE := Lib.hid den_any
  have HI1 := Lib.hid (fun va vb W h1 h2 => is_yes va vb n W h1 h2 hn hn8)
  have HI2 := Lib.hid (fun va vb W h1 h2 => is_yes va vb d W h1 h2 hd hd8)
  clear hn hn8 hd hd8
  have e0 := (Blk.new (w) 47 #[(.slice Pa pa ca), (.slice Qa qa ea)]).alloc (.cells #[(.slice Pb pb cb), (.slice Qb qb eb)] 52)
  have e1 := Blk.new ((w).alloc (.cells #[(.slice Pa pa ca), (.slice Qa qa ea)] 47)) 52 #[(.slice Pb pb cb), (.slice Qb qb eb)]
  have hb := cba (cba (Below.refl _ w) (.cells #[(.slice Pa pa ca), (.slice Qa qa ea)] 47)) (.cells #[(.slice Pb pb cb), (.slice Qb qb eb)] 52)
  simp only [World.size_alloc] at e1
  have hsz : w.heap.size ≤ w.heap.size := Nat.le_refl _
  go_enter Try.func67, Try.ntmps67
  go_upto_region 1 with (fail)
  obtain ⟨S, hS⟩ : ∃ S, ((w).alloc (.cells #[(.slice Pa pa ca), (.slice Qa qa ea)] 47)).alloc (.cells #[(.slice Pb pb cb), (.slice Qb qb eb)] 52) = S := ⟨_, rfl⟩
  rw [hS] at e0 e1 hb ⊢
  replace Ha := Lib.hid (Ha.out.below hb)
  replace Hb := Lib.hid (Hb.out.below hb)
  have HB0 := Lib.hid hb
  have E0 := Lib.hid e0
  have E1 := Lib.hid e1
  clear hS hb hsz e0 e1
  have Hb0 := Lib.hid (RF.fst Hb.out)
  have Hb1 := Lib.hid (RF.snd Hb.out)
  go_wp2_with fail
  let FS : List Kept1 := [.f (n) (d), .n (n), .eq (.pointer (some ⟨w.heap.size + 1, 0, none⟩)), .r (n), .eq (.bool true), .eq (.bool true), .f (n) (d), .n (d), .eq (.pointer (some ⟨w.heap.size + 1, 1, none⟩)), .r (d), .eq (.bool true), .eq (.bool true), .eq (.bool true)]
  refine region_mono (Held S (fun j => FS.getD j .any) []) (by kernel_rfl) (by kernel_rfl) (by kernel_rfl) (Held.start _ _ _ (by simp) (by simp)) ?_
  refine Steps.held ?_ ?_
  · intro L v w' hJ
    have kb := hJ.out.blk E0.out (by simp [oldsOf])
    have k0 := kb.cell 0
    have k1 := kb.cell 1
    clear kb
    go_wp2_with fail
    exact ⟨rfl, rfl, hJ.out.same (by rfl) (Ha.out.keep hJ.out.held.keep)⟩
  simp only [Act.put, List.setIfInBounds_toArray, List.set_cons_zero, List.set_cons_succ, Nat.reduceAdd]
  refine Steps.held ?_ ?_
  · intro L v w' hJ
    have X0 := Lib.hid (show F64 w' (v 0) (n) (d) from hJ.out.fact 0 (by kernel_rfl))
    go_wp2_with fail
    with_reducible refine (HNU.out _ _ _ _ X0.out).mono ?_
    rintro e w1 ⟨u, rfl, hu, hb⟩
    go_wp2_with fail
    exact ⟨rfl, rfl, hJ.out.call (by rfl) hb (hu)⟩
  simp only [Act.put, List.setIfInBounds_toArray, List.set_cons_zero, List.set_cons_succ, Nat.reduceAdd]
  refine Steps.held ?_ ?_
  · intro L v w' hJ
    go_wp2_with fail
    exact ⟨rfl, rfl, hJ.out.same (by rfl) (rfl)⟩
  simp only [Act.put, List.setIfInBounds_toArray, List.set_cons_zero, List.set_cons_succ, Nat.reduceAdd]
  refine Steps.held ?_ ?_
  · intro L v w' hJ
    have hv2 : v 2 = .pointer (some ⟨w.heap.size + 1, 0, none⟩) := hJ.out.fact 2 (by kernel_rfl)
    simp only [hv2]
    clear hv2
    have kb := hJ.out.blk E1.out (by simp [oldsOf])
    have k0 := kb.cell 0
    have k1 := kb.cell 1
    clear kb
    go_wp2_with fail
    exact ⟨rfl, rfl, hJ.out.same (by rfl) (Hb0.out.keep hJ.out.held.keep)⟩
  simp only [Act.put, List.setIfInBounds_toArray, List.set_cons_zero, List.set_cons_succ, Nat.reduceAdd]
  refine Steps.held ?_ ?_
  · intro L v w' hJ
    have X0 := Lib.hid (show N64 w' (v 1) (n) from hJ.out.fact 1 (by kernel_rfl))
    have X1 := Lib.hid (show R256 w' (v 3) (n) from hJ.out.fact 3 (by kernel_rfl))
    go_wp2_with fail
    with_reducible refine (HI1.out _ _ _ X0.out X1.out).mono ?_
    rintro e w1 ⟨rfl, hb⟩
    go_wp2_with fail
    exact ⟨rfl, rfl, hJ.out.call (by rfl) hb (rfl)⟩
  simp only [Act.put, List.setIfInBounds_toArray, List.set_cons_zero, List.set_cons_succ, Nat.reduceAdd]
  refine Steps.held ?_ ?_
  · intro L v w' hJ
    have hv4 : v 4 = .bool true := hJ.out.fact 4 (by kernel_rfl)
    simp only [hv4]
    clear hv4
    go_wp2_with fail
    exact ⟨rfl, rfl, hJ.out.same (by rfl) (rfl)⟩
  simp only [Act.put, List.setIfInBounds_toArray, List.set_cons_zero, List.set_cons_succ, Nat.reduceAdd]
  refine Steps.held ?_ ?_
  · intro L v w' hJ
    have hv5 : v 5 = .bool true := hJ.out.fact 5 (by kernel_rfl)
    simp only [hv5]
    clear hv5
    have kb := hJ.out.blk E0.out (by simp [oldsOf])
    have k0 := kb.cell 0
    have k1 := kb.cell 1
    clear kb
    go_wp2_with fail
    exact ⟨rfl, rfl, hJ.out.same (by rfl) (Ha.out.keep hJ.out.held.keep)⟩
  simp only [Act.put, List.setIfInBounds_toArray, List.set_cons_zero, List.set_cons_succ, Nat.reduceAdd]
  refine Steps.held ?_ ?_
  · intro L v w' hJ
    have hv5 : v 5 = .bool true := hJ.out.fact 5 (by kernel_rfl)
    simp only [hv5]
    clear hv5
    have X0 := Lib.hid (show F64 w' (v 6) (n) (d) from hJ.out.fact 6 (by kernel_rfl))
    go_wp2_with fail
    with_reducible refine (HDE.out _ _ _ _ X0.out).mono ?_
    rintro e w1 ⟨u, rfl, hu, hb⟩
    go_wp2_with fail
    exact ⟨rfl, rfl, hJ.out.call (by rfl) hb (hu)⟩
  simp only [Act.put, List.setIfInBounds_toArray, List.set_cons_zero, List.set_cons_succ, Nat.reduceAdd]
  refine Steps.held ?_ ?_
  · intro L v w' hJ
    have hv5 : v 5 = .bool true := hJ.out.fact 5 (by kernel_rfl)
    simp only [hv5]
    clear hv5
    go_wp2_with fail
    exact ⟨rfl, rfl, hJ.out.same (by rfl) (rfl)⟩
  simp only [Act.put, List.setIfInBounds_toArray, List.set_cons_zero, List.set_cons_succ, Nat.reduceAdd]
  refine Steps.held ?_ ?_
  · intro L v w' hJ
    have hv8 : v 8 = .pointer (some ⟨w.heap.size + 1, 1, none⟩) := hJ.out.fact 8 (by kernel_rfl)
    simp only [hv8]
    clear hv8
    have hv5 : v 5 = .bool true := hJ.out.fact 5 (by kernel_rfl)
    simp only [hv5]
    clear hv5
    have kb := hJ.out.blk E1.out (by simp [oldsOf])
    have k0 := kb.cell 0
    have k1 := kb.cell 1
    clear kb
    go_wp2_with fail
    exact ⟨rfl, rfl, hJ.out.same (by rfl) (Hb1.out.keep hJ.out.held.keep)⟩
  simp only [Act.put, List.setIfInBounds_toArray, List.set_cons_zero, List.set_cons_succ, Nat.reduceAdd]
  refine Steps.held ?_ ?_
  · intro L v w' hJ
    have hv5 : v 5 = .bool true := hJ.out.fact 5 (by kernel_rfl)
    simp only [hv5]
    clear hv5
    have X0 := Lib.hid (show N64 w' (v 7) (d) from hJ.out.fact 7 (by kernel_rfl))
    have X1 := Lib.hid (show R256 w' (v 9) (d) from hJ.out.fact 9 (by kernel_rfl))
    go_wp2_with fail
    with_reducible refine (HI2.out _ _ _ X0.out X1.out).mono ?_
    rintro e w1 ⟨rfl, hb⟩
    go_wp2_with fail
    exact ⟨rfl, rfl, hJ.out.call (by rfl) hb (rfl)⟩
  simp only [Act.put, List.setIfInBounds_toArray, List.set_cons_zero, List.set_cons_succ, Nat.reduceAdd]
  refine Steps.held ?_ ?_
  · intro L v w' hJ
    have hv5 : v 5 = .bool true := hJ.out.fact 5 (by kernel_rfl)
    simp only [hv5]
    clear hv5
    have hv10 : v 10 = .bool true := hJ.out.fact 10 (by kernel_rfl)
    simp only [hv10]
    clear hv10
    go_wp2_with fail
    exact ⟨rfl, rfl, hJ.out.same (by rfl) (rfl)⟩
  simp only [Act.put, List.setIfInBounds_toArray, List.set_cons_zero, List.set_cons_succ, Nat.reduceAdd]
  refine Steps.held ?_ ?_
  · intro L v w' hJ
    have hv11 : v 11 = .bool true := hJ.out.fact 11 (by kernel_rfl)
    simp only [hv11]
    clear hv11
    go_wp2_with fail
    exact ⟨rfl, rfl, hJ.out.same (by rfl) (rfl)⟩
  simp only [Act.put, List.setIfInBounds_toArray, List.set_cons_zero, List.set_cons_succ, Nat.reduceAdd]
  refine Steps.nil ?_
  intro v w' hJ
  have h12 : v 12 = .bool true := hJ.end_fact 12 (by decide)
  have HF := Lib.hid (cbt HB0.out hJ.but.below)
  clear hJ
  simp only [h12]
  clear h12
  go_wp2_with fail
  go_ret
  exact ⟨rfl, HF.out⟩
end Go.Proofs.Yteikhnmmkanndaa
namespace Go.Proofs.Yteikhnmmkanndaa
open Go.RowKit Go.Proofs.YteikhnmmkanndaaW.PrintWords
set_option linter.unusedSimpArgs false
set_option linter.unusedVariables false
def addR (a b : Nat × Nat) : Nat × Nat := (rn (a.1 * b.2 + b.1 * a.2) (a.2 * b.2), rd (a.1 * b.2 + b.1 * a.2) (a.2 * b.2))
def sumR (f : Nat → Nat × Nat) : Nat → Nat × Nat
  | 0 => (0, 1)
  | k + 1 => addR (sumR f k) (f k)
theorem wl_one64 : wl 64 1 = 1 := by decide +kernel
theorem sumR_pos {f : Nat → Nat × Nat} {K : Nat} (hf : ∀ i, i < K → 0 < (f i).2) : ∀ k, k ≤ K → 0 < (sumR f k).2
  | 0, _ => Nat.one_pos
  | k + 1, h => rd_pos (Nat.mul_pos (sumR_pos hf k (by omega)) (hf k (by omega)))
theorem sumR_wl {f : Nat → Nat × Nat} {K B : Nat} (hf : ∀ i, i < K → wl 64 (f i).1 ≤ B ∧ wl 64 (f i).2 ≤ B) : ∀ k, k ≤ K → wl 64 (sumR f k).1 ≤ 1 + k * (B + 1) ∧ wl 64 (sumR f k).2 ≤ 1 + k * (B + 1)
  | 0, _ => ⟨by show wl 64 0 ≤ _; rw [wl_zero (by decide)]; omega, by show wl 64 1 ≤ _; rw [wl_one64]; omega⟩
  | k + 1, h => by
    obtain ⟨h1, h2⟩ := sumR_wl hf k (by omega)
    obtain ⟨g1, g2⟩ := hf k (by omega)
    have a := wl_mul_le (k := 64) (by decide) h1 g2
    have b := wl_mul_le (k := 64) (by decide) g1 h2
    have c := wl_mul_le (k := 64) (by decide) h2 g2
    have s := wl_add_le (k := 64) (x := (sumR f k).1 * (f k).2) (y := (f k).1 * (sumR f k).2) (a := 1 + k * (B + 1) + B) (by decide) a (by omega)
    rw [Nat.succ_mul]
    exact ⟨Nat.le_trans (wl_rn (by decide) s) (by omega), Nat.le_trans (wl_rd (by decide) c) (by omega)⟩
def Rats (w : World) (A : Option Addr) (K : Nat) (f : Nat → Nat × Nat) : Prop :=
  ∀ i, i < K → ∃ b o P p c Q q e, A = some ⟨b, o, none⟩ ∧ b < w.heap.size ∧ w.cell? ⟨b, o + i * 2, none⟩ = some (.slice P p c) ∧ w.cell? ⟨b, o + i * 2 + 1, none⟩ = some (.slice Q q e) ∧ F64 w (.agg #[.slice P p c, .slice Q q e]) (f i).1 (f i).2
theorem Rats.below {w w' : World} {A : Option Addr} {K : Nat} {f : Nat → Nat × Nat} (h : Rats w A K f) (hb : Below w.heap.size w w') : Rats w' A K f := by
  intro i hi
  obtain ⟨b, o, P, p, c, Q, q, e, hA, hlt, h1, h2, h3⟩ := h i hi
  exact ⟨b, o, P, p, c, Q, q, e, hA, Nat.lt_of_lt_of_le hlt hb.size, (hb.cell (p := ⟨b, o + i * 2, none⟩) hlt).trans h1, (hb.cell (p := ⟨b, o + i * 2 + 1, none⟩) hlt).trans h2, h3.below hb⟩
def RowF (w : World) (v : Value) (K : Nat) (f : Nat → Nat × Nat) : Prop :=
  2 ≤ K ∧ ∃ g cs, v = .slice (some ⟨g, 0, none⟩) K K ∧ Blk w g 47 cs ∧ 2 * K ≤ cs.size ∧ ∀ i, i < K → ∃ P p c Q q e, cs[i * 2]? = some (.slice P p c) ∧ cs[i * 2 + 1]? = some (.slice Q q e) ∧ F64 w (.agg #[.slice P p c, .slice Q q e]) (f i).1 (f i).2
theorem RowF.keep {w w' : World} {v : Value} {K : Nat} {f : Nat → Nat × Nat} (h : RowF w v K f) (k : Keep w w') : RowF w' v K f := by
  obtain ⟨h2, g, cs, hv, hb, hs, hf⟩ := h
  refine ⟨h2, g, cs, hv, k.rats g cs hb (by omega), hs, fun i hi => ?_⟩
  obtain ⟨P, p, c, Q, q, e, h1, h2, h3⟩ := hf i hi
  exact ⟨P, p, c, Q, q, e, h1, h2, h3.keep k⟩
def Kept1.rats (K : Nat) (f : Nat → Nat × Nat) : Kept1 := ⟨fun v w => RowF w v K f, fun h k => h.keep k⟩
theorem RowF.rats {w : World} {v : Value} {K : Nat} {f : Nat → Nat × Nat} (h : RowF w v K f) : ∃ g, v = .slice (some ⟨g, 0, none⟩) K K ∧ Rats w (some ⟨g, 0, none⟩) K f := by
  obtain ⟨h2, g, cs, hv, hb, hs, hf⟩ := h
  refine ⟨g, hv, fun i hi => ?_⟩
  obtain ⟨P, p, c, Q, q, e, h1, h2, h3⟩ := hf i hi
  refine ⟨g, 0, P, p, c, Q, q, e, rfl, hb.lt, ?_, ?_, h3⟩
  · rw [hb.cell, Nat.zero_add]; exact h1
  · rw [hb.cell, Nat.zero_add]; exact h2
def ofL (l : List (Nat × Nat)) : Nat → Nat × Nat := fun i => l.getD i (0, 1)
theorem RowF.two {w : World} {g : Nat} {P Q P' Q' : Option Addr} {p c q e p' c' q' e' n d m f : Nat} (h : Blk w g 47 #[.slice P p c, .slice Q q e, .slice P' p' c', .slice Q' q' e'])
    (h1 : F64 w (.agg #[.slice P p c, .slice Q q e]) n d) (h2 : F64 w (.agg #[.slice P' p' c', .slice Q' q' e']) m f) : RowF w (.slice (some ⟨g, 0, none⟩) 2 2) 2 (ofL [(n, d), (m, f)]) := by
  refine ⟨Nat.le_refl _, g, _, rfl, h, Nat.le_of_ble_eq_true rfl, fun i hi => ?_⟩
  match i, hi with
  | 0, _ => exact ⟨_, _, _, _, _, _, rfl, rfl, h1⟩
  | 1, _ => exact ⟨_, _, _, _, _, _, rfl, rfl, h2⟩
theorem RowF.three {w : World} {g : Nat} {P Q P' Q' P2 Q2 : Option Addr} {p c q e p' c' q' e' p2 c2 q2 e2 n d m f r s : Nat} (h : Blk w g 47 #[.slice P p c, .slice Q q e, .slice P' p' c', .slice Q' q' e', .slice P2 p2 c2, .slice Q2 q2 e2])
    (h1 : F64 w (.agg #[.slice P p c, .slice Q q e]) n d) (h2 : F64 w (.agg #[.slice P' p' c', .slice Q' q' e']) m f) (h3 : F64 w (.agg #[.slice P2 p2 c2, .slice Q2 q2 e2]) r s) : RowF w (.slice (some ⟨g, 0, none⟩) 3 3) 3 (ofL [(n, d), (m, f), (r, s)]) := by
  refine ⟨by decide, g, _, rfl, h, Nat.le_of_ble_eq_true rfl, fun i hi => ?_⟩
  match i, hi with
  | 0, _ => exact ⟨_, _, _, _, _, _, rfl, rfl, h1⟩
  | 1, _ => exact ⟨_, _, _, _, _, _, rfl, rfl, h2⟩
  | 2, _ => exact ⟨_, _, _, _, _, _, rfl, rfl, h3⟩
set_option maxRecDepth 100000 in
set_option maxHeartbeats 4000000 in
theorem raddF_any (A : Option Addr) (K c : Nat) (f : Nat → Nat × Nat) (B : Nat) (w : World) (hc : K ≤ c) (hK : K ≤ 100) (hB : B ≤ 100000) (h : Rats w A K f) (hp : ∀ i, i < K → 0 < (f i).2) (hf : ∀ i, i < K → wl 64 (f i).1 ≤ B ∧ wl 64 (f i).2 ≤ B) :
    Calls Try.prog 66 #[.slice A K c] w (MkF w (sumR f K).1 (sumR f K).2) := by
  have HRW := Lib.hid h
  have HIN : Hid (∀ W, Calls Try.prog 74 #[.int .u64 0] W (MkF W 0 1)) := Lib.hid (fun W => rint_any 0 (by decide) W)
  have HP := Lib.hid hp
  have HF := Lib.hid hf
  have HNU := Lib.hid num_any
  have HDE := Lib.hid den_any
  have HBB := Lib.hid hB
  have HKK := Lib.hid hK
  clear h hp hf hB
  have e0 := Blk.new (w) 47 #[(.slice none 0 0), (.slice none 0 0)]
  have hb := cba (Below.refl _ w) (.cells #[(.slice none 0 0), (.slice none 0 0)] 47)
  have hsz : w.heap.size ≤ w.heap.size := Nat.le_refl _
  go_enter Try.func66, Try.ntmps66
  go_upto_region 1 with (fail)
  obtain ⟨S, hS⟩ : ∃ S, (w).alloc (.cells #[(.slice none 0 0), (.slice none 0 0)] 47) = S := ⟨_, rfl⟩
  rw [hS] at e0 hb ⊢
  have HB0 := Lib.hid hb
  have E0 := Lib.hid e0
  clear hS hb hsz e0
  have k_E0_0 := E0.out.cell 0
  have k_E0_1 := E0.out.cell 1
  go_wp2_with fail
  with_reducible refine (HIN.out _).mono ?_
  rintro e w1 ⟨u, rfl, hu, hb⟩
  clear k_E0_0 k_E0_1
  replace E0 := Lib.hid (blk_below E0.out hb)
  replace HB0 := Lib.hid (cbt HB0.out hb)
  have NI := Lib.hid hu
  clear hb hu
  have k_E0_0 := E0.out.cell 0
  have k_E0_1 := E0.out.cell 1
  have ZI := NI.out
  obtain ⟨P3, p3, c3, Q3, q3, e3, x3, rfl, _, _, _⟩ := ZI
  have e1 := Blk.new w1 47 #[.slice P3 p3 c3, .slice Q3 q3 e3]
  have hb := cba (Below.refl _ w1) (.cells #[.slice P3 p3 c3, .slice Q3 q3 e3] 47)
  go_upto_region 2 with (fail)
  have hg3 : w.heap.size < w1.heap.size := E0.out.lt
  obtain ⟨T, hT⟩ : ∃ T, w1.alloc (.cells #[.slice P3 p3 c3, .slice Q3 q3 e3] 47) = T := ⟨_, rfl⟩
  rw [hT] at e1 hb ⊢
  obtain ⟨g3, hg⟩ : ∃ g, w1.heap.size = g := ⟨_, rfl⟩
  rw [hg] at e1 hg3
  simp only [hg]
  replace E0 := Lib.hid (blk_below E0.out hb)
  replace HB0 := Lib.hid (cbt HB0.out hb)
  have BO := Lib.hid (show BoxF T g3 (sumR f 0).1 (sumR f 0).2 from ⟨_, _, _, _, _, _, e1, NI.out.below hb⟩)
  clear hT hg hb e1 NI k_E0_0 k_E0_1 hK
  go_wp2_with fail
  go_loopw [10] (fun v10 wr => ∃ k : Nat, k ≤ K ∧ v10 = .int .i64 k ∧ Hid (BoxF wr g3 (sumR f k).1 (sumR f k).2) ∧ Hid (Blk wr w.heap.size 47 #[.slice none 0 0, .slice none 0 0]) ∧ Hid (Below w.heap.size w wr)) (fun v10 _ => K - (intOf v10).toNat)
  case atStart => exact ⟨0, Nat.zero_le _, rfl, BO, E0, HB0⟩
  case round =>
    obtain ⟨k, hk, rfl, hBO, hE, hBW⟩ := hrel
    by_cases hlt : k < K
    · obtain ⟨bb, oo, P5, p5, c5, Q5, q5, e5, hA, hltb, k50, k51, hF5⟩ := (HRW.out.below hBW.out) k hlt
      subst hA
      obtain ⟨P3', p3', c3', Q3', q3', e3', hb3, hF3⟩ := hBO.out
      have N5 := Lib.hid hF5
      have N3 := Lib.hid hF3
      have E3 := Lib.hid hb3
      clear hF5 hF3 hb3
      have hpk := sumR_pos HP.out k hk
      obtain ⟨hw1, hw2⟩ := sumR_wl HF.out k hk
      obtain ⟨hw3, hw4⟩ := HF.out k hlt
      have hp4 := HP.out k hlt
      have hT : k * (B + 1) ≤ 100 * 100001 := Nat.mul_le_mul (by have := HKK.out; omega) (by have := HBB.out; omega)
      have hT2 := HBB.out
      have HS1 : Hid ((sumR f (k + 1)).1 = rn ((sumR f k).1 * (f k).2 + (f k).1 * (sumR f k).2) ((sumR f k).2 * (f k).2)) := Lib.hid rfl
      have HS2 : Hid ((sumR f (k + 1)).2 = rd ((sumR f k).1 * (f k).2 + (f k).1 * (sumR f k).2) ((sumR f k).2 * (f k).2)) := Lib.hid rfl
      obtain ⟨n, hn⟩ : ∃ n, (sumR f k).1 = n := ⟨_, rfl⟩
      obtain ⟨d, hd⟩ : ∃ n, (sumR f k).2 = n := ⟨_, rfl⟩
      obtain ⟨m, hm⟩ : ∃ n, (f k).1 = n := ⟨_, rfl⟩
      obtain ⟨e, he⟩ : ∃ n, (f k).2 = n := ⟨_, rfl⟩
      rw [hn, hm, hd, he] at HS1 HS2
      rw [hn, hd] at N3
      rw [hm, he] at N5
      rw [hn] at hw1
      rw [hd] at hw2 hpk
      rw [hm] at hw3
      rw [he] at hw4 hp4
      clear hn hd hm he
      have hm1 := wl_mul_le (k := 64) (x := n) (y := e) (a := 10000101) (b := 100000) (by decide) (by omega) (by omega)
      have HM1 := Lib.hid (fun va vb W h1 h2 => nmul_any va vb n e W h1 h2 (by omega) (by omega))
      have hm2 := wl_mul_le (k := 64) (x := m) (y := d) (a := 100000) (b := 10000101) (by decide) (by omega) (by omega)
      have HM2 := Lib.hid (fun va vb W h1 h2 => nmul_any va vb m d W h1 h2 (by omega) (by omega))
      have hm3 := wl_mul_le (k := 64) (x := d) (y := e) (a := 10000101) (b := 100000) (by decide) (by omega) (by omega)
      have HM3 := Lib.hid (fun va vb W h1 h2 => nmul_any va vb d e W h1 h2 (by omega) (by omega))
      have hsm := wl_add_le (k := 64) (x := n * e) (y := m * d) (a := 20000000) (by decide) (by omega) (by omega)
      have HAD := Lib.hid (fun va vb W h1 h2 => nadd_any va vb (n * e) (m * d) W h1 h2 (by omega) (by omega))
      have HMA := Lib.hid (fun va vb W h1 h2 => rmade_any va vb (n * e + m * d) (d * e) W h1 h2 (by omega) (by omega) (Nat.mul_pos hpk hp4))
      clear hm1 hm2 hm3 hsm hw1 hw2 hw3 hw4 hT hT2 hpk hp4
      have dlt : decide ((k : Int) < (K : Int)) = true := decide_eq_true (by omega)
      have HLT := Lib.hid hlt
      go_upto_region 5 with (fail)
      have e5' := Blk.new wr 47 #[.slice P5 p5 c5, .slice Q5 q5 e5]
      have hb5 := cba (Below.refl _ wr) (.cells #[.slice P5 p5 c5, .slice Q5 q5 e5] 47)
      have hg35 : g3 < wr.heap.size := E3.out.lt
      have hg05 : w.heap.size < wr.heap.size := hE.out.lt
      obtain ⟨X, hX⟩ : ∃ X, wr.alloc (.cells #[.slice P5 p5 c5, .slice Q5 q5 e5] 47) = X := ⟨_, rfl⟩
      rw [hX] at e5' hb5 ⊢
      obtain ⟨g5, hg5⟩ : ∃ g, wr.heap.size = g := ⟨_, rfl⟩
      rw [hg5] at e5' hg35 hg05
      simp only [hg5]
      replace N5 := Lib.hid (N5.out.below hb5)
      replace N3 := Lib.hid (N3.out.below hb5)
      replace E3 := Lib.hid (blk_below E3.out hb5)
      replace hE := Lib.hid (blk_below hE.out hb5)
      replace hBW := Lib.hid (cbt hBW.out hb5)
      have E5 := Lib.hid e5'
      have hX3 := E3.out.lt
      clear hX hg5 e5' hb5 k50 k51 hltb hBO dlt hlt
      let FS : List Kept1 := [.f (n) (d), .n (n), .f (m) (e), .n (e), .n (n * e), .f (m) (e), .n (m), .f (n) (d), .n (d), .n (m * d), .n (n * e + m * d), .any, .any]
      let BS : List Bx := [Bx.nat (.inl 11) 12 #[.slice none 0 0] (n * e + m * d)]
      refine region_mono (Held X (fun j => FS.getD j .any) BS) (by kernel_rfl) (by kernel_rfl) (by kernel_rfl) (Held.start _ _ _ (by simp [BS, Bx.nat, Bx.rat, Bx.ref]) (by simp [BS, Bx.nat, Bx.rat, Bx.ref])) ?_
      refine Steps.held ?_ ?_
      · intro L v w' hJ
        have kb := hJ.out.blk E3.out (by simp [oldsOf, BS, Bx.nat, Bx.rat, Bx.ref])
        have k0 := kb.cell 0
        have k1 := kb.cell 1
        clear kb
        go_wp2_with fail
        exact ⟨rfl, rfl, hJ.out.same (by rfl) (N3.out.keep hJ.out.held.keep)⟩
      simp only [Act.put, List.setIfInBounds_toArray, List.set_cons_zero, List.set_cons_succ, Nat.reduceAdd]
      refine Steps.held ?_ ?_
      · intro L v w' hJ
        have X0 := Lib.hid (show F64 w' (v 0) (n) (d) from hJ.out.fact 0 (by kernel_rfl))
        go_wp2_with fail
        with_reducible refine (HNU.out _ _ _ _ X0.out).mono ?_
        rintro e w1 ⟨u, rfl, hu, hb⟩
        go_wp2_with fail
        exact ⟨rfl, rfl, hJ.out.call (by rfl) hb (hu)⟩
      simp only [Act.put, List.setIfInBounds_toArray, List.set_cons_zero, List.set_cons_succ, Nat.reduceAdd]
      refine Steps.held ?_ ?_
      · intro L v w' hJ
        have kb := hJ.out.blk E5.out (by simp [oldsOf, BS, Bx.nat, Bx.rat, Bx.ref])
        have k0 := kb.cell 0
        have k1 := kb.cell 1
        clear kb
        go_wp2_with fail
        exact ⟨rfl, rfl, hJ.out.same (by rfl) (N5.out.keep hJ.out.held.keep)⟩
      simp only [Act.put, List.setIfInBounds_toArray, List.set_cons_zero, List.set_cons_succ, Nat.reduceAdd]
      refine Steps.held ?_ ?_
      · intro L v w' hJ
        have X0 := Lib.hid (show F64 w' (v 2) (m) (e) from hJ.out.fact 2 (by kernel_rfl))
        go_wp2_with fail
        with_reducible refine (HDE.out _ _ _ _ X0.out).mono ?_
        rintro e w1 ⟨u, rfl, hu, hb⟩
        go_wp2_with fail
        exact ⟨rfl, rfl, hJ.out.call (by rfl) hb (hu)⟩
      simp only [Act.put, List.setIfInBounds_toArray, List.set_cons_zero, List.set_cons_succ, Nat.reduceAdd]
      refine Steps.held ?_ ?_
      · intro L v w' hJ
        have X0 := Lib.hid (show N64 w' (v 1) (n) from hJ.out.fact 1 (by kernel_rfl))
        have X1 := Lib.hid (show N64 w' (v 3) (e) from hJ.out.fact 3 (by kernel_rfl))
        go_wp2_with fail
        with_reducible refine (HM1.out _ _ _ X0.out X1.out).mono ?_
        rintro e w1 ⟨u, rfl, hu, hb⟩
        go_wp2_with fail
        exact ⟨rfl, rfl, hJ.out.call (by rfl) hb (hu)⟩
      simp only [Act.put, List.setIfInBounds_toArray, List.set_cons_zero, List.set_cons_succ, Nat.reduceAdd]
      refine Steps.held ?_ ?_
      · intro L v w' hJ
        have kb := hJ.out.blk E5.out (by simp [oldsOf, BS, Bx.nat, Bx.rat, Bx.ref])
        have k0 := kb.cell 0
        have k1 := kb.cell 1
        clear kb
        go_wp2_with fail
        exact ⟨rfl, rfl, hJ.out.same (by rfl) (N5.out.keep hJ.out.held.keep)⟩
      simp only [Act.put, List.setIfInBounds_toArray, List.set_cons_zero, List.set_cons_succ, Nat.reduceAdd]
      refine Steps.held ?_ ?_
      · intro L v w' hJ
        have X0 := Lib.hid (show F64 w' (v 5) (m) (e) from hJ.out.fact 5 (by kernel_rfl))
        go_wp2_with fail
        with_reducible refine (HNU.out _ _ _ _ X0.out).mono ?_
        rintro e w1 ⟨u, rfl, hu, hb⟩
        go_wp2_with fail
        exact ⟨rfl, rfl, hJ.out.call (by rfl) hb (hu)⟩
      simp only [Act.put, List.setIfInBounds_toArray, List.set_cons_zero, List.set_cons_succ, Nat.reduceAdd]
      refine Steps.held ?_ ?_
      · intro L v w' hJ
        have kb := hJ.out.blk E3.out (by simp [oldsOf, BS, Bx.nat, Bx.rat, Bx.ref])
        have k0 := kb.cell 0
        have k1 := kb.cell 1
        clear kb
        go_wp2_with fail
        exact ⟨rfl, rfl, hJ.out.same (by rfl) (N3.out.keep hJ.out.held.keep)⟩
      simp only [Act.put, List.setIfInBounds_toArray, List.set_cons_zero, List.set_cons_succ, Nat.reduceAdd]
      refine Steps.held ?_ ?_
      · intro L v w' hJ
        have X0 := Lib.hid (show F64 w' (v 7) (n) (d) from hJ.out.fact 7 (by kernel_rfl))
        go_wp2_with fail
        with_reducible refine (HDE.out _ _ _ _ X0.out).mono ?_
        rintro e w1 ⟨u, rfl, hu, hb⟩
        go_wp2_with fail
        exact ⟨rfl, rfl, hJ.out.call (by rfl) hb (hu)⟩
      simp only [Act.put, List.setIfInBounds_toArray, List.set_cons_zero, List.set_cons_succ, Nat.reduceAdd]
      refine Steps.held ?_ ?_
      · intro L v w' hJ
        have X0 := Lib.hid (show N64 w' (v 6) (m) from hJ.out.fact 6 (by kernel_rfl))
        have X1 := Lib.hid (show N64 w' (v 8) (d) from hJ.out.fact 8 (by kernel_rfl))
        go_wp2_with fail
        with_reducible refine (HM2.out _ _ _ X0.out X1.out).mono ?_
        rintro e w1 ⟨u, rfl, hu, hb⟩
        go_wp2_with fail
        exact ⟨rfl, rfl, hJ.out.call (by rfl) hb (hu)⟩
      simp only [Act.put, List.setIfInBounds_toArray, List.set_cons_zero, List.set_cons_succ, Nat.reduceAdd]
      refine Steps.held ?_ ?_
      · intro L v w' hJ
        have X0 := Lib.hid (show N64 w' (v 4) (n * e) from hJ.out.fact 4 (by kernel_rfl))
        have X1 := Lib.hid (show N64 w' (v 9) (m * d) from hJ.out.fact 9 (by kernel_rfl))
        go_wp2_with fail
        with_reducible refine (HAD.out _ _ _ X0.out X1.out).mono ?_
        rintro e w1 ⟨u, rfl, hu, hb⟩
        go_wp2_with fail
        exact ⟨rfl, rfl, hJ.out.call (by rfl) hb (hu)⟩
      simp only [Act.put, List.setIfInBounds_toArray, List.set_cons_zero, List.set_cons_succ, Nat.reduceAdd]
      refine Steps.held ?_ ?_
      · intro L v w' hJ
        go_wp2_with fail
        exact ⟨rfl, rfl, hJ.out.made 0 _ rfl rfl (by rfl) trivial⟩
      simp only [Act.put, List.setIfInBounds_toArray, List.set_cons_zero, List.set_cons_succ, Nat.reduceAdd]
      refine Steps.held ?_ ?_
      · intro L v w' hJ
        obtain ⟨g, hg, hge, hown, hst⟩ := hJ.out.newbox 0 _ rfl 11 rfl (by kernel_rfl)
        have hN : N64 w' (v 10) (n * e + m * d) := hJ.out.fact 10 (by kernel_rfl)
        obtain ⟨P, c, hv, h1, h2, h3⟩ := hN
        have HN := Lib.hid (show N64 w' (.agg #[.slice P (wl 64 (n * e + m * d)) c]) (n * e + m * d) from ⟨P, c, rfl, h1, h2, h3⟩)
        have kb := hJ.out.box 0 _ rfl rfl g hown
        have k0 : w'.cell? ⟨g, 0, none⟩ = some (.slice none 0 0) := kb.cell 0
        have f0 := kb.frozen 0
        have HO := Lib.hid hown
        have HS := Lib.hid hst
        clear kb h1 h2 h3 hown hst
        simp only [hg, hv]
        clear hg hv
        go_wp2_with fail
        exact ⟨rfl, rfl, hJ.out.fill1 0 _ rfl rfl (by rfl) g HO.out HS.out _ rfl rfl (fun W k => ⟨P, c, rfl, HN.out.keep k⟩) (fun _ => trivial)⟩
      simp only [Act.put, List.setIfInBounds_toArray, List.set_cons_zero, List.set_cons_succ, Nat.reduceAdd]
      refine Steps.nil ?_
      intro v w' hJ
      obtain ⟨g6, cs11, hv11, hge11, hb11, A11, c11, rfl, hn11⟩ := hJ.end_new 0 _ rfl 11 rfl (by decide) (Nat.le_of_ble_eq_true rfl)
      simp only [hv11]
      have E6 := Lib.hid (show Blk _ _ 26 _ from hb11)
      have NE6 := Lib.hid hn11
      clear hv11 hb11 hn11
      have hbr := hJ.but.below
      replace N5 := Lib.hid (N5.out.below hbr)
      replace N3 := Lib.hid (N3.out.below hbr)
      replace E3 := Lib.hid (blk_below E3.out hbr)
      replace E5 := Lib.hid (blk_below E5.out hbr)
      replace hE := Lib.hid (blk_below hE.out hbr)
      replace hBW := Lib.hid (cbt hBW.out hbr)
      have hg36 : g3 < g6 := by omega
      clear hJ hbr
      go_wp2_with fail
      let FS : List Kept1 := [.n (n * e + m * d), .f (n) (d), .n (d), .f (m) (e), .n (e), .n (d * e), .f (rn (n * e + m * d) (d * e)) (rd (n * e + m * d) (d * e)), .any]
      let BS : List Bx := [Bx.rat (.inr (g3)) 7 #[(.slice P3' p3' c3'), (.slice Q3' q3' e3')] (rn (n * e + m * d) (d * e)) (rd (n * e + m * d) (d * e))]
      refine region_mono (Held w' (fun j => FS.getD j .any) BS) (by kernel_rfl) (by kernel_rfl) (by kernel_rfl) (Held.start _ _ _ (by simp [BS, Bx.nat, Bx.rat, Bx.ref] <;> exact E3.out) (by simp [BS, Bx.nat, Bx.rat, Bx.ref])) ?_
      refine Steps.held ?_ ?_
      · intro L v w' hJ
        have kb := hJ.out.blk E6.out (by simp [oldsOf, BS, Bx.nat, Bx.rat, Bx.ref] <;> omega)
        have k0 := kb.cell 0
        clear kb
        go_wp2_with fail
        exact ⟨rfl, rfl, hJ.out.same (by rfl) (NE6.out.keep hJ.out.held.keep)⟩
      simp only [Act.put, List.setIfInBounds_toArray, List.set_cons_zero, List.set_cons_succ, Nat.reduceAdd]
      refine Steps.held ?_ ?_
      · intro L v w' hJ
        have kb := hJ.out.yet 0 _ rfl (g3) rfl (by kernel_rfl)
        have k0 : w'.cell? ⟨g3, 0, none⟩ = some (.slice P3' p3' c3') := kb.cell 0
        have k1 : w'.cell? ⟨g3, 1, none⟩ = some (.slice Q3' q3' e3') := kb.cell 1
        clear kb
        go_wp2_with fail
        exact ⟨rfl, rfl, hJ.out.same (by rfl) (N3.out.keep hJ.out.held.keep)⟩
      simp only [Act.put, List.setIfInBounds_toArray, List.set_cons_zero, List.set_cons_succ, Nat.reduceAdd]
      refine Steps.held ?_ ?_
      · intro L v w' hJ
        have X0 := Lib.hid (show F64 w' (v 1) (n) (d) from hJ.out.fact 1 (by kernel_rfl))
        go_wp2_with fail
        with_reducible refine (HDE.out _ _ _ _ X0.out).mono ?_
        rintro e w1 ⟨u, rfl, hu, hb⟩
        go_wp2_with fail
        exact ⟨rfl, rfl, hJ.out.call (by rfl) hb (hu)⟩
      simp only [Act.put, List.setIfInBounds_toArray, List.set_cons_zero, List.set_cons_succ, Nat.reduceAdd]
      refine Steps.held ?_ ?_
      · intro L v w' hJ
        have kb := hJ.out.blk E5.out (by simp [oldsOf, BS, Bx.nat, Bx.rat, Bx.ref] <;> omega)
        have k0 := kb.cell 0
        have k1 := kb.cell 1
        clear kb
        go_wp2_with fail
        exact ⟨rfl, rfl, hJ.out.same (by rfl) (N5.out.keep hJ.out.held.keep)⟩
      simp only [Act.put, List.setIfInBounds_toArray, List.set_cons_zero, List.set_cons_succ, Nat.reduceAdd]
      refine Steps.held ?_ ?_
      · intro L v w' hJ
        have X0 := Lib.hid (show F64 w' (v 3) (m) (e) from hJ.out.fact 3 (by kernel_rfl))
        go_wp2_with fail
        with_reducible refine (HDE.out _ _ _ _ X0.out).mono ?_
        rintro e w1 ⟨u, rfl, hu, hb⟩
        go_wp2_with fail
        exact ⟨rfl, rfl, hJ.out.call (by rfl) hb (hu)⟩
      simp only [Act.put, List.setIfInBounds_toArray, List.set_cons_zero, List.set_cons_succ, Nat.reduceAdd]
      refine Steps.held ?_ ?_
      · intro L v w' hJ
        have X0 := Lib.hid (show N64 w' (v 2) (d) from hJ.out.fact 2 (by kernel_rfl))
        have X1 := Lib.hid (show N64 w' (v 4) (e) from hJ.out.fact 4 (by kernel_rfl))
        go_wp2_with fail
        with_reducible refine (HM3.out _ _ _ X0.out X1.out).mono ?_
        rintro e w1 ⟨u, rfl, hu, hb⟩
        go_wp2_with fail
        exact ⟨rfl, rfl, hJ.out.call (by rfl) hb (hu)⟩
      simp only [Act.put, List.setIfInBounds_toArray, List.set_cons_zero, List.set_cons_succ, Nat.reduceAdd]
      refine Steps.held ?_ ?_
      · intro L v w' hJ
        have X0 := Lib.hid (show N64 w' (v 0) (n * e + m * d) from hJ.out.fact 0 (by kernel_rfl))
        have X1 := Lib.hid (show N64 w' (v 5) (d * e) from hJ.out.fact 5 (by kernel_rfl))
        go_wp2_with fail
        with_reducible refine (HMA.out _ _ _ X0.out X1.out).mono ?_
        rintro e w1 ⟨u, rfl, hu, hb⟩
        go_wp2_with fail
        exact ⟨rfl, rfl, hJ.out.call (by rfl) hb (hu)⟩
      simp only [Act.put, List.setIfInBounds_toArray, List.set_cons_zero, List.set_cons_succ, Nat.reduceAdd]
      refine Steps.held ?_ ?_
      · intro L v w' hJ
        obtain ⟨hown, hst⟩ := hJ.out.oldbox 0 _ rfl (g3) rfl
        have hN : F64 w' (v 6) (rn (n * e + m * d) (d * e)) (rd (n * e + m * d) (d * e)) := hJ.out.fact 6 (by kernel_rfl)
        obtain ⟨A1, p1, c1, B1, q1, e1, x1, hv, h1, h2, h3⟩ := hN
        have HN := Lib.hid (show F64 w' (.agg #[.slice A1 p1 c1, .slice B1 q1 e1]) (rn (n * e + m * d) (d * e)) (rd (n * e + m * d) (d * e)) from ⟨A1, p1, c1, B1, q1, e1, x1, rfl, h1, h2, h3⟩)
        have kb := hJ.out.box 0 _ rfl rfl (g3) hown
        have k0 : w'.cell? ⟨(g3), 0, none⟩ = some ((.slice P3' p3' c3')) := kb.cell 0
        have k1 : w'.cell? ⟨(g3), 1, none⟩ = some ((.slice Q3' q3' e3')) := kb.cell 1
        have f0 := kb.frozen 0
        have f1 := kb.frozen 1
        have HO := Lib.hid hown
        have HS := Lib.hid hst
        clear kb h1 h2 h3 hown hst
        simp only [hv]
        clear hv
        go_wp2_with fail
        exact ⟨rfl, rfl, hJ.out.fill2 0 _ rfl rfl (by rfl) (g3) HO.out HS.out _ _ rfl rfl rfl (fun W k => HN.out.keep k) (fun _ => trivial)⟩
      simp only [Act.put, List.setIfInBounds_toArray, List.set_cons_zero, List.set_cons_succ, Nat.reduceAdd]
      refine Steps.nil ?_
      intro v w' hJ
      obtain ⟨cs, hblk, hf⟩ := hJ.end_old 0 _ rfl g3 rfl (Nat.le_of_ble_eq_true rfl)
      have hf' : F64 w' (.agg cs) (rn (n * e + m * d) (d * e)) (rd (n * e + m * d) (d * e)) := hf
      obtain ⟨A1, p1, c1, B1, q1, e1, x1, hcs, h1, h2, h3⟩ := hf'
      have hcs' := Value.agg.inj hcs
      subst hcs'
      have hk2 := hJ.keep
      have HBO := Lib.hid (show BoxF w' g3 (sumR f (k + 1)).1 (sumR f (k + 1)).2 from ⟨_, _, _, _, _, _, hblk, by rw [HS1.out, HS2.out]; exact ⟨A1, p1, c1, B1, q1, e1, x1, rfl, h1, h2, h3⟩⟩)
      have HEE := Lib.hid (hJ.but.blk hE.out (by simp [oldsOf, BS, Bx.nat, Bx.rat, Bx.ref]; omega))
      have HBW := Lib.hid (hJ.but.to_below hBW.out hBW.out.size (by intro g hg; simp [oldsOf, BS, Bx.nat, Bx.rat, Bx.ref] at hg; subst hg; omega))
      clear hJ hf h1 h2 hblk hcs hk2
      go_wp2_with fail
      have hlt2 := HLT.out
      have hK2 := HKK.out
      have hw64 : wrap64 ((k : Int) + 1) = ((k + 1 : Nat) : Int) := by
        rw [Go.IntWalk.wrap64_in _ (by omega)]
        rfl
      go_roundw
      case rel => exact ⟨k + 1, by omega, by rw [hw64], HBO, HEE, HBW⟩
      case measure => rw [hw64]; simp [intOf]; omega
    · have hkK : k = K := by omega
      subst hkK
      obtain ⟨P3', p3', c3', Q3', q3', e3', hb3, hF3⟩ := hBO.out
      have k30 := hb3.cell 0
      have k31 := hb3.cell 1
      have N3 := Lib.hid hF3
      have k00 := hE.out.cell 0
      have k01 := hE.out.cell 1
      have f0 := hE.out.frozen 0
      have f1 := hE.out.frozen 1
      have HX := Lib.hid (show MkF w (sumR f k).1 (sumR f k).2 (.returned (.agg #[.slice P3' p3' c3', .slice Q3' q3' e3'])) ((wr.setCell ⟨w.heap.size, 0, none⟩ (.slice P3' p3' c3')).setCell ⟨w.heap.size, 1, none⟩ (.slice Q3' q3' e3')) from
        ⟨_, rfl, (hF3.keep (Keep.set hE.out 0 rfl _)).keep (Keep.set (hE.out.set_ 0 _) 1 rfl _), (hBW.out.setCell (p := ⟨w.heap.size, 0, none⟩) (Nat.le_refl _) _).setCell (p := ⟨w.heap.size, 1, none⟩) (Nat.le_refl _) _⟩)
      clear hb3 hF3 hk
      go_wp2
      exact bodyPost_ret (v := .agg #[.slice P3' p3' c3', .slice Q3' q3' e3']) (by simp [results, Try.results66, go_sem, k00, k01]) rfl HX.out
theorem radd_row (v : Value) (K : Nat) (f : Nat → Nat × Nat) (B : Nat) (w : World) (hK : K ≤ 100) (hB : B ≤ 100000) (h : RowF w v K f) (hp : ∀ i, i < K → 0 < (f i).2) (hf : ∀ i, i < K → wl 64 (f i).1 ≤ B ∧ wl 64 (f i).2 ≤ B) :
    Calls Try.prog 66 #[v] w (MkF w (sumR f K).1 (sumR f K).2) := by
  obtain ⟨g, rfl, hr⟩ := h.rats
  exact raddF_any _ K K f B w (Nat.le_refl _) hK hB hr hp hf
theorem radd_none (w : World) : Calls Try.prog 66 #[.slice none 0 0] w (MkF w 0 1) := raddF_any none 0 0 (fun _ => (0, 1)) 0 w (Nat.le_refl _) (by decide) (by decide) (fun i hi => absurd hi (by omega)) (fun i hi => absurd hi (by omega)) (fun i hi => absurd hi (by omega))
theorem radd_two (v : Value) (n d m e B : Nat) (w : World) (hB : B ≤ 100000) (h : RowF w v 2 (ofL [(n, d), (m, e)])) (hd : 0 < d) (he : 0 < e) (h1 : wl 64 n ≤ B) (h2 : wl 64 d ≤ B) (h3 : wl 64 m ≤ B) (h4 : wl 64 e ≤ B) :
    Calls Try.prog 66 #[v] w (MkF w (addR (addR (0, 1) (n, d)) (m, e)).1 (addR (addR (0, 1) (n, d)) (m, e)).2) :=
  radd_row v 2 (ofL [(n, d), (m, e)]) B w (by decide) hB h (fun i hi => match i, hi with | 0, _ => hd | 1, _ => he) (fun i hi => match i, hi with | 0, _ => ⟨h1, h2⟩ | 1, _ => ⟨h3, h4⟩)
theorem radd_three (v : Value) (n d m e r s B : Nat) (w : World) (hB : B ≤ 100000) (h : RowF w v 3 (ofL [(n, d), (m, e), (r, s)])) (hd : 0 < d) (he : 0 < e) (hs : 0 < s) (h1 : wl 64 n ≤ B) (h2 : wl 64 d ≤ B) (h3 : wl 64 m ≤ B) (h4 : wl 64 e ≤ B) (h5 : wl 64 r ≤ B) (h6 : wl 64 s ≤ B) :
    Calls Try.prog 66 #[v] w (MkF w (addR (addR (addR (0, 1) (n, d)) (m, e)) (r, s)).1 (addR (addR (addR (0, 1) (n, d)) (m, e)) (r, s)).2) :=
  radd_row v 3 (ofL [(n, d), (m, e), (r, s)]) B w (by decide) hB h (fun i hi => match i, hi with | 0, _ => hd | 1, _ => he | 2, _ => hs) (fun i hi => match i, hi with | 0, _ => ⟨h1, h2⟩ | 1, _ => ⟨h3, h4⟩ | 2, _ => ⟨h5, h6⟩)
end Go.Proofs.Yteikhnmmkanndaa
namespace Go.Proofs.Yteikhnmmkanndaa
open Go.RowKit Go.Proofs.YteikhnmmkanndaaW.PrintWords
set_option linter.unusedSimpArgs false
set_option linter.unusedVariables false
def Frc (w : World) (v : Value) (l m : List Int) : Prop := ∃ A n c B k d, v = .agg #[.slice A n c, .slice B k d] ∧ ByS w (.slice A n c) l ∧ ByS w (.slice B k d) m ∧ l.length = n ∧ m.length = k
theorem Frc.keep {w w' : World} {v : Value} {l m : List Int} (h : Frc w v l m) (k : Keep w w') : Frc w' v l m := by
  obtain ⟨A, n, c, B, p, d, hv, h1, h2, h3⟩ := h
  exact ⟨A, n, c, B, p, d, hv, h1.keep k, h2.keep k, h3⟩
theorem Frc.below {w w' : World} {v : Value} {l m : List Int} (h : Frc w v l m) (hb : Below w.heap.size w w') : Frc w' v l m := h.keep (Keep.of_below hb)
def Kept1.frc (l m : List Int) : Kept1 := ⟨fun v w => Frc w v l m, fun h k => h.keep k⟩
def den1 (y : Nat) : Nat := if y = 0 then 1 else y
theorem den1_pos (y : Nat) : 0 < den1 y := by unfold den1; split <;> omega
theorem den1_wl {k y b : Nat} (hk : 0 < k) (h : wl k y ≤ b) : wl k (den1 y) ≤ b + 1 := by
  unfold den1
  split
  · refine Nat.le_trans ((wl_le hk 1 1).2 ?_) (by omega)
    exact Nat.one_lt_two_pow (by omega)
  · omega
set_option maxRecDepth 100000 in
set_option maxHeartbeats 4000000 in
theorem rtext_of (v : Value) (n d : Nat) (sn sd : ByteArray) (w : World) (ha : F64 w v n d) (t1 : ∀ (u : Value) (W : World), N64 W u n → Calls Try.prog 46 #[u] W fun x w' => x = .returned (.string sn) ∧ Below W.heap.size W w') (t2 : ∀ (u : Value) (W : World), N64 W u d → Calls Try.prog 46 #[u] W fun x w' => x = .returned (.string sd) ∧ Below W.heap.size W w') (z1 : sn.size ≤ 100000) (z2 : sd.size ≤ 100000) : Calls Try.prog 72 #[v] w fun x w' => x = .returned (.string (sn ++ ⟨#[47]⟩ ++ sd)) ∧ Below w.heap.size w w' := by
  have Ha := Lib.hid ha
  obtain ⟨Pa, pa, ca, Qa, qa, ea, xa, rfl, _, _, _⟩ := ha
  have HNU := Lib.hid num_any
  have HDE := Lib.hid den_any
  have HT1 := Lib.hid t1
  have HT2 := Lib.hid t2
  have q1 : ¬ 9223372036854775807 < sn.size + 1 := by omega
  have q2 : ¬ 9223372036854775807 < sn.size + 1 + sd.size := by omega
  clear t1 t2 z1 z2
  have e0 := Blk.new (w) 47 #[(.slice Pa pa ca), (.slice Qa qa ea)]
  have hb := cba (Below.refl _ w) (.cells #[(.slice Pa pa ca), (.slice Qa qa ea)] 47)
  have hsz : w.heap.size ≤ w.heap.size := Nat.le_refl _
  go_enter Try.func72, Try.ntmps72
  go_upto_region 1 with (fail)
  obtain ⟨S, hS⟩ : ∃ S, (w).alloc (.cells #[(.slice Pa pa ca), (.slice Qa qa ea)] 47) = S := ⟨_, rfl⟩
  rw [hS] at e0 hb ⊢
  replace Ha := Lib.hid (Ha.out.below hb)
  have HB0 := Lib.hid hb
  have E0 := Lib.hid e0
  clear hS hb hsz e0
  go_wp2_with fail
  let FS : List Kept1 := [.f (n) (d), .n (n), .eq (.string sn), .eq (.string (sn ++ ⟨#[47]⟩)), .f (n) (d), .n (d), .eq (.string sd), .eq (.string (sn ++ ⟨#[47]⟩ ++ sd)), .eq (.string (sn ++ ⟨#[47]⟩ ++ sd))]
  refine region_mono (Held S (fun j => FS.getD j .any) []) (by kernel_rfl) (by kernel_rfl) (by kernel_rfl) (Held.start _ _ _ (by simp) (by simp)) ?_
  refine Steps.held ?_ ?_
  · intro L v w' hJ
    have kb := hJ.out.blk E0.out (by simp [oldsOf])
    have k0 := kb.cell 0
    have k1 := kb.cell 1
    clear kb
    go_wp2_with fail
    exact ⟨rfl, rfl, hJ.out.same (by rfl) (Ha.out.keep hJ.out.held.keep)⟩
  simp only [Act.put, List.setIfInBounds_toArray, List.set_cons_zero, List.set_cons_succ, Nat.reduceAdd]
  refine Steps.held ?_ ?_
  · intro L v w' hJ
    have X0 := Lib.hid (show F64 w' (v 0) (n) (d) from hJ.out.fact 0 (by kernel_rfl))
    go_wp2_with fail
    with_reducible refine (HNU.out _ _ _ _ X0.out).mono ?_
    rintro e w1 ⟨u, rfl, hu, hb⟩
    go_wp2_with fail
    exact ⟨rfl, rfl, hJ.out.call (by rfl) hb (hu)⟩
  simp only [Act.put, List.setIfInBounds_toArray, List.set_cons_zero, List.set_cons_succ, Nat.reduceAdd]
  refine Steps.held ?_ ?_
  · intro L v w' hJ
    have X0 := Lib.hid (show N64 w' (v 1) (n) from hJ.out.fact 1 (by kernel_rfl))
    go_wp2_with fail
    with_reducible refine (HT1.out _ _ X0.out).mono ?_
    rintro e w1 ⟨rfl, hb⟩
    go_wp2_with fail
    exact ⟨rfl, rfl, hJ.out.call (by rfl) hb (rfl)⟩
  simp only [Act.put, List.setIfInBounds_toArray, List.set_cons_zero, List.set_cons_succ, Nat.reduceAdd]
  refine Steps.held ?_ ?_
  · intro L v w' hJ
    have hv2 : v 2 = .string sn := hJ.out.fact 2 (by kernel_rfl)
    simp only [hv2]
    clear hv2
    go_wp2_with fail
    exact ⟨rfl, rfl, hJ.out.same (by rfl) (rfl)⟩
  simp only [Act.put, List.setIfInBounds_toArray, List.set_cons_zero, List.set_cons_succ, Nat.reduceAdd]
  refine Steps.held ?_ ?_
  · intro L v w' hJ
    have kb := hJ.out.blk E0.out (by simp [oldsOf])
    have k0 := kb.cell 0
    have k1 := kb.cell 1
    clear kb
    go_wp2_with fail
    exact ⟨rfl, rfl, hJ.out.same (by rfl) (Ha.out.keep hJ.out.held.keep)⟩
  simp only [Act.put, List.setIfInBounds_toArray, List.set_cons_zero, List.set_cons_succ, Nat.reduceAdd]
  refine Steps.held ?_ ?_
  · intro L v w' hJ
    have X0 := Lib.hid (show F64 w' (v 4) (n) (d) from hJ.out.fact 4 (by kernel_rfl))
    go_wp2_with fail
    with_reducible refine (HDE.out _ _ _ _ X0.out).mono ?_
    rintro e w1 ⟨u, rfl, hu, hb⟩
    go_wp2_with fail
    exact ⟨rfl, rfl, hJ.out.call (by rfl) hb (hu)⟩
  simp only [Act.put, List.setIfInBounds_toArray, List.set_cons_zero, List.set_cons_succ, Nat.reduceAdd]
  refine Steps.held ?_ ?_
  · intro L v w' hJ
    have X0 := Lib.hid (show N64 w' (v 5) (d) from hJ.out.fact 5 (by kernel_rfl))
    go_wp2_with fail
    with_reducible refine (HT2.out _ _ X0.out).mono ?_
    rintro e w1 ⟨rfl, hb⟩
    go_wp2_with fail
    exact ⟨rfl, rfl, hJ.out.call (by rfl) hb (rfl)⟩
  simp only [Act.put, List.setIfInBounds_toArray, List.set_cons_zero, List.set_cons_succ, Nat.reduceAdd]
  refine Steps.held ?_ ?_
  · intro L v w' hJ
    have hv3 : v 3 = .string (sn ++ ⟨#[47]⟩) := hJ.out.fact 3 (by kernel_rfl)
    simp only [hv3]
    clear hv3
    have hv6 : v 6 = .string sd := hJ.out.fact 6 (by kernel_rfl)
    simp only [hv6]
    clear hv6
    go_wp2_with fail
    exact ⟨rfl, rfl, hJ.out.same (by rfl) (rfl)⟩
  simp only [Act.put, List.setIfInBounds_toArray, List.set_cons_zero, List.set_cons_succ, Nat.reduceAdd]
  refine Steps.held ?_ ?_
  · intro L v w' hJ
    have hv7 : v 7 = .string (sn ++ ⟨#[47]⟩ ++ sd) := hJ.out.fact 7 (by kernel_rfl)
    simp only [hv7]
    clear hv7
    go_wp2_with fail
    exact ⟨rfl, rfl, hJ.out.same (by rfl) (rfl)⟩
  simp only [Act.put, List.setIfInBounds_toArray, List.set_cons_zero, List.set_cons_succ, Nat.reduceAdd]
  refine Steps.nil ?_
  intro v w' hJ
  have h8 : v 8 = .string (sn ++ ⟨#[47]⟩ ++ sd) := hJ.end_fact 8 (by decide)
  have HF := Lib.hid (cbt HB0.out hJ.but.below)
  clear hJ
  simp only [h8]
  clear h8
  go_wp2_with fail
  go_ret
  exact ⟨rfl, HF.out⟩
set_option maxRecDepth 100000 in
set_option maxHeartbeats 4000000 in
theorem to_any (v : Value) (l m : List Int) (w : World) (h : Frc w v l m) (hl : Bys l) (hm : Bys m) (h1 : l.length ≤ 10000) (h2 : m.length ≤ 10000) : Calls Try.prog 36 #[v] w (MkF w (rn (be l) (den1 (be m))) (rd (be l) (den1 (be m)))) := by
  obtain ⟨A, p, c, B, q, d, rfl, hA, hB, hla, hlb⟩ := h
  have HA := Lib.hid hA
  have HBB := Lib.hid hB
  have x64 := be_w64 hl
  have y64 := be_w64 hm
  have HRX := Lib.hid (fun v W h => nread_any v l W h hl (by omega))
  have HRY := Lib.hid (fun v W h => nread_any v m W h hm (by omega))
  obtain ⟨x, hx⟩ : ∃ x, be l = x := ⟨_, rfl⟩
  obtain ⟨y, hy⟩ : ∃ x, be m = x := ⟨_, rfl⟩
  rw [hx] at x64 HRX ⊢
  rw [hy] at y64 HRY ⊢
  have hdw := den1_wl (k := 64) (by decide) y64
  have HOF := Lib.hid (fun va vb W h1 h2 => rofF_any va vb x (den1 y) W h1 h2 (by omega) (by omega) (den1_pos y))
  clear hA hB hla hlb hx hy x64 hdw h1 h2 hl hm
  by_cases hy0 : y = 0
  · have hyy := Lib.hid hy0
    have HZ := Lib.hid (fun v W h => zero_eq v y W h hy0)
    have HON : Hid (∀ W, Calls Try.prog 50 #[.int .u64 1] W (fun e w' => ∃ v, e = .returned v ∧ N64 w' v 1 ∧ Below W.heap.size W w')) := Lib.hid (fun W => of_any 1 (by decide) W)
    have hdy : den1 y = 1 := by unfold den1; rw [if_pos hy0]
    rw [hdy] at HOF ⊢
    clear hy0 hdy y64
    have e0 := (Blk.new (w) 45 #[(.slice A p c), (.slice B q d)]).alloc (.cells #[(.slice none 0 0), (.slice none 0 0)] 47)
    have e1 := Blk.new ((w).alloc (.cells #[(.slice A p c), (.slice B q d)] 45)) 47 #[(.slice none 0 0), (.slice none 0 0)]
    have hb := cba (cba (Below.refl _ w) (.cells #[(.slice A p c), (.slice B q d)] 45)) (.cells #[(.slice none 0 0), (.slice none 0 0)] 47)
    simp only [World.size_alloc] at e1
    have hsz : w.heap.size ≤ w.heap.size := Nat.le_refl _
    go_enter Try.func36, Try.ntmps36
    go_upto_region 1 with (fail)
    obtain ⟨S, hS⟩ : ∃ S, ((w).alloc (.cells #[(.slice A p c), (.slice B q d)] 45)).alloc (.cells #[(.slice none 0 0), (.slice none 0 0)] 47) = S := ⟨_, rfl⟩
    rw [hS] at e0 e1 hb ⊢
    replace HA := Lib.hid (HA.out.below hb)
    replace HBB := Lib.hid (HBB.out.below hb)
    have HB0 := Lib.hid hb
    have E0 := Lib.hid e0
    have E1 := Lib.hid e1
    clear hS hb hsz e0 e1
    have k_E0_0 := E0.out.cell 0
    have k_E0_1 := E0.out.cell 1
    have k_E1_0 := E1.out.cell 0
    have k_E1_1 := E1.out.cell 1
    go_wp2_with fail
    with_reducible refine (HRY.out _ _ HBB.out).mono ?_
    rintro e w1 ⟨u, rfl, hu, hb⟩
    clear k_E0_0 k_E0_1 k_E1_0 k_E1_1
    replace HA := Lib.hid (HA.out.below hb)
    replace HBB := Lib.hid (HBB.out.below hb)
    replace E0 := Lib.hid (blk_below E0.out hb)
    replace E1 := Lib.hid (blk_below E1.out hb)
    replace HB0 := Lib.hid (cbt HB0.out hb)
    have NY := Lib.hid hu
    clear hb hu
    have k_E0_0 := E0.out.cell 0
    have k_E0_1 := E0.out.cell 1
    have k_E1_0 := E1.out.cell 0
    have k_E1_1 := E1.out.cell 1
    have hlt := E1.out.lt
    have Z0 := NY.out
    obtain ⟨PT0, cpT0, rfl, _, _, _⟩ := Z0
    have e3 := Blk.new w1 26 #[.slice PT0 (wl 64 (y)) cpT0]
    have hb := cba (Below.refl _ w1) (.cells #[.slice PT0 (wl 64 (y)) cpT0] 26)
    go_upto_region 2 with (fail)
    obtain ⟨T, hS⟩ : ∃ S, (w1.alloc (.cells #[.slice PT0 (wl 64 (y)) cpT0] 26)) = S := ⟨_, rfl⟩
    rw [hS] at e3 hb ⊢
    obtain ⟨g3, hg⟩ : ∃ g, w1.heap.size = g := ⟨_, rfl⟩
    rw [hg] at e3 hlt
    simp only [hg]
    replace HA := Lib.hid (HA.out.below hb)
    replace HBB := Lib.hid (HBB.out.below hb)
    replace NY := Lib.hid (NY.out.below hb)
    replace E0 := Lib.hid (blk_below E0.out hb)
    replace E1 := Lib.hid (blk_below E1.out hb)
    replace HB0 := Lib.hid (cbt HB0.out hb)
    have E3 := Lib.hid e3
    clear hS hg hb e3 k_E0_0 k_E0_1 k_E1_0 k_E1_1
    have k_E0_0 := E0.out.cell 0
    have k_E0_1 := E0.out.cell 1
    have k_E1_0 := E1.out.cell 0
    have k_E1_1 := E1.out.cell 1
    have k_E3_0 := E3.out.cell 0
    go_wp2_with fail
    with_reducible refine (HZ.out _ _ NY.out).mono ?_
    rintro e w2 ⟨rfl, hb⟩
    clear k_E0_0 k_E0_1 k_E1_0 k_E1_1 k_E3_0
    replace HA := Lib.hid (HA.out.below hb)
    replace HBB := Lib.hid (HBB.out.below hb)
    replace NY := Lib.hid (NY.out.below hb)
    replace E0 := Lib.hid (blk_below E0.out hb)
    replace E1 := Lib.hid (blk_below E1.out hb)
    replace E3 := Lib.hid (blk_below E3.out hb)
    replace HB0 := Lib.hid (cbt HB0.out hb)
    clear hb
    have k_E0_0 := E0.out.cell 0
    have k_E0_1 := E0.out.cell 1
    have k_E1_0 := E1.out.cell 0
    have k_E1_1 := E1.out.cell 1
    have k_E3_0 := E3.out.cell 0
    go_wp2_with fail
    with_reducible refine (HON.out _).mono ?_
    rintro e w3 ⟨u, rfl, hu, hb⟩
    clear k_E0_0 k_E0_1 k_E1_0 k_E1_1 k_E3_0
    replace HA := Lib.hid (HA.out.below hb)
    replace HBB := Lib.hid (HBB.out.below hb)
    replace NY := Lib.hid (NY.out.below hb)
    replace E0 := Lib.hid (blk_below E0.out hb)
    replace E1 := Lib.hid (blk_below E1.out hb)
    replace E3 := Lib.hid (blk_below E3.out hb)
    replace HB0 := Lib.hid (cbt HB0.out hb)
    have N1 := Lib.hid hu
    clear hb hu
    have k_E0_0 := E0.out.cell 0
    have k_E0_1 := E0.out.cell 1
    have k_E1_0 := E1.out.cell 0
    have k_E1_1 := E1.out.cell 1
    have k_E3_0 := E3.out.cell 0
    have Z1 := N1.out
    obtain ⟨P1, c1, rfl, _, _, _⟩ := Z1
    clear k_E0_0 k_E0_1 k_E1_0 k_E1_1 k_E3_0
    have k0 := E3.out.cell 0
    have f0 := E3.out.frozen 0
    go_upto_region 4 with (fail)
    have hk := Keep.set E3.out 0 rfl (.slice P1 (wl 64 1) c1)
    replace HA := Lib.hid (HA.out.keep hk)
    replace HBB := Lib.hid (HBB.out.keep hk)
    replace N1 := Lib.hid (N1.out.keep hk)
    replace E0 := Lib.hid (E0.out.far (p := ⟨g3, 0, none⟩) (by simp only []; omega) (.slice P1 (wl 64 1) c1))
    replace E1 := Lib.hid (E1.out.far (p := ⟨g3, 0, none⟩) (by simp only []; omega) (.slice P1 (wl 64 1) c1))
    replace E3 := Lib.hid (E3.out.set_ 0 (.slice P1 (wl 64 1) c1))
    replace HB0 := Lib.hid (HB0.out.setCell (p := ⟨g3, 0, none⟩) (by simp only []; omega) (.slice P1 (wl 64 1) c1))
    obtain ⟨X, hX⟩ : ∃ X, w3.setCell ⟨g3, 0, none⟩ (.slice P1 (wl 64 1) c1) = X := ⟨_, rfl⟩
    rw [hX] at HA HBB N1 E0 E1 E3 HB0 ⊢
    clear hX hk k0 f0
    let FS : List Kept1 := [.eq (.pointer (some ⟨w.heap.size, 0, none⟩)), .by_ (l), .n (x), .n (1), .two (.f (rn x (1)) (rd x (1))) (.eq (.int .i64 0)), .two (.f (rn x (1)) (rd x (1))) (.eq (.int .i64 0)), .f (rn x (1)) (rd x (1)), .eq (.int .i64 0), .any, .any, .eq (.int .i64 0)]
    let BS : List Bx := [Bx.rat (.inl 8) 9 #[.slice none 0 0, .slice none 0 0] (rn x (1)) (rd x (1))]
    refine region_mono (Held X (fun j => FS.getD j .any) BS) (by kernel_rfl) (by kernel_rfl) (by kernel_rfl) (Held.start _ _ _ (by simp [BS, Bx.nat, Bx.rat, Bx.ref]) (by simp [BS, Bx.nat, Bx.rat, Bx.ref])) ?_
    refine Steps.held ?_ ?_
    · intro L v w' hJ
      go_wp2_with fail
      exact ⟨rfl, rfl, hJ.out.same (by rfl) (rfl)⟩
    simp only [Act.put, List.setIfInBounds_toArray, List.set_cons_zero, List.set_cons_succ, Nat.reduceAdd]
    refine Steps.held ?_ ?_
    · intro L v w' hJ
      have hv0 : v 0 = .pointer (some ⟨w.heap.size, 0, none⟩) := hJ.out.fact 0 (by kernel_rfl)
      simp only [hv0]
      clear hv0
      have kb := hJ.out.blk E0.out (by simp [oldsOf, BS, Bx.nat, Bx.rat, Bx.ref])
      have k0 := kb.cell 0
      have k1 := kb.cell 1
      clear kb
      go_wp2_with fail
      exact ⟨rfl, rfl, hJ.out.same (by rfl) (HA.out.keep hJ.out.held.keep)⟩
    simp only [Act.put, List.setIfInBounds_toArray, List.set_cons_zero, List.set_cons_succ, Nat.reduceAdd]
    refine Steps.held ?_ ?_
    · intro L v w' hJ
      have X0 := Lib.hid (show ByS w' (v 1) (l) from hJ.out.fact 1 (by kernel_rfl))
      go_wp2_with fail
      with_reducible refine (HRX.out _ _ X0.out).mono ?_
      rintro e w1 ⟨u, rfl, hu, hb⟩
      go_wp2_with fail
      exact ⟨rfl, rfl, hJ.out.call (by rfl) hb (hu)⟩
    simp only [Act.put, List.setIfInBounds_toArray, List.set_cons_zero, List.set_cons_succ, Nat.reduceAdd]
    refine Steps.held ?_ ?_
    · intro L v w' hJ
      have kb := hJ.out.blk E3.out (by simp [oldsOf, BS, Bx.nat, Bx.rat, Bx.ref])
      have k0 := kb.cell 0
      clear kb
      go_wp2_with fail
      exact ⟨rfl, rfl, hJ.out.same (by rfl) (N1.out.keep hJ.out.held.keep)⟩
    simp only [Act.put, List.setIfInBounds_toArray, List.set_cons_zero, List.set_cons_succ, Nat.reduceAdd]
    refine Steps.held ?_ ?_
    · intro L v w' hJ
      have X0 := Lib.hid (show N64 w' (v 2) (x) from hJ.out.fact 2 (by kernel_rfl))
      have X1 := Lib.hid (show N64 w' (v 3) (1) from hJ.out.fact 3 (by kernel_rfl))
      go_wp2_with fail
      with_reducible refine (HOF.out _ _ _ X0.out X1.out).mono ?_
      rintro e w1 ⟨u, rfl, hu, hb⟩
      go_wp2_with fail
      exact ⟨rfl, rfl, hJ.out.call (by rfl) hb (⟨_, _, rfl, hu, rfl⟩)⟩
    simp only [Act.put, List.setIfInBounds_toArray, List.set_cons_zero, List.set_cons_succ, Nat.reduceAdd]
    refine Steps.held ?_ ?_
    · intro L v w' hJ
      go_wp2_with fail
      exact ⟨rfl, rfl, hJ.out.same (by rfl) (hJ.out.fact 4 (by kernel_rfl))⟩
    simp only [Act.put, List.setIfInBounds_toArray, List.set_cons_zero, List.set_cons_succ, Nat.reduceAdd]
    refine Steps.held ?_ ?_
    · intro L v w' hJ
      obtain ⟨x0, x1, hv, h0, h1⟩ := hJ.out.fact 5 (by kernel_rfl)
      simp only [hv]
      clear hv
      go_wp2_with fail
      exact ⟨rfl, rfl, hJ.out.same (by rfl) (h0)⟩
    simp only [Act.put, List.setIfInBounds_toArray, List.set_cons_zero, List.set_cons_succ, Nat.reduceAdd]
    refine Steps.held ?_ ?_
    · intro L v w' hJ
      obtain ⟨x0, x1, hv, h0, h1⟩ := hJ.out.fact 5 (by kernel_rfl)
      simp only [hv]
      clear hv
      go_wp2_with fail
      exact ⟨rfl, rfl, hJ.out.same (by rfl) (h1)⟩
    simp only [Act.put, List.setIfInBounds_toArray, List.set_cons_zero, List.set_cons_succ, Nat.reduceAdd]
    refine Steps.held ?_ ?_
    · intro L v w' hJ
      go_wp2_with fail
      exact ⟨rfl, rfl, hJ.out.made 0 _ rfl rfl (by rfl) trivial⟩
    simp only [Act.put, List.setIfInBounds_toArray, List.set_cons_zero, List.set_cons_succ, Nat.reduceAdd]
    refine Steps.held ?_ ?_
    · intro L v w' hJ
      obtain ⟨g, hg, hge, hown, hst⟩ := hJ.out.newbox 0 _ rfl 8 rfl (by kernel_rfl)
      have hN : F64 w' (v 6) (rn x (1)) (rd x (1)) := hJ.out.fact 6 (by kernel_rfl)
      obtain ⟨A1, p1, c1, B1, q1, e1, x1, hv, h1, h2, h3⟩ := hN
      have HN := Lib.hid (show F64 w' (.agg #[.slice A1 p1 c1, .slice B1 q1 e1]) (rn x (1)) (rd x (1)) from ⟨A1, p1, c1, B1, q1, e1, x1, rfl, h1, h2, h3⟩)
      have kb := hJ.out.box 0 _ rfl rfl g hown
      have k0 : w'.cell? ⟨g, 0, none⟩ = some (.slice none 0 0) := kb.cell 0
      have k1 : w'.cell? ⟨g, 1, none⟩ = some (.slice none 0 0) := kb.cell 1
      have f0 := kb.frozen 0
      have f1 := kb.frozen 1
      have HO := Lib.hid hown
      have HS := Lib.hid hst
      clear kb h1 h2 h3 hown hst
      simp only [hg, hv]
      clear hg hv
      go_wp2_with fail
      exact ⟨rfl, rfl, hJ.out.fill2 0 _ rfl rfl (by rfl) g HO.out HS.out _ _ rfl rfl rfl (fun W k => HN.out.keep k) (fun _ => trivial)⟩
    simp only [Act.put, List.setIfInBounds_toArray, List.set_cons_zero, List.set_cons_succ, Nat.reduceAdd]
    refine Steps.held ?_ ?_
    · intro L v w' hJ
      have hv7 : v 7 = .int .i64 0 := hJ.out.fact 7 (by kernel_rfl)
      simp only [hv7]
      clear hv7
      go_wp2_with fail
      exact ⟨rfl, rfl, hJ.out.same (by rfl) (rfl)⟩
    simp only [Act.put, List.setIfInBounds_toArray, List.set_cons_zero, List.set_cons_succ, Nat.reduceAdd]
    refine Steps.nil ?_
    intro v w' hJ
    obtain ⟨g4, cs4, hv8, hge8, hb8, hf8⟩ := hJ.end_new 0 _ rfl 8 rfl (by decide) (Nat.le_of_ble_eq_true rfl)
    have hf' : F64 w' (.agg cs4) (rn x (1)) (rd x (1)) := hf8
    obtain ⟨A1, p1, c1', B1, q1, e1, x1, hcs, h1, h2, h3⟩ := hf'
    have hcs' := Value.agg.inj hcs
    subst hcs'
    have NF := Lib.hid (show F64 w' (.agg #[.slice A1 p1 c1', .slice B1 q1 e1]) (rn x (1)) (rd x (1)) from hf8)
    simp only [hv8]
    have hbr := hJ.but.below
    replace E1 := Lib.hid (blk_below E1.out hbr)
    replace HB0 := Lib.hid (cbt HB0.out hbr)
    have k40 := hb8.cell 0
    have k41 := hb8.cell 1
    have k10 := E1.out.cell 0
    have k11 := E1.out.cell 1
    have f0 := E1.out.frozen 0
    have f1 := E1.out.frozen 1
    have HX := Lib.hid (show MkF w (rn x (1)) (rd x (1)) (.returned (.agg #[.slice A1 p1 c1', .slice B1 q1 e1])) ((w'.setCell ⟨w.heap.size + 1, 0, none⟩ (.slice A1 p1 c1')).setCell ⟨w.heap.size + 1, 1, none⟩ (.slice B1 q1 e1)) from
      ⟨_, rfl, (NF.out.keep (Keep.set E1.out 0 rfl _)).keep (Keep.set (E1.out.set_ 0 _) 1 rfl _), (HB0.out.setCell (p := ⟨w.heap.size + 1, 0, none⟩) (by simp only []; omega) _).setCell (p := ⟨w.heap.size + 1, 1, none⟩) (by simp only []; omega) _⟩)
    clear hJ hbr hf8 hb8 h1 h2 hcs hv8
    go_wp2
    exact bodyPost_ret (v := .agg #[.slice A1 p1 c1', .slice B1 q1 e1]) (by simp [results, Try.results36, go_sem, k10, k11]) rfl HX.out
  · have hyy := Lib.hid hy0
    have HZ := Lib.hid (fun v W h => zero_no v y W h (Nat.pos_of_ne_zero hy0))
    have hdy : den1 y = y := by unfold den1; rw [if_neg hy0]
    rw [hdy] at HOF ⊢
    clear hy0 hdy y64
    have e0 := (Blk.new (w) 45 #[(.slice A p c), (.slice B q d)]).alloc (.cells #[(.slice none 0 0), (.slice none 0 0)] 47)
    have e1 := Blk.new ((w).alloc (.cells #[(.slice A p c), (.slice B q d)] 45)) 47 #[(.slice none 0 0), (.slice none 0 0)]
    have hb := cba (cba (Below.refl _ w) (.cells #[(.slice A p c), (.slice B q d)] 45)) (.cells #[(.slice none 0 0), (.slice none 0 0)] 47)
    simp only [World.size_alloc] at e1
    have hsz : w.heap.size ≤ w.heap.size := Nat.le_refl _
    go_enter Try.func36, Try.ntmps36
    go_upto_region 1 with (fail)
    obtain ⟨S, hS⟩ : ∃ S, ((w).alloc (.cells #[(.slice A p c), (.slice B q d)] 45)).alloc (.cells #[(.slice none 0 0), (.slice none 0 0)] 47) = S := ⟨_, rfl⟩
    rw [hS] at e0 e1 hb ⊢
    replace HA := Lib.hid (HA.out.below hb)
    replace HBB := Lib.hid (HBB.out.below hb)
    have HB0 := Lib.hid hb
    have E0 := Lib.hid e0
    have E1 := Lib.hid e1
    clear hS hb hsz e0 e1
    have k_E0_0 := E0.out.cell 0
    have k_E0_1 := E0.out.cell 1
    have k_E1_0 := E1.out.cell 0
    have k_E1_1 := E1.out.cell 1
    go_wp2_with fail
    with_reducible refine (HRY.out _ _ HBB.out).mono ?_
    rintro e w1 ⟨u, rfl, hu, hb⟩
    clear k_E0_0 k_E0_1 k_E1_0 k_E1_1
    replace HA := Lib.hid (HA.out.below hb)
    replace HBB := Lib.hid (HBB.out.below hb)
    replace E0 := Lib.hid (blk_below E0.out hb)
    replace E1 := Lib.hid (blk_below E1.out hb)
    replace HB0 := Lib.hid (cbt HB0.out hb)
    have NY := Lib.hid hu
    clear hb hu
    have k_E0_0 := E0.out.cell 0
    have k_E0_1 := E0.out.cell 1
    have k_E1_0 := E1.out.cell 0
    have k_E1_1 := E1.out.cell 1
    have hlt := E1.out.lt
    have Z0 := NY.out
    obtain ⟨PT0, cpT0, rfl, _, _, _⟩ := Z0
    have e3 := Blk.new w1 26 #[.slice PT0 (wl 64 (y)) cpT0]
    have hb := cba (Below.refl _ w1) (.cells #[.slice PT0 (wl 64 (y)) cpT0] 26)
    go_upto_region 2 with (fail)
    obtain ⟨T, hS⟩ : ∃ S, (w1.alloc (.cells #[.slice PT0 (wl 64 (y)) cpT0] 26)) = S := ⟨_, rfl⟩
    rw [hS] at e3 hb ⊢
    obtain ⟨g3, hg⟩ : ∃ g, w1.heap.size = g := ⟨_, rfl⟩
    rw [hg] at e3 hlt
    simp only [hg]
    replace HA := Lib.hid (HA.out.below hb)
    replace HBB := Lib.hid (HBB.out.below hb)
    replace NY := Lib.hid (NY.out.below hb)
    replace E0 := Lib.hid (blk_below E0.out hb)
    replace E1 := Lib.hid (blk_below E1.out hb)
    replace HB0 := Lib.hid (cbt HB0.out hb)
    have E3 := Lib.hid e3
    clear hS hg hb e3 k_E0_0 k_E0_1 k_E1_0 k_E1_1
    have k_E0_0 := E0.out.cell 0
    have k_E0_1 := E0.out.cell 1
    have k_E1_0 := E1.out.cell 0
    have k_E1_1 := E1.out.cell 1
    have k_E3_0 := E3.out.cell 0
    go_wp2_with fail
    with_reducible refine (HZ.out _ _ NY.out).mono ?_
    rintro e w2 ⟨rfl, hb⟩
    clear k_E0_0 k_E0_1 k_E1_0 k_E1_1 k_E3_0
    replace HA := Lib.hid (HA.out.below hb)
    replace HBB := Lib.hid (HBB.out.below hb)
    replace NY := Lib.hid (NY.out.below hb)
    replace E0 := Lib.hid (blk_below E0.out hb)
    replace E1 := Lib.hid (blk_below E1.out hb)
    replace E3 := Lib.hid (blk_below E3.out hb)
    replace HB0 := Lib.hid (cbt HB0.out hb)
    clear hb
    have k_E0_0 := E0.out.cell 0
    have k_E0_1 := E0.out.cell 1
    have k_E1_0 := E1.out.cell 0
    have k_E1_1 := E1.out.cell 1
    have k_E3_0 := E3.out.cell 0
    go_wp2_with fail
    clear k_E0_0 k_E0_1 k_E1_0 k_E1_1 k_E3_0
    let FS : List Kept1 := [.eq (.pointer (some ⟨w.heap.size, 0, none⟩)), .by_ (l), .n (x), .n (y), .two (.f (rn x (y)) (rd x (y))) (.eq (.int .i64 0)), .two (.f (rn x (y)) (rd x (y))) (.eq (.int .i64 0)), .f (rn x (y)) (rd x (y)), .eq (.int .i64 0), .any, .any, .eq (.int .i64 0)]
    let BS : List Bx := [Bx.rat (.inl 8) 9 #[.slice none 0 0, .slice none 0 0] (rn x (y)) (rd x (y))]
    refine region_mono (Held w2 (fun j => FS.getD j .any) BS) (by kernel_rfl) (by kernel_rfl) (by kernel_rfl) (Held.start _ _ _ (by simp [BS, Bx.nat, Bx.rat, Bx.ref]) (by simp [BS, Bx.nat, Bx.rat, Bx.ref])) ?_
    refine Steps.held ?_ ?_
    · intro L v w' hJ
      go_wp2_with fail
      exact ⟨rfl, rfl, hJ.out.same (by rfl) (rfl)⟩
    simp only [Act.put, List.setIfInBounds_toArray, List.set_cons_zero, List.set_cons_succ, Nat.reduceAdd]
    refine Steps.held ?_ ?_
    · intro L v w' hJ
      have hv0 : v 0 = .pointer (some ⟨w.heap.size, 0, none⟩) := hJ.out.fact 0 (by kernel_rfl)
      simp only [hv0]
      clear hv0
      have kb := hJ.out.blk E0.out (by simp [oldsOf, BS, Bx.nat, Bx.rat, Bx.ref])
      have k0 := kb.cell 0
      have k1 := kb.cell 1
      clear kb
      go_wp2_with fail
      exact ⟨rfl, rfl, hJ.out.same (by rfl) (HA.out.keep hJ.out.held.keep)⟩
    simp only [Act.put, List.setIfInBounds_toArray, List.set_cons_zero, List.set_cons_succ, Nat.reduceAdd]
    refine Steps.held ?_ ?_
    · intro L v w' hJ
      have X0 := Lib.hid (show ByS w' (v 1) (l) from hJ.out.fact 1 (by kernel_rfl))
      go_wp2_with fail
      with_reducible refine (HRX.out _ _ X0.out).mono ?_
      rintro e w1 ⟨u, rfl, hu, hb⟩
      go_wp2_with fail
      exact ⟨rfl, rfl, hJ.out.call (by rfl) hb (hu)⟩
    simp only [Act.put, List.setIfInBounds_toArray, List.set_cons_zero, List.set_cons_succ, Nat.reduceAdd]
    refine Steps.held ?_ ?_
    · intro L v w' hJ
      have kb := hJ.out.blk E3.out (by simp [oldsOf, BS, Bx.nat, Bx.rat, Bx.ref])
      have k0 := kb.cell 0
      clear kb
      go_wp2_with fail
      exact ⟨rfl, rfl, hJ.out.same (by rfl) (NY.out.keep hJ.out.held.keep)⟩
    simp only [Act.put, List.setIfInBounds_toArray, List.set_cons_zero, List.set_cons_succ, Nat.reduceAdd]
    refine Steps.held ?_ ?_
    · intro L v w' hJ
      have X0 := Lib.hid (show N64 w' (v 2) (x) from hJ.out.fact 2 (by kernel_rfl))
      have X1 := Lib.hid (show N64 w' (v 3) (y) from hJ.out.fact 3 (by kernel_rfl))
      go_wp2_with fail
      with_reducible refine (HOF.out _ _ _ X0.out X1.out).mono ?_
      rintro e w1 ⟨u, rfl, hu, hb⟩
      go_wp2_with fail
      exact ⟨rfl, rfl, hJ.out.call (by rfl) hb (⟨_, _, rfl, hu, rfl⟩)⟩
    simp only [Act.put, List.setIfInBounds_toArray, List.set_cons_zero, List.set_cons_succ, Nat.reduceAdd]
    refine Steps.held ?_ ?_
    · intro L v w' hJ
      go_wp2_with fail
      exact ⟨rfl, rfl, hJ.out.same (by rfl) (hJ.out.fact 4 (by kernel_rfl))⟩
    simp only [Act.put, List.setIfInBounds_toArray, List.set_cons_zero, List.set_cons_succ, Nat.reduceAdd]
    refine Steps.held ?_ ?_
    · intro L v w' hJ
      obtain ⟨x0, x1, hv, h0, h1⟩ := hJ.out.fact 5 (by kernel_rfl)
      simp only [hv]
      clear hv
      go_wp2_with fail
      exact ⟨rfl, rfl, hJ.out.same (by rfl) (h0)⟩
    simp only [Act.put, List.setIfInBounds_toArray, List.set_cons_zero, List.set_cons_succ, Nat.reduceAdd]
    refine Steps.held ?_ ?_
    · intro L v w' hJ
      obtain ⟨x0, x1, hv, h0, h1⟩ := hJ.out.fact 5 (by kernel_rfl)
      simp only [hv]
      clear hv
      go_wp2_with fail
      exact ⟨rfl, rfl, hJ.out.same (by rfl) (h1)⟩
    simp only [Act.put, List.setIfInBounds_toArray, List.set_cons_zero, List.set_cons_succ, Nat.reduceAdd]
    refine Steps.held ?_ ?_
    · intro L v w' hJ
      go_wp2_with fail
      exact ⟨rfl, rfl, hJ.out.made 0 _ rfl rfl (by rfl) trivial⟩
    simp only [Act.put, List.setIfInBounds_toArray, List.set_cons_zero, List.set_cons_succ, Nat.reduceAdd]
    refine Steps.held ?_ ?_
    · intro L v w' hJ
      obtain ⟨g, hg, hge, hown, hst⟩ := hJ.out.newbox 0 _ rfl 8 rfl (by kernel_rfl)
      have hN : F64 w' (v 6) (rn x (y)) (rd x (y)) := hJ.out.fact 6 (by kernel_rfl)
      obtain ⟨A1, p1, c1, B1, q1, e1, x1, hv, h1, h2, h3⟩ := hN
      have HN := Lib.hid (show F64 w' (.agg #[.slice A1 p1 c1, .slice B1 q1 e1]) (rn x (y)) (rd x (y)) from ⟨A1, p1, c1, B1, q1, e1, x1, rfl, h1, h2, h3⟩)
      have kb := hJ.out.box 0 _ rfl rfl g hown
      have k0 : w'.cell? ⟨g, 0, none⟩ = some (.slice none 0 0) := kb.cell 0
      have k1 : w'.cell? ⟨g, 1, none⟩ = some (.slice none 0 0) := kb.cell 1
      have f0 := kb.frozen 0
      have f1 := kb.frozen 1
      have HO := Lib.hid hown
      have HS := Lib.hid hst
      clear kb h1 h2 h3 hown hst
      simp only [hg, hv]
      clear hg hv
      go_wp2_with fail
      exact ⟨rfl, rfl, hJ.out.fill2 0 _ rfl rfl (by rfl) g HO.out HS.out _ _ rfl rfl rfl (fun W k => HN.out.keep k) (fun _ => trivial)⟩
    simp only [Act.put, List.setIfInBounds_toArray, List.set_cons_zero, List.set_cons_succ, Nat.reduceAdd]
    refine Steps.held ?_ ?_
    · intro L v w' hJ
      have hv7 : v 7 = .int .i64 0 := hJ.out.fact 7 (by kernel_rfl)
      simp only [hv7]
      clear hv7
      go_wp2_with fail
      exact ⟨rfl, rfl, hJ.out.same (by rfl) (rfl)⟩
    simp only [Act.put, List.setIfInBounds_toArray, List.set_cons_zero, List.set_cons_succ, Nat.reduceAdd]
    refine Steps.nil ?_
    intro v w' hJ
    obtain ⟨g4, cs4, hv8, hge8, hb8, hf8⟩ := hJ.end_new 0 _ rfl 8 rfl (by decide) (Nat.le_of_ble_eq_true rfl)
    have hf' : F64 w' (.agg cs4) (rn x (y)) (rd x (y)) := hf8
    obtain ⟨A1, p1, c1', B1, q1, e1, x1, hcs, h1, h2, h3⟩ := hf'
    have hcs' := Value.agg.inj hcs
    subst hcs'
    have NF := Lib.hid (show F64 w' (.agg #[.slice A1 p1 c1', .slice B1 q1 e1]) (rn x (y)) (rd x (y)) from hf8)
    simp only [hv8]
    have hbr := hJ.but.below
    replace E1 := Lib.hid (blk_below E1.out hbr)
    replace HB0 := Lib.hid (cbt HB0.out hbr)
    have k40 := hb8.cell 0
    have k41 := hb8.cell 1
    have k10 := E1.out.cell 0
    have k11 := E1.out.cell 1
    have f0 := E1.out.frozen 0
    have f1 := E1.out.frozen 1
    have HX := Lib.hid (show MkF w (rn x (y)) (rd x (y)) (.returned (.agg #[.slice A1 p1 c1', .slice B1 q1 e1])) ((w'.setCell ⟨w.heap.size + 1, 0, none⟩ (.slice A1 p1 c1')).setCell ⟨w.heap.size + 1, 1, none⟩ (.slice B1 q1 e1)) from
      ⟨_, rfl, (NF.out.keep (Keep.set E1.out 0 rfl _)).keep (Keep.set (E1.out.set_ 0 _) 1 rfl _), (HB0.out.setCell (p := ⟨w.heap.size + 1, 0, none⟩) (by simp only []; omega) _).setCell (p := ⟨w.heap.size + 1, 1, none⟩) (by simp only []; omega) _⟩)
    clear hJ hbr hf8 hb8 h1 h2 hcs hv8
    go_wp2
    exact bodyPost_ret (v := .agg #[.slice A1 p1 c1', .slice B1 q1 e1]) (by simp [results, Try.results36, go_sem, k10, k11]) rfl HX.out
set_option maxRecDepth 100000 in
set_option maxHeartbeats 4000000 in
theorem ref_any (v : Value) (l m : List Int) (w : World) (h : Frc w v l m) (hl : Bys l) (hm : Bys m) (h1 : l.length ≤ 10000) (h2 : m.length ≤ 10000) : Calls Try.prog 38 #[v] w (MkR w (rn (be l) (den1 (be m))) (rd (be l) (den1 (be m)))) := by
  obtain ⟨A, p, c, B, q, d, rfl, hA, hB, hla, hlb⟩ := h
  have HA := Lib.hid hA
  have HBB := Lib.hid hB
  have x8 := be_wl hl
  have y8 := be_wl hm
  have HRX := Lib.hid (fun v W h => rof_any v l W h hl (by omega))
  have HRY := Lib.hid (fun v W h => rof_any v m W h hm (by omega))
  obtain ⟨x, hx⟩ : ∃ x, be l = x := ⟨_, rfl⟩
  obtain ⟨y, hy⟩ : ∃ x, be m = x := ⟨_, rfl⟩
  rw [hx] at x8 HRX ⊢
  rw [hy] at y8 HRY ⊢
  have hdw := den1_wl (k := 8) (by decide) y8
  have HOF := Lib.hid (fun va vb W h1 h2 => xof_any va vb x (den1 y) W h1 h2 (by omega) (by omega) (den1_pos y))
  clear hA hB hla hlb hx hy x8 hdw h1 h2 hl hm
  by_cases hy0 : y = 0
  · have hdy : den1 y = 1 := by unfold den1; rw [if_pos hy0]
    have hwy : wl 8 y = 0 := (wl_eq_zero (by decide)).2 hy0
    rw [hdy] at HOF ⊢
    clear hdy y8 hy0
    have e0 := (Blk.new (w) 45 #[(.slice A p c), (.slice B q d)]).alloc (.cells #[(.slice none 0 0), (.slice none 0 0)] 52)
    have e1 := Blk.new ((w).alloc (.cells #[(.slice A p c), (.slice B q d)] 45)) 52 #[(.slice none 0 0), (.slice none 0 0)]
    have hb := cba (cba (Below.refl _ w) (.cells #[(.slice A p c), (.slice B q d)] 45)) (.cells #[(.slice none 0 0), (.slice none 0 0)] 52)
    simp only [World.size_alloc] at e1
    have hsz : w.heap.size ≤ w.heap.size := Nat.le_refl _
    go_enter Try.func38, Try.ntmps38
    go_upto_region 1 with (fail)
    obtain ⟨S, hS⟩ : ∃ S, ((w).alloc (.cells #[(.slice A p c), (.slice B q d)] 45)).alloc (.cells #[(.slice none 0 0), (.slice none 0 0)] 52) = S := ⟨_, rfl⟩
    rw [hS] at e0 e1 hb ⊢
    replace HA := Lib.hid (HA.out.below hb)
    replace HBB := Lib.hid (HBB.out.below hb)
    have HB0 := Lib.hid hb
    have E0 := Lib.hid e0
    have E1 := Lib.hid e1
    clear hS hb hsz e0 e1
    have k_E0_0 := E0.out.cell 0
    have k_E0_1 := E0.out.cell 1
    have k_E1_0 := E1.out.cell 0
    have k_E1_1 := E1.out.cell 1
    go_wp2_with fail
    with_reducible refine (HRY.out _ _ HBB.out).mono ?_
    rintro e w1 ⟨u, rfl, hu, hb⟩
    clear k_E0_0 k_E0_1 k_E1_0 k_E1_1
    replace HA := Lib.hid (HA.out.below hb)
    replace HBB := Lib.hid (HBB.out.below hb)
    replace E0 := Lib.hid (blk_below E0.out hb)
    replace E1 := Lib.hid (blk_below E1.out hb)
    replace HB0 := Lib.hid (cbt HB0.out hb)
    have NY := Lib.hid hu
    clear hb hu
    have k_E0_0 := E0.out.cell 0
    have k_E0_1 := E0.out.cell 1
    have k_E1_0 := E1.out.cell 0
    have k_E1_1 := E1.out.cell 1
    have ZY := NY.out
    obtain ⟨P, cp, rfl, _, _⟩ := ZY
    have hlen := len_R256 NY.out
    obtain ⟨ly, hly⟩ : ∃ k, (cs 8 y).length = k := ⟨_, rfl⟩
    rw [hly] at NY hlen ⊢
    have hd1 : ((ly : Int) == 0) = true := beq_iff_eq.2 (by omega)
    clear hly hlen hwy
    go_upto_region 4 with (fail)
    have b3 := Blk.new w1 3 #[.int .i64 1]
    have hb := cba (Below.refl _ w1) (.cells #[.int .i64 1] 3)
    obtain ⟨X, hX⟩ : ∃ X, w1.alloc (.cells #[.int .i64 1] 3) = X := ⟨_, rfl⟩
    rw [hX] at b3 hb ⊢
    have ND := Lib.hid (R256.one b3)
    replace HA := Lib.hid (HA.out.below hb)
    replace E0 := Lib.hid (blk_below E0.out hb)
    replace E1 := Lib.hid (blk_below E1.out hb)
    replace HB0 := Lib.hid (cbt HB0.out hb)
    clear hX b3 hb k_E0_0 k_E0_1 k_E1_0 k_E1_1
    have k_E0_0 := E0.out.cell 0
    have k_E0_1 := E0.out.cell 1
    have k_E1_0 := E1.out.cell 0
    have k_E1_1 := E1.out.cell 1
    go_wp2_with fail
    with_reducible refine (HRX.out _ _ HA.out).mono ?_
    rintro e w3 ⟨u, rfl, hu, hb⟩
    clear k_E0_0 k_E0_1 k_E1_0 k_E1_1
    replace HA := Lib.hid (HA.out.below hb)
    replace ND := Lib.hid (ND.out.below hb)
    replace E0 := Lib.hid (blk_below E0.out hb)
    replace E1 := Lib.hid (blk_below E1.out hb)
    replace HB0 := Lib.hid (cbt HB0.out hb)
    have NX := Lib.hid hu
    clear hb hu
    have k_E0_0 := E0.out.cell 0
    have k_E0_1 := E0.out.cell 1
    have k_E1_0 := E1.out.cell 0
    have k_E1_1 := E1.out.cell 1
    go_wp2_with fail
    with_reducible refine (HOF.out _ _ _ NX.out ND.out).mono ?_
    rintro e w4 ⟨u, rfl, hu, hb⟩
    clear k_E0_0 k_E0_1 k_E1_0 k_E1_1
    replace HA := Lib.hid (HA.out.below hb)
    replace ND := Lib.hid (ND.out.below hb)
    replace NX := Lib.hid (NX.out.below hb)
    replace E0 := Lib.hid (blk_below E0.out hb)
    replace E1 := Lib.hid (blk_below E1.out hb)
    replace HB0 := Lib.hid (cbt HB0.out hb)
    have NR := Lib.hid hu
    clear hb hu
    have k_E0_0 := E0.out.cell 0
    have k_E0_1 := E0.out.cell 1
    have k_E1_0 := E1.out.cell 0
    have k_E1_1 := E1.out.cell 1
    have ZR := NR.out
    obtain ⟨A1, p1, c1, B1, q1, e1, rfl, _, _⟩ := ZR
    have f0 := E1.out.frozen 0
    have f1 := E1.out.frozen 1
    have HX := Lib.hid (show MkR w (rn x (1)) (rd x (1)) (.returned (.agg #[.slice A1 p1 c1, .slice B1 q1 e1])) ((w4.setCell ⟨w.heap.size + 1, 0, none⟩ (.slice A1 p1 c1)).setCell ⟨w.heap.size + 1, 1, none⟩ (.slice B1 q1 e1)) from
      ⟨_, rfl, (NR.out.keep (Keep.set E1.out 0 rfl _)).keep (Keep.set (E1.out.set_ 0 _) 1 rfl _), (HB0.out.setCell (p := ⟨w.heap.size + 1, 0, none⟩) (by simp only []; omega) _).setCell (p := ⟨w.heap.size + 1, 1, none⟩) (by simp only []; omega) _⟩)
    go_wp2
    exact bodyPost_ret (v := .agg #[.slice A1 p1 c1, .slice B1 q1 e1]) (by simp [results, Try.results38, go_sem, k_E1_0, k_E1_1]) rfl HX.out
  · have hdy : den1 y = y := by unfold den1; rw [if_neg hy0]
    have hwy : wl 8 y ≠ 0 := fun h => hy0 ((wl_eq_zero (by decide)).1 h)
    rw [hdy] at HOF ⊢
    clear hdy y8 hy0
    have e0 := (Blk.new (w) 45 #[(.slice A p c), (.slice B q d)]).alloc (.cells #[(.slice none 0 0), (.slice none 0 0)] 52)
    have e1 := Blk.new ((w).alloc (.cells #[(.slice A p c), (.slice B q d)] 45)) 52 #[(.slice none 0 0), (.slice none 0 0)]
    have hb := cba (cba (Below.refl _ w) (.cells #[(.slice A p c), (.slice B q d)] 45)) (.cells #[(.slice none 0 0), (.slice none 0 0)] 52)
    simp only [World.size_alloc] at e1
    have hsz : w.heap.size ≤ w.heap.size := Nat.le_refl _
    go_enter Try.func38, Try.ntmps38
    go_upto_region 1 with (fail)
    obtain ⟨S, hS⟩ : ∃ S, ((w).alloc (.cells #[(.slice A p c), (.slice B q d)] 45)).alloc (.cells #[(.slice none 0 0), (.slice none 0 0)] 52) = S := ⟨_, rfl⟩
    rw [hS] at e0 e1 hb ⊢
    replace HA := Lib.hid (HA.out.below hb)
    replace HBB := Lib.hid (HBB.out.below hb)
    have HB0 := Lib.hid hb
    have E0 := Lib.hid e0
    have E1 := Lib.hid e1
    clear hS hb hsz e0 e1
    have k_E0_0 := E0.out.cell 0
    have k_E0_1 := E0.out.cell 1
    have k_E1_0 := E1.out.cell 0
    have k_E1_1 := E1.out.cell 1
    go_wp2_with fail
    with_reducible refine (HRY.out _ _ HBB.out).mono ?_
    rintro e w1 ⟨u, rfl, hu, hb⟩
    clear k_E0_0 k_E0_1 k_E1_0 k_E1_1
    replace HA := Lib.hid (HA.out.below hb)
    replace HBB := Lib.hid (HBB.out.below hb)
    replace E0 := Lib.hid (blk_below E0.out hb)
    replace E1 := Lib.hid (blk_below E1.out hb)
    replace HB0 := Lib.hid (cbt HB0.out hb)
    have NY := Lib.hid hu
    clear hb hu
    have k_E0_0 := E0.out.cell 0
    have k_E0_1 := E0.out.cell 1
    have k_E1_0 := E1.out.cell 0
    have k_E1_1 := E1.out.cell 1
    have ZY := NY.out
    obtain ⟨P, cp, rfl, _, _⟩ := ZY
    have hlen := len_R256 NY.out
    obtain ⟨ly, hly⟩ : ∃ k, (cs 8 y).length = k := ⟨_, rfl⟩
    rw [hly] at NY hlen ⊢
    have hd1 : ((ly : Int) == 0) = false := beq_eq_false_iff_ne.2 (by omega)
    clear hly hlen hwy
    have ND := NY
    go_wp2_with fail
    with_reducible refine (HRX.out _ _ HA.out).mono ?_
    rintro e w3 ⟨u, rfl, hu, hb⟩
    clear k_E0_0 k_E0_1 k_E1_0 k_E1_1
    replace HA := Lib.hid (HA.out.below hb)
    replace ND := Lib.hid (ND.out.below hb)
    replace E0 := Lib.hid (blk_below E0.out hb)
    replace E1 := Lib.hid (blk_below E1.out hb)
    replace HB0 := Lib.hid (cbt HB0.out hb)
    have NX := Lib.hid hu
    clear hb hu
    have k_E0_0 := E0.out.cell 0
    have k_E0_1 := E0.out.cell 1
    have k_E1_0 := E1.out.cell 0
    have k_E1_1 := E1.out.cell 1
    go_wp2_with fail
    with_reducible refine (HOF.out _ _ _ NX.out ND.out).mono ?_
    rintro e w4 ⟨u, rfl, hu, hb⟩
    clear k_E0_0 k_E0_1 k_E1_0 k_E1_1
    replace HA := Lib.hid (HA.out.below hb)
    replace ND := Lib.hid (ND.out.below hb)
    replace NX := Lib.hid (NX.out.below hb)
    replace E0 := Lib.hid (blk_below E0.out hb)
    replace E1 := Lib.hid (blk_below E1.out hb)
    replace HB0 := Lib.hid (cbt HB0.out hb)
    have NR := Lib.hid hu
    clear hb hu
    have k_E0_0 := E0.out.cell 0
    have k_E0_1 := E0.out.cell 1
    have k_E1_0 := E1.out.cell 0
    have k_E1_1 := E1.out.cell 1
    have ZR := NR.out
    obtain ⟨A1, p1, c1, B1, q1, e1, rfl, _, _⟩ := ZR
    have f0 := E1.out.frozen 0
    have f1 := E1.out.frozen 1
    have HX := Lib.hid (show MkR w (rn x (y)) (rd x (y)) (.returned (.agg #[.slice A1 p1 c1, .slice B1 q1 e1])) ((w4.setCell ⟨w.heap.size + 1, 0, none⟩ (.slice A1 p1 c1)).setCell ⟨w.heap.size + 1, 1, none⟩ (.slice B1 q1 e1)) from
      ⟨_, rfl, (NR.out.keep (Keep.set E1.out 0 rfl _)).keep (Keep.set (E1.out.set_ 0 _) 1 rfl _), (HB0.out.setCell (p := ⟨w.heap.size + 1, 0, none⟩) (by simp only []; omega) _).setCell (p := ⟨w.heap.size + 1, 1, none⟩) (by simp only []; omega) _⟩)
    go_wp2
    exact bodyPost_ret (v := .agg #[.slice A1 p1 c1, .slice B1 q1 e1]) (by simp [results, Try.results38, go_sem, k_E1_0, k_E1_1]) rfl HX.out
set_option maxRecDepth 100000 in
set_option maxHeartbeats 4000000 in
theorem small_any (v : Value) (l m : List Int) (k : Nat) (w : World) (h : Frc w v l m) : Calls Try.prog 64 #[v, .int .i64 (k : Nat)] w fun x w' => x = .returned (.bool (decide (l.length ≤ k) && decide (m.length ≤ k))) ∧ Below w.heap.size w w' := by
  obtain ⟨A, p, c, B, q, d, rfl, hA, hB, hla, hlb⟩ := h
  rw [hla, hlb]
  clear hla hlb hA hB
  by_cases h1 : p ≤ k
  · by_cases h2 : q ≤ k
    · have ea : decide (p ≤ k) = true := decide_eq_true (by omega)
      have eb : decide (q ≤ k) = true := decide_eq_true (by omega)
      rw [ea, eb]
      clear h1 h2
      have e0 := Blk.new (w) 45 #[(.slice A p c), (.slice B q d)]
      have hb := cba (Below.refl _ w) (.cells #[(.slice A p c), (.slice B q d)] 45)
      have hsz : w.heap.size ≤ w.heap.size := Nat.le_refl _
      go_enter Try.func64, Try.ntmps64
      go_upto_region 1 with (fail)
      obtain ⟨S, hS⟩ : ∃ S, (w).alloc (.cells #[(.slice A p c), (.slice B q d)] 45) = S := ⟨_, rfl⟩
      rw [hS] at e0 hb ⊢
      have HB0 := Lib.hid hb
      have E0 := Lib.hid e0
      clear hS hb hsz e0
      have k0 := E0.out.cell 0
      have k1 := E0.out.cell 1
      go_wp2_with fail
      go_ret
      exact ⟨rfl, HB0.out⟩
    · have ea : decide (p ≤ k) = true := decide_eq_true (by omega)
      have eb : decide (q ≤ k) = false := decide_eq_false (by omega)
      rw [ea, eb]
      clear h1 h2
      have e0 := Blk.new (w) 45 #[(.slice A p c), (.slice B q d)]
      have hb := cba (Below.refl _ w) (.cells #[(.slice A p c), (.slice B q d)] 45)
      have hsz : w.heap.size ≤ w.heap.size := Nat.le_refl _
      go_enter Try.func64, Try.ntmps64
      go_upto_region 1 with (fail)
      obtain ⟨S, hS⟩ : ∃ S, (w).alloc (.cells #[(.slice A p c), (.slice B q d)] 45) = S := ⟨_, rfl⟩
      rw [hS] at e0 hb ⊢
      have HB0 := Lib.hid hb
      have E0 := Lib.hid e0
      clear hS hb hsz e0
      have k0 := E0.out.cell 0
      have k1 := E0.out.cell 1
      go_wp2_with fail
      go_ret
      exact ⟨rfl, HB0.out⟩
  · have ea : decide (p ≤ k) = false := decide_eq_false (by omega)
    rw [ea]
    clear h1
    have e0 := Blk.new (w) 45 #[(.slice A p c), (.slice B q d)]
    have hb := cba (Below.refl _ w) (.cells #[(.slice A p c), (.slice B q d)] 45)
    have hsz : w.heap.size ≤ w.heap.size := Nat.le_refl _
    go_enter Try.func64, Try.ntmps64
    go_upto_region 1 with (fail)
    obtain ⟨S, hS⟩ : ∃ S, (w).alloc (.cells #[(.slice A p c), (.slice B q d)] 45) = S := ⟨_, rfl⟩
    rw [hS] at e0 hb ⊢
    have HB0 := Lib.hid hb
    have E0 := Lib.hid e0
    clear hS hb hsz e0
    have k0 := E0.out.cell 0
    have k1 := E0.out.cell 1
    go_wp2_with fail
    go_ret
    exact ⟨rfl, HB0.out⟩
end Go.Proofs.Yteikhnmmkanndaa
namespace Go.Proofs.Yteikhnmmkanndaa
open Go.RowKit Go.Proofs.YteikhnmmkanndaaW.PrintWords
set_option linter.unusedSimpArgs false
set_option linter.unusedVariables false
theorem dig_5 : nat_digits_f 100 5 [53] := ⟨by kernel_rfl, by decide, by decide⟩
theorem dig_6 : nat_digits_f 100 6 [54] := ⟨by kernel_rfl, by decide, by decide⟩
theorem dig_3 : nat_digits_f 100 3 [51] := ⟨by kernel_rfl, by decide, by decide⟩
theorem dig_2 : nat_digits_f 100 2 [50] := ⟨by kernel_rfl, by decide, by decide⟩
theorem dig_1 : nat_digits_f 100 1 [49] := ⟨by kernel_rfl, by decide, by decide⟩
theorem dig_0 : nat_digits_f 100 0 [48] := ⟨by kernel_rfl, by decide, by decide⟩
theorem rtext_lit (v : Value) (n d : Nat) (ln ld : List Int) (s : ByteArray) (w : World) (ha : F64 w v n d) (hn : n < 10 ^ 19) (hd : d < 10 ^ 19) (hln : nat_digits_f 100 n ln) (hld : nat_digits_f 100 d ld) (z1 : (strOfNums ln).size ≤ 100000) (z2 : (strOfNums ld).size ≤ 100000) (hs : strOfNums ln ++ ⟨#[47]⟩ ++ strOfNums ld = s) :
    Calls Try.prog 72 #[v] w fun x w' => x = .returned (.string s) ∧ Below w.heap.size w w' := by
  have := rtext_of v n d _ _ w ha (fun u W h => ntext_one u n ln W h hn hln) (fun u W h => ntext_one u d ld W h hd hld) z1 z2
  rwa [hs] at this
theorem of_lit (x : Nat) (hx : x < 2 ^ 64) (k : Int) (hk : k = (x : Int)) (W : World) : Calls Try.prog 50 #[.int .u64 k] W (fun e w' => ∃ v, e = .returned v ∧ N64 w' v x ∧ Below W.heap.size W w') := by
  subst hk
  exact of_any x hx W
theorem rof_lit (va vb : Value) (n d a b : Nat) (W : World) (ha : N64 W va n) (hb : N64 W vb d) (hn : wl 64 n ≤ 100000000) (hd : wl 64 d ≤ 100000000) (h0 : 0 < d) (e1 : rn n d = a) (e2 : rd n d = b) : Calls Try.prog 61 #[va, vb] W fun x w' => ∃ v, x = .returned (.tuple #[v, .int .i64 0]) ∧ F64 w' v a b ∧ Below W.heap.size W w' := by
  subst e1 e2
  exact rofF_any va vb n d W ha hb hn hd h0
theorem w64_lit {x : Nat} (h : x < 2 ^ 64) : wl 64 x ≤ 1 := (wl_le (by decide) x 1).2 h
set_option maxRecDepth 100000 in
set_option maxHeartbeats 4000000 in
theorem live26_any (w : World) : Calls Try.prog 65 #[] w fun e w' => e = .returned (.bool true) ∧ Below w.heap.size w w' := by
  have O1 : Hid (∀ W, Calls Try.prog 50 #[.int .u64 1] W (fun e w' => ∃ v, e = .returned v ∧ N64 w' v 1 ∧ Below W.heap.size W w')) := Lib.hid (fun W => of_lit 1 (by decide) 1 rfl W)
  have O2 : Hid (∀ W, Calls Try.prog 50 #[.int .u64 2] W (fun e w' => ∃ v, e = .returned v ∧ N64 w' v 2 ∧ Below W.heap.size W w')) := Lib.hid (fun W => of_lit 2 (by decide) 2 rfl W)
  have O3 : Hid (∀ W, Calls Try.prog 50 #[.int .u64 3] W (fun e w' => ∃ v, e = .returned v ∧ N64 w' v 3 ∧ Below W.heap.size W w')) := Lib.hid (fun W => of_lit 3 (by decide) 3 rfl W)
  have O6 : Hid (∀ W, Calls Try.prog 50 #[.int .u64 6] W (fun e w' => ∃ v, e = .returned v ∧ N64 w' v 6 ∧ Below W.heap.size W w')) := Lib.hid (fun W => of_lit 6 (by decide) 6 rfl W)
  have O4 : Hid (∀ W, Calls Try.prog 50 #[.int .u64 4] W (fun e w' => ∃ v, e = .returned v ∧ N64 w' v 4 ∧ Below W.heap.size W w')) := Lib.hid (fun W => of_lit 4 (by decide) 4 rfl W)
  have R12 : Hid (∀ va vb W, N64 W va 1 → N64 W vb 2 → Calls Try.prog 61 #[va, vb] W fun x w' => ∃ v, x = .returned (.tuple #[v, .int .i64 0]) ∧ F64 w' v 1 2 ∧ Below W.heap.size W w') := Lib.hid (fun va vb W h1 h2 => rof_lit va vb 1 2 1 2 W h1 h2 (Nat.le_trans (w64_lit (by decide)) (by decide)) (Nat.le_trans (w64_lit (by decide)) (by decide)) (by decide) (by decide) (by decide))
  have R13 : Hid (∀ va vb W, N64 W va 1 → N64 W vb 3 → Calls Try.prog 61 #[va, vb] W fun x w' => ∃ v, x = .returned (.tuple #[v, .int .i64 0]) ∧ F64 w' v 1 3 ∧ Below W.heap.size W w') := Lib.hid (fun va vb W h1 h2 => rof_lit va vb 1 3 1 3 W h1 h2 (Nat.le_trans (w64_lit (by decide)) (by decide)) (Nat.le_trans (w64_lit (by decide)) (by decide)) (by decide) (by decide) (by decide))
  have R64 : Hid (∀ va vb W, N64 W va 6 → N64 W vb 4 → Calls Try.prog 61 #[va, vb] W fun x w' => ∃ v, x = .returned (.tuple #[v, .int .i64 0]) ∧ F64 w' v 3 2 ∧ Below W.heap.size W w') := Lib.hid (fun va vb W h1 h2 => rof_lit va vb 6 4 3 2 W h1 h2 (Nat.le_trans (w64_lit (by decide)) (by decide)) (Nat.le_trans (w64_lit (by decide)) (by decide)) (by decide) (by decide) (by decide))
  have T56 : Hid (∀ v W, F64 W v 5 6 → Calls Try.prog 72 #[v] W (fun x w' => x = .returned (.string ⟨#[53, 47, 54]⟩) ∧ Below W.heap.size W w')) := Lib.hid (fun v W h => rtext_lit v 5 6 [53] [54] _ W h (by decide) (by decide) dig_5 dig_6 (by decide) (by decide) (by kernel_rfl))
  have T32 : Hid (∀ v W, F64 W v 3 2 → Calls Try.prog 72 #[v] W (fun x w' => x = .returned (.string ⟨#[51, 47, 50]⟩) ∧ Below W.heap.size W w')) := Lib.hid (fun v W h => rtext_lit v 3 2 [51] [50] _ W h (by decide) (by decide) dig_3 dig_2 (by decide) (by decide) (by kernel_rfl))
  have T01 : Hid (∀ v W, F64 W v 0 1 → Calls Try.prog 72 #[v] W (fun x w' => x = .returned (.string ⟨#[48, 47, 49]⟩) ∧ Below W.heap.size W w')) := Lib.hid (fun v W h => rtext_lit v 0 1 [48] [49] _ W h (by decide) (by decide) dig_0 dig_1 (by decide) (by decide) (by kernel_rfl))
  have HAD : Hid (∀ v W, RowF W v 2 (ofL [(1, 2), (1, 3)]) → Calls Try.prog 66 #[v] W (MkF W 5 6)) := Lib.hid (fun v W h => radd_two v 1 2 1 3 1 W (by decide) h (by decide) (by decide) (w64_lit (by decide)) (w64_lit (by decide)) (w64_lit (by decide)) (w64_lit (by decide)))
  have HLE : Hid (∀ va vb W, F64 W va 1 3 → F64 W vb 1 2 → Calls Try.prog 62 #[va, vb] W (MkF W 0 1)) := Lib.hid (fun va vb W h1 h2 => rlessF_no va vb 1 3 1 2 W h1 h2 (Nat.le_trans (w64_lit (by decide)) (by decide)) (Nat.le_trans (w64_lit (by decide)) (by decide)) (Nat.le_trans (w64_lit (by decide)) (by decide)) (Nat.le_trans (w64_lit (by decide)) (by decide)) (by decide))
  have HB0 := Lib.hid (Below.refl w.heap.size w)
  go_enter Try.func65, Try.ntmps65
  go_wp2_with fail
  with_reducible refine (O1.out _).mono ?_
  rintro e w1a ⟨u, rfl, hu, hb⟩
  replace HB0 := Lib.hid (cbt HB0.out hb)
  have N1 := Lib.hid hu
  clear hb hu
  go_wp2_with fail
  with_reducible refine (O2.out _).mono ?_
  rintro e w1b ⟨u, rfl, hu, hb⟩
  replace N1 := Lib.hid (N1.out.below hb)
  replace HB0 := Lib.hid (cbt HB0.out hb)
  have N2 := Lib.hid hu
  clear hb hu
  go_wp2_with fail
  with_reducible refine (R12.out _ _ _ N1.out N2.out).mono ?_
  rintro e w1c ⟨u, rfl, hu, hb⟩
  replace N1 := Lib.hid (N1.out.below hb)
  replace N2 := Lib.hid (N2.out.below hb)
  replace HB0 := Lib.hid (cbt HB0.out hb)
  have NA := Lib.hid hu
  clear hb hu
  clear N1 N2
  have Z0 := NA.out
  obtain ⟨AS0, pS0, cS0, BS0, qS0, eS0, xS0, rfl, _, _, _⟩ := Z0
  have e1 := Blk.new w1c 47 #[.slice AS0 pS0 cS0, .slice BS0 qS0 eS0]
  have hb := cba (Below.refl _ w1c) (.cells #[.slice AS0 pS0 cS0, .slice BS0 qS0 eS0] 47)
  go_upto_region 2 with (fail)
  obtain ⟨S, hS⟩ : ∃ S, (w1c.alloc (.cells #[.slice AS0 pS0 cS0, .slice BS0 qS0 eS0] 47)) = S := ⟨_, rfl⟩
  rw [hS] at e1 hb ⊢
  obtain ⟨g1, hg⟩ : ∃ g, w1c.heap.size = g := ⟨_, rfl⟩
  rw [hg] at e1
  simp only [hg]
  replace NA := Lib.hid (NA.out.below hb)
  replace HB0 := Lib.hid (cbt HB0.out hb)
  have E1 := Lib.hid e1
  clear hS hg hb e1
  have k_E1_0 := E1.out.cell 0
  have k_E1_1 := E1.out.cell 1
  go_wp2_with fail
  with_reducible refine (O1.out _).mono ?_
  rintro e w2a ⟨u, rfl, hu, hb⟩
  clear k_E1_0 k_E1_1
  replace NA := Lib.hid (NA.out.below hb)
  replace E1 := Lib.hid (blk_below E1.out hb)
  replace HB0 := Lib.hid (cbt HB0.out hb)
  have N1 := Lib.hid hu
  clear hb hu
  have k_E1_0 := E1.out.cell 0
  have k_E1_1 := E1.out.cell 1
  go_wp2_with fail
  with_reducible refine (O3.out _).mono ?_
  rintro e w2b ⟨u, rfl, hu, hb⟩
  clear k_E1_0 k_E1_1
  replace NA := Lib.hid (NA.out.below hb)
  replace N1 := Lib.hid (N1.out.below hb)
  replace E1 := Lib.hid (blk_below E1.out hb)
  replace HB0 := Lib.hid (cbt HB0.out hb)
  have N2 := Lib.hid hu
  clear hb hu
  have k_E1_0 := E1.out.cell 0
  have k_E1_1 := E1.out.cell 1
  go_wp2_with fail
  with_reducible refine (R13.out _ _ _ N1.out N2.out).mono ?_
  rintro e w2c ⟨u, rfl, hu, hb⟩
  clear k_E1_0 k_E1_1
  replace NA := Lib.hid (NA.out.below hb)
  replace N1 := Lib.hid (N1.out.below hb)
  replace N2 := Lib.hid (N2.out.below hb)
  replace E1 := Lib.hid (blk_below E1.out hb)
  replace HB0 := Lib.hid (cbt HB0.out hb)
  have NB := Lib.hid hu
  clear hb hu
  have k_E1_0 := E1.out.cell 0
  have k_E1_1 := E1.out.cell 1
  clear N1 N2
  have Z0 := NB.out
  obtain ⟨AT0, pT0, cT0, BT0, qT0, eT0, xT0, rfl, _, _, _⟩ := Z0
  have e2 := Blk.new w2c 47 #[.slice AT0 pT0 cT0, .slice BT0 qT0 eT0]
  have hb := cba (Below.refl _ w2c) (.cells #[.slice AT0 pT0 cT0, .slice BT0 qT0 eT0] 47)
  go_upto_region 3 with (fail)
  obtain ⟨T, hS⟩ : ∃ S, (w2c.alloc (.cells #[.slice AT0 pT0 cT0, .slice BT0 qT0 eT0] 47)) = S := ⟨_, rfl⟩
  rw [hS] at e2 hb ⊢
  obtain ⟨g2, hg⟩ : ∃ g, w2c.heap.size = g := ⟨_, rfl⟩
  rw [hg] at e2
  simp only [hg]
  replace NA := Lib.hid (NA.out.below hb)
  replace NB := Lib.hid (NB.out.below hb)
  replace E1 := Lib.hid (blk_below E1.out hb)
  replace HB0 := Lib.hid (cbt HB0.out hb)
  have E2 := Lib.hid e2
  clear hS hg hb e2 k_E1_0 k_E1_1
  have k_E1_0 := E1.out.cell 0
  have k_E1_1 := E1.out.cell 1
  have k_E2_0 := E2.out.cell 0
  have k_E2_1 := E2.out.cell 1
  go_wp2_with fail
  with_reducible refine (O6.out _).mono ?_
  rintro e w3a ⟨u, rfl, hu, hb⟩
  clear k_E1_0 k_E1_1 k_E2_0 k_E2_1
  replace NA := Lib.hid (NA.out.below hb)
  replace NB := Lib.hid (NB.out.below hb)
  replace E1 := Lib.hid (blk_below E1.out hb)
  replace E2 := Lib.hid (blk_below E2.out hb)
  replace HB0 := Lib.hid (cbt HB0.out hb)
  have N1 := Lib.hid hu
  clear hb hu
  have k_E1_0 := E1.out.cell 0
  have k_E1_1 := E1.out.cell 1
  have k_E2_0 := E2.out.cell 0
  have k_E2_1 := E2.out.cell 1
  go_wp2_with fail
  with_reducible refine (O4.out _).mono ?_
  rintro e w3b ⟨u, rfl, hu, hb⟩
  clear k_E1_0 k_E1_1 k_E2_0 k_E2_1
  replace NA := Lib.hid (NA.out.below hb)
  replace NB := Lib.hid (NB.out.below hb)
  replace N1 := Lib.hid (N1.out.below hb)
  replace E1 := Lib.hid (blk_below E1.out hb)
  replace E2 := Lib.hid (blk_below E2.out hb)
  replace HB0 := Lib.hid (cbt HB0.out hb)
  have N2 := Lib.hid hu
  clear hb hu
  have k_E1_0 := E1.out.cell 0
  have k_E1_1 := E1.out.cell 1
  have k_E2_0 := E2.out.cell 0
  have k_E2_1 := E2.out.cell 1
  go_wp2_with fail
  with_reducible refine (R64.out _ _ _ N1.out N2.out).mono ?_
  rintro e w3c ⟨u, rfl, hu, hb⟩
  clear k_E1_0 k_E1_1 k_E2_0 k_E2_1
  replace NA := Lib.hid (NA.out.below hb)
  replace NB := Lib.hid (NB.out.below hb)
  replace N1 := Lib.hid (N1.out.below hb)
  replace N2 := Lib.hid (N2.out.below hb)
  replace E1 := Lib.hid (blk_below E1.out hb)
  replace E2 := Lib.hid (blk_below E2.out hb)
  replace HB0 := Lib.hid (cbt HB0.out hb)
  have NC := Lib.hid hu
  clear hb hu
  have k_E1_0 := E1.out.cell 0
  have k_E1_1 := E1.out.cell 1
  have k_E2_0 := E2.out.cell 0
  have k_E2_1 := E2.out.cell 1
  clear N1 N2
  have Z0 := NC.out
  obtain ⟨AU0, pU0, cU0, BU0, qU0, eU0, xU0, rfl, _, _, _⟩ := Z0
  have e3 := Blk.new w3c 47 #[.slice AU0 pU0 cU0, .slice BU0 qU0 eU0]
  have hb := cba (Below.refl _ w3c) (.cells #[.slice AU0 pU0 cU0, .slice BU0 qU0 eU0] 47)
  go_upto_region 4 with (fail)
  obtain ⟨U, hS⟩ : ∃ S, (w3c.alloc (.cells #[.slice AU0 pU0 cU0, .slice BU0 qU0 eU0] 47)) = S := ⟨_, rfl⟩
  rw [hS] at e3 hb ⊢
  obtain ⟨g3, hg⟩ : ∃ g, w3c.heap.size = g := ⟨_, rfl⟩
  rw [hg] at e3
  simp only [hg]
  replace NA := Lib.hid (NA.out.below hb)
  replace NB := Lib.hid (NB.out.below hb)
  replace NC := Lib.hid (NC.out.below hb)
  replace E1 := Lib.hid (blk_below E1.out hb)
  replace E2 := Lib.hid (blk_below E2.out hb)
  replace HB0 := Lib.hid (cbt HB0.out hb)
  have E3 := Lib.hid e3
  clear hS hg hb e3 k_E1_0 k_E1_1 k_E2_0 k_E2_1
  have k_E1_0 := E1.out.cell 0
  have k_E1_1 := E1.out.cell 1
  have k_E2_0 := E2.out.cell 0
  have k_E2_1 := E2.out.cell 1
  have k_E3_0 := E3.out.cell 0
  have k_E3_1 := E3.out.cell 1
  have HROW := Lib.hid (RowF.two (Blk.new U 47 #[.slice AS0 pS0 cS0, .slice BS0 qS0 eS0, .slice AT0 pT0 cT0, .slice BT0 qT0 eT0]) (NA.out.below (cba (Below.refl _ U) (.cells #[.slice AS0 pS0 cS0, .slice BS0 qS0 eS0, .slice AT0 pT0 cT0, .slice BT0 qT0 eT0] 47))) (NB.out.below (cba (Below.refl _ U) (.cells #[.slice AS0 pS0 cS0, .slice BS0 qS0 eS0, .slice AT0 pT0 cT0, .slice BT0 qT0 eT0] 47))))
  go_wp2_with fail
  with_reducible refine (HAD.out _ _ HROW.out).mono ?_
  rintro e w4 ⟨u, rfl, hu, hb'⟩
  have hb := cbt (cba (Below.refl _ U) (.cells #[.slice AS0 pS0 cS0, .slice BS0 qS0 eS0, .slice AT0 pT0 cT0, .slice BT0 qT0 eT0] 47)) hb'
  clear hb' HROW
  clear k_E1_0 k_E1_1 k_E2_0 k_E2_1 k_E3_0 k_E3_1
  replace NA := Lib.hid (NA.out.below hb)
  replace NB := Lib.hid (NB.out.below hb)
  replace NC := Lib.hid (NC.out.below hb)
  replace E1 := Lib.hid (blk_below E1.out hb)
  replace E2 := Lib.hid (blk_below E2.out hb)
  replace E3 := Lib.hid (blk_below E3.out hb)
  replace HB0 := Lib.hid (cbt HB0.out hb)
  have NS := Lib.hid hu
  clear hb hu
  have k_E1_0 := E1.out.cell 0
  have k_E1_1 := E1.out.cell 1
  have k_E2_0 := E2.out.cell 0
  have k_E2_1 := E2.out.cell 1
  have k_E3_0 := E3.out.cell 0
  have k_E3_1 := E3.out.cell 1
  go_wp2_with fail
  with_reducible refine (T56.out _ _ NS.out).mono ?_
  rintro e w5 ⟨rfl, hb⟩
  clear k_E1_0 k_E1_1 k_E2_0 k_E2_1 k_E3_0 k_E3_1
  replace NA := Lib.hid (NA.out.below hb)
  replace NB := Lib.hid (NB.out.below hb)
  replace NC := Lib.hid (NC.out.below hb)
  replace NS := Lib.hid (NS.out.below hb)
  replace E1 := Lib.hid (blk_below E1.out hb)
  replace E2 := Lib.hid (blk_below E2.out hb)
  replace E3 := Lib.hid (blk_below E3.out hb)
  replace HB0 := Lib.hid (cbt HB0.out hb)
  clear hb
  have k_E1_0 := E1.out.cell 0
  have k_E1_1 := E1.out.cell 1
  have k_E2_0 := E2.out.cell 0
  have k_E2_1 := E2.out.cell 1
  have k_E3_0 := E3.out.cell 0
  have k_E3_1 := E3.out.cell 1
  go_wp2_with fail
  with_reducible refine (T32.out _ _ NC.out).mono ?_
  rintro e w6 ⟨rfl, hb⟩
  clear k_E1_0 k_E1_1 k_E2_0 k_E2_1 k_E3_0 k_E3_1
  replace NA := Lib.hid (NA.out.below hb)
  replace NB := Lib.hid (NB.out.below hb)
  replace NC := Lib.hid (NC.out.below hb)
  replace NS := Lib.hid (NS.out.below hb)
  replace E1 := Lib.hid (blk_below E1.out hb)
  replace E2 := Lib.hid (blk_below E2.out hb)
  replace E3 := Lib.hid (blk_below E3.out hb)
  replace HB0 := Lib.hid (cbt HB0.out hb)
  clear hb
  have k_E1_0 := E1.out.cell 0
  have k_E1_1 := E1.out.cell 1
  have k_E2_0 := E2.out.cell 0
  have k_E2_1 := E2.out.cell 1
  have k_E3_0 := E3.out.cell 0
  have k_E3_1 := E3.out.cell 1
  go_wp2_with fail
  with_reducible refine (HLE.out _ _ _ NB.out NA.out).mono ?_
  rintro e w7 ⟨u, rfl, hu, hb⟩
  clear k_E1_0 k_E1_1 k_E2_0 k_E2_1 k_E3_0 k_E3_1
  replace NA := Lib.hid (NA.out.below hb)
  replace NB := Lib.hid (NB.out.below hb)
  replace NC := Lib.hid (NC.out.below hb)
  replace NS := Lib.hid (NS.out.below hb)
  replace E1 := Lib.hid (blk_below E1.out hb)
  replace E2 := Lib.hid (blk_below E2.out hb)
  replace E3 := Lib.hid (blk_below E3.out hb)
  replace HB0 := Lib.hid (cbt HB0.out hb)
  have NL := Lib.hid hu
  clear hb hu
  have k_E1_0 := E1.out.cell 0
  have k_E1_1 := E1.out.cell 1
  have k_E2_0 := E2.out.cell 0
  have k_E2_1 := E2.out.cell 1
  have k_E3_0 := E3.out.cell 0
  have k_E3_1 := E3.out.cell 1
  go_wp2_with fail
  with_reducible refine (T01.out _ _ NL.out).mono ?_
  rintro e w8 ⟨rfl, hb⟩
  clear k_E1_0 k_E1_1 k_E2_0 k_E2_1 k_E3_0 k_E3_1
  replace NA := Lib.hid (NA.out.below hb)
  replace NB := Lib.hid (NB.out.below hb)
  replace NC := Lib.hid (NC.out.below hb)
  replace NS := Lib.hid (NS.out.below hb)
  replace NL := Lib.hid (NL.out.below hb)
  replace E1 := Lib.hid (blk_below E1.out hb)
  replace E2 := Lib.hid (blk_below E2.out hb)
  replace E3 := Lib.hid (blk_below E3.out hb)
  replace HB0 := Lib.hid (cbt HB0.out hb)
  clear hb
  have k_E1_0 := E1.out.cell 0
  have k_E1_1 := E1.out.cell 1
  have k_E2_0 := E2.out.cell 0
  have k_E2_1 := E2.out.cell 1
  have k_E3_0 := E3.out.cell 0
  have k_E3_1 := E3.out.cell 1
  go_wp2_with fail
  go_ret
  exact ⟨rfl, HB0.out⟩
end Go.Proofs.Yteikhnmmkanndaa
namespace Go.Proofs.Yteikhnmmkanndaa
open Go.RowKit Go.Proofs.YteikhnmmkanndaaW.PrintWords
theorem rn_mul (n d : Nat) : rn n d * d = n * rd n d := by
  obtain ⟨x, hx⟩ := Nat.gcd_dvd_left n d
  obtain ⟨y, hy⟩ := Nat.gcd_dvd_right n d
  unfold rn rd
  rcases Nat.eq_zero_or_pos (Nat.gcd n d) with h0 | h0
  · rw [h0, Nat.div_zero, Nat.div_zero, Nat.zero_mul, Nat.mul_zero]
  · have h1 : n / Nat.gcd n d = x := Nat.div_eq_of_eq_mul_right h0 hx
    have h2 : d / Nat.gcd n d = y := Nat.div_eq_of_eq_mul_right h0 hy
    rw [h1, h2]
    calc x * d = x * (Nat.gcd n d * y) := by rw [← hy]
      _ = Nat.gcd n d * x * y := by rw [Nat.mul_left_comm, Nat.mul_assoc]
      _ = n * y := by rw [← hx]
def Red (a : Nat × Nat) : Prop := Nat.gcd a.1 a.2 = 1 ∧ 0 < a.2
theorem Red.rn {a : Nat × Nat} (h : Red a) : rn a.1 a.2 = a.1 := by unfold Yteikhnmmkanndaa.rn; rw [h.1, Nat.div_one]
theorem Red.rd {a : Nat × Nat} (h : Red a) : rd a.1 a.2 = a.2 := by unfold Yteikhnmmkanndaa.rd; rw [h.1, Nat.div_one]
theorem red_of {n d : Nat} (h : 0 < d) : Red (Yteikhnmmkanndaa.rn n d, Yteikhnmmkanndaa.rd n d) := ⟨Nat.coprime_div_gcd_div_gcd (Nat.gcd_pos_of_pos_right n h), rd_pos h⟩
def lessR (a b : Nat × Nat) : Nat × Nat := if a.1 * b.2 < b.1 * a.2 then (0, 1) else (rn (a.1 * b.2 - b.1 * a.2) (a.2 * b.2), rd (a.1 * b.2 - b.1 * a.2) (a.2 * b.2))
def mulR (a b : Nat × Nat) : Nat × Nat := (rn (a.1 * b.1) (a.2 * b.2), rd (a.1 * b.1) (a.2 * b.2))
def divR (a b : Nat × Nat) : Nat × Nat := (rn (a.1 * b.2) (a.2 * b.1), rd (a.1 * b.2) (a.2 * b.1))
theorem addR_zero {a : Nat × Nat} (h : Red a) : addR (0, 1) a = a := by
  unfold addR
  simp only [Nat.zero_mul, Nat.zero_add, Nat.mul_one, Nat.one_mul]
  rw [h.rn, h.rd]
theorem addR_red {a b : Nat × Nat} (ha : Red a) (hb : Red b) : Red (addR a b) := red_of (Nat.mul_pos ha.2 hb.2)
theorem addR_eq (a b : Nat × Nat) : (addR a b).1 * (a.2 * b.2) = (a.1 * b.2 + b.1 * a.2) * (addR a b).2 := rn_mul _ _
theorem addR_ge {a b : Nat × Nat} (ha : Red a) : b.1 * (addR a b).2 ≤ (addR a b).1 * b.2 := by
  have h := addR_eq a b
  refine Nat.le_of_mul_le_mul_left ?_ ha.2
  calc a.2 * (b.1 * (addR a b).2) = b.1 * a.2 * (addR a b).2 := by rw [Nat.mul_comm b.1 a.2, Nat.mul_assoc]
    _ ≤ (a.1 * b.2 + b.1 * a.2) * (addR a b).2 := Nat.mul_le_mul_right _ (Nat.le_add_left _ _)
    _ = (addR a b).1 * (a.2 * b.2) := h.symm
    _ = a.2 * ((addR a b).1 * b.2) := by rw [Nat.mul_left_comm]
theorem lessR_add {a b : Nat × Nat} (ha : Red a) (hb : Red b) : (lessR (addR a b) b).1 * a.2 = a.1 * (lessR (addR a b) b).2 := by
  have hs := addR_red ha hb
  have h := addR_eq a b
  have hge := addR_ge (b := b) ha
  generalize addR a b = s at *
  unfold lessR
  rw [if_neg (by omega)]
  simp only []
  have h2 := rn_mul (s.1 * b.2 - b.1 * s.2) (s.2 * b.2)
  generalize rn (s.1 * b.2 - b.1 * s.2) (s.2 * b.2) = p at *
  generalize rd (s.1 * b.2 - b.1 * s.2) (s.2 * b.2) = q at *
  refine Nat.eq_of_mul_eq_mul_right (Nat.mul_pos hs.2 hb.2) ?_
  have h3 : (s.1 * b.2 - b.1 * s.2) * a.2 = a.1 * b.2 * s.2 := by
    rw [Nat.sub_mul, show s.1 * b.2 * a.2 = s.1 * (a.2 * b.2) by rw [Nat.mul_assoc, Nat.mul_comm b.2], h, Nat.add_mul, show b.1 * s.2 * a.2 = b.1 * a.2 * s.2 by rw [Nat.mul_right_comm]]
    omega
  calc p * a.2 * (s.2 * b.2) = p * (s.2 * b.2) * a.2 := by rw [Nat.mul_right_comm]
    _ = (s.1 * b.2 - b.1 * s.2) * q * a.2 := by rw [h2]
    _ = (s.1 * b.2 - b.1 * s.2) * a.2 * q := by rw [Nat.mul_right_comm]
    _ = a.1 * b.2 * s.2 * q := by rw [h3]
    _ = a.1 * q * (s.2 * b.2) := by rw [Nat.mul_comm s.2 b.2, ← Nat.mul_assoc, Nat.mul_right_comm a.1 q, Nat.mul_right_comm (a.1 * b.2) q]
def Sz (B : Nat) (a : Nat × Nat) : Prop := wl 8 a.1 ≤ B ∧ wl 8 a.2 ≤ B
theorem wl64_le (x : Nat) : wl 64 x ≤ wl 8 x := by
  rw [wl_le (by decide)]
  exact Nat.lt_of_lt_of_le (wl_lt (k := 8) (by decide) x) (Nat.pow_le_pow_right (by decide) (by omega))
theorem Sz.mono {B C : Nat} {a : Nat × Nat} (h : Sz B a) (hc : B ≤ C) : Sz C a := ⟨Nat.le_trans h.1 hc, Nat.le_trans h.2 hc⟩
theorem Sz.add {B C : Nat} {a b : Nat × Nat} (ha : Sz B a) (hb : Sz C b) : Sz (B + C + 1) (addR a b) := by
  have h1 := wl_mul_le (k := 8) (by decide) ha.1 hb.2
  have h2 := wl_mul_le (k := 8) (by decide) hb.1 ha.2
  have h3 := wl_mul_le (k := 8) (by decide) ha.2 hb.2
  have h4 := wl_add_le (k := 8) (x := a.1 * b.2) (y := b.1 * a.2) (a := B + C) (by decide) h1 (by omega)
  exact ⟨wl_rn (by decide) h4, wl_rd (by decide) (by omega)⟩
theorem Sz.less {B C : Nat} {a b : Nat × Nat} (ha : Sz B a) (hb : Sz C b) : Sz (B + C + 1) (lessR a b) := by
  have h1 := wl_mul_le (k := 8) (by decide) ha.1 hb.2
  have h3 := wl_mul_le (k := 8) (by decide) ha.2 hb.2
  have h4 := wl_mono (k := 8) (by decide) (Nat.sub_le (a.1 * b.2) (b.1 * a.2))
  unfold lessR
  split
  · refine ⟨?_, ?_⟩
    · show wl 8 0 ≤ _
      rw [wl_zero (by decide)]; omega
    · show wl 8 1 ≤ _
      rw [show wl 8 1 = 1 by decide +kernel]; omega
  · exact ⟨wl_rn (by decide) (by omega), wl_rd (by decide) (by omega)⟩
theorem Sz.mul {B C : Nat} {a b : Nat × Nat} (ha : Sz B a) (hb : Sz C b) : Sz (B + C) (mulR a b) :=
  ⟨wl_rn (by decide) (wl_mul_le (k := 8) (by decide) ha.1 hb.1), wl_rd (by decide) (wl_mul_le (k := 8) (by decide) ha.2 hb.2)⟩
theorem Sz.div {B C : Nat} {a b : Nat × Nat} (ha : Sz B a) (hb : Sz C b) : Sz (B + C) (divR a b) :=
  ⟨wl_rn (by decide) (wl_mul_le (k := 8) (by decide) ha.1 hb.2), wl_rd (by decide) (wl_mul_le (k := 8) (by decide) ha.2 hb.1)⟩
theorem Sz.w1 {B : Nat} {a : Nat × Nat} (h : Sz B a) : wl 64 a.1 ≤ B := Nat.le_trans (wl64_le _) h.1
theorem Sz.w2 {B : Nat} {a : Nat × Nat} (h : Sz B a) : wl 64 a.2 ≤ B := Nat.le_trans (wl64_le _) h.2
theorem Sz.zero : Sz 1 (0, 1) := ⟨by decide +kernel, by decide +kernel⟩
section
variable {a b c : Nat × Nat} {va vb v : Value} {W : World} {B : Nat}
theorem c_add2 (hB : B ≤ 100000) (ha : Red a) (hb : Red b) (sa : Sz B a) (sb : Sz B b) (h : RowF W v 2 (ofL [a, b])) : Calls Try.prog 66 #[v] W (MkF W (addR a b).1 (addR a b).2) := by
  have := radd_two v a.1 a.2 b.1 b.2 B W hB h ha.2 hb.2 sa.w1 sa.w2 sb.w1 sb.w2
  rwa [show (a.1, a.2) = a from rfl, show (b.1, b.2) = b from rfl, addR_zero ha] at this
theorem c_add3 (hB : B ≤ 100000) (ha : Red a) (hb : Red b) (hc : Red c) (sa : Sz B a) (sb : Sz B b) (sc : Sz B c) (h : RowF W v 3 (ofL [a, b, c])) : Calls Try.prog 66 #[v] W (MkF W (addR (addR a b) c).1 (addR (addR a b) c).2) := by
  have := radd_three v a.1 a.2 b.1 b.2 c.1 c.2 B W hB h ha.2 hb.2 hc.2 sa.w1 sa.w2 sb.w1 sb.w2 sc.w1 sc.w2
  rwa [show (a.1, a.2) = a from rfl, show (b.1, b.2) = b from rfl, show (c.1, c.2) = c from rfl, addR_zero ha] at this
theorem c_xadd (hB : B ≤ 100000) (ha : Red a) (hb : Red b) (sa : Sz B a) (sb : Sz B b) (h1 : RF W va a.1 a.2) (h2 : RF W vb b.1 b.2) : Calls Try.prog 68 #[va, vb] W (MkR W (addR a b).1 (addR a b).2) :=
  xadd_any va vb a.1 a.2 b.1 b.2 W h1 h2 (Nat.le_trans sa.1 (by omega)) (Nat.le_trans sa.2 (by omega)) (Nat.le_trans sb.1 (by omega)) (Nat.le_trans sb.2 (by omega)) ha.2 hb.2
theorem c_less (hB : B ≤ 100000) (sa : Sz B a) (sb : Sz B b) (h1 : F64 W va a.1 a.2) (h2 : F64 W vb b.1 b.2) : Calls Try.prog 62 #[va, vb] W (MkF W (lessR a b).1 (lessR a b).2) := by
  have q1 := sa.w1; have q2 := sa.w2; have q3 := sb.w1; have q4 := sb.w2
  unfold lessR
  split
  · rename_i h
    exact rlessF_no va vb a.1 a.2 b.1 b.2 W h1 h2 (by omega) (by omega) (by omega) (by omega) h
  · rename_i h
    exact rlessF_any va vb a.1 a.2 b.1 b.2 W h1 h2 (by omega) (by omega) (by omega) (by omega) (by omega)
theorem c_xless (hB : B ≤ 100000) (ha : Red a) (hb : Red b) (sa : Sz B a) (sb : Sz B b) (h1 : RF W va a.1 a.2) (h2 : RF W vb b.1 b.2) : Calls Try.prog 69 #[va, vb] W (MkR W (lessR a b).1 (lessR a b).2) := by
  have q1 := sa.1; have q2 := sa.2; have q3 := sb.1; have q4 := sb.2
  unfold lessR
  split
  · rename_i h
    exact xless_no va vb a.1 a.2 b.1 b.2 W h1 h2 (by omega) (by omega) (by omega) (by omega) ha.2 hb.2 h
  · rename_i h
    exact xless_any va vb a.1 a.2 b.1 b.2 W h1 h2 (by omega) (by omega) (by omega) (by omega) ha.2 hb.2 (by omega)
theorem c_cmp (hB : B ≤ 100000) (sa : Sz B a) (sb : Sz B b) (h1 : F64 W va a.1 a.2) (h2 : F64 W vb b.1 b.2) : Calls Try.prog 44 #[va, vb] W fun x w' => x = .returned (.int .i64 (cmpN (a.1 * b.2) (b.1 * a.2))) ∧ Below W.heap.size W w' := by
  have q1 := sa.w1; have q2 := sa.w2; have q3 := sb.w1; have q4 := sb.w2
  exact rcmpF_any va vb a.1 a.2 b.1 b.2 W h1 h2 (by omega) (by omega) (by omega) (by omega)
theorem c_cmpeq (hB : B ≤ 100000) (sa : Sz B a) (sb : Sz B b) (he : a.1 * b.2 = b.1 * a.2) (h1 : F64 W va a.1 a.2) (h2 : F64 W vb b.1 b.2) : Calls Try.prog 44 #[va, vb] W fun x w' => x = .returned (.int .i64 0) ∧ Below W.heap.size W w' := by
  have := c_cmp hB sa sb h1 h2
  rwa [he, cmpN_self] at this
theorem c_is (hB : B ≤ 100000) (sa : Sz B a) (h1 : F64 W va a.1 a.2) (h2 : RF W vb a.1 a.2) : Calls Try.prog 67 #[va, vb] W fun x w' => x = .returned (.bool true) ∧ Below W.heap.size W w' := by
  have q1 := sa.w1; have q2 := sa.w2; have q3 := sa.1; have q4 := sa.2
  exact isF_yes va vb a.1 a.2 W h1 h2 (by omega) (by omega) (by omega) (by omega)
end
def frcR (l m : List Int) : Nat × Nat := (rn (be l) (den1 (be m)), rd (be l) (den1 (be m)))
theorem frcR_red (l m : List Int) : Red (frcR l m) := red_of (den1_pos _)
theorem frcR_sz {l m : List Int} {B : Nat} (hl : Bys l) (hm : Bys m) (h1 : l.length ≤ B) (h2 : m.length ≤ B) : Sz (B + 1) (frcR l m) :=
  ⟨wl_rn (by decide) (Nat.le_trans (be_wl hl) (by omega)), wl_rd (by decide) (Nat.le_trans (den1_wl (b := B) (by decide) (Nat.le_trans (be_wl hm) h2)) (Nat.le_refl _))⟩
theorem c_to {v : Value} {l m : List Int} {W : World} (h : Frc W v l m) (hl : Bys l) (hm : Bys m) (h1 : l.length ≤ 10000) (h2 : m.length ≤ 10000) : Calls Try.prog 36 #[v] W (MkF W (frcR l m).1 (frcR l m).2) := to_any v l m W h hl hm h1 h2
theorem c_ref {v : Value} {l m : List Int} {W : World} (h : Frc W v l m) (hl : Bys l) (hm : Bys m) (h1 : l.length ≤ 10000) (h2 : m.length ≤ 10000) : Calls Try.prog 38 #[v] W (MkR W (frcR l m).1 (frcR l m).2) := ref_any v l m W h hl hm h1 h2
theorem c_small {v : Value} {l m : List Int} {k : Nat} {W : World} {r : Bool} (h : Frc W v l m) (hr : (decide (l.length ≤ k) && decide (m.length ≤ k)) = r) : Calls Try.prog 64 #[v, .int .i64 (k : Nat)] W fun x w' => x = .returned (.bool r) ∧ Below W.heap.size W w' := by
  have := small_any v l m k W h
  rwa [hr] at this
end Go.Proofs.Yteikhnmmkanndaa
namespace Go.Proofs.Yteikhnmmkanndaa
open Go.RowKit Go.Proofs.YteikhnmmkanndaaW.PrintWords
set_option linter.unusedSimpArgs false
set_option linter.unusedVariables false
set_option maxRecDepth 100000 in
set_option maxHeartbeats 4000000 in
theorem ratSums_law (vx : Value) (lx mx : List Int) (vy : Value) (ly my : List Int) (w : World) (hx : Frc w vx lx mx) (ylx : Bys lx) (ymx : Bys mx) (hy : Frc w vy ly my) (yly : Bys ly) (ymy : Bys my) : Calls Try.prog 14 #[vx, vy] w fun e w' => e = .returned (.bool true) ∧ Below w.heap.size w w' := by
  have Hx := Lib.hid hx
  obtain ⟨Ux, nx, cx, Vx, kx, dx, rfl, _, _, _, _⟩ := hx
  have Hy := Lib.hid hy
  obtain ⟨Uy, ny, cy, Vy, ky, dy, rfl, _, _, _, _⟩ := hy
  by_cases hzx : lx.length ≤ 16 ∧ mx.length ≤ 16
  · obtain ⟨hxx, hyx⟩ := hzx
    by_cases hzy : ly.length ≤ 16 ∧ my.length ≤ 16
    · obtain ⟨hxy, hyy⟩ := hzy
      have HSx : Hid (∀ v W, Frc W v lx mx → Calls Try.prog 64 #[v, .int .i64 16] W (fun x w' => x = .returned (.bool true) ∧ Below W.heap.size W w')) := Lib.hid (fun v W h => c_small (k := 16) h (by simp [hxx, hyx]))
      have HSy : Hid (∀ v W, Frc W v ly my → Calls Try.prog 64 #[v, .int .i64 16] W (fun x w' => x = .returned (.bool true) ∧ Below W.heap.size W w')) := Lib.hid (fun v W h => c_small (k := 16) h (by simp [hxy, hyy]))
      have ra := frcR_red lx mx
      have sa := frcR_sz ylx ymx hxx hyx
      have HTa := Lib.hid (fun v W h => c_to (v := v) (W := W) (l := lx) (m := mx) h ylx ymx (by omega) (by omega))
      have HRa := Lib.hid (fun v W h => c_ref (v := v) (W := W) (l := lx) (m := mx) h ylx ymx (by omega) (by omega))
      obtain ⟨a, hea⟩ : ∃ a, frcR lx mx = a := ⟨_, rfl⟩
      rw [hea] at ra sa HTa HRa
      clear hea
      have rb := frcR_red ly my
      have sb := frcR_sz yly ymy hxy hyy
      have HTb := Lib.hid (fun v W h => c_to (v := v) (W := W) (l := ly) (m := my) h yly ymy (by omega) (by omega))
      have HRb := Lib.hid (fun v W h => c_ref (v := v) (W := W) (l := ly) (m := my) h yly ymy (by omega) (by omega))
      obtain ⟨b, heb⟩ : ∃ a, frcR ly my = a := ⟨_, rfl⟩
      rw [heb] at rb sb HTb HRb
      clear heb
      have rs := addR_red ra rb
      have ss := (sa.add sb).mono (C := 40) (by decide)
      have sl := (sa.less sb).mono (C := 40) (by decide)
      have hge := addR_ge (b := b) ra
      have heq := lessR_add ra rb
      have su := ss.less sb
      have ra2 := addR_red rs ra
      have sr2 := (ss.add sa).mono (C := 80) (by decide)
      have sa' := sa.mono (C := 80) (by decide)
      have sb' := sb.mono (C := 80) (by decide)
      have ss' := ss.mono (C := 80) (by decide)
      have sl' := sl.mono (C := 80) (by decide)
      have su' := su.mono (C := 80) (by decide)
      have HAD := Lib.hid (fun v W h => c_add2 (v := v) (W := W) (B := 80) (by decide) ra rb sa' sb' h)
      have HA3 := Lib.hid (fun v W h => c_add3 (v := v) (W := W) (B := 80) (by decide) ra rb ra sa' sb' sa' h)
      have HA2 := Lib.hid (fun v W h => c_add2 (v := v) (W := W) (B := 80) (by decide) rs ra ss' sa' h)
      have HXA := Lib.hid (fun va vb W h1 h2 => c_xadd (va := va) (vb := vb) (W := W) (B := 80) (by decide) ra rb sa' sb' h1 h2)
      have HIS := Lib.hid (fun va vb W h1 h2 => c_is (va := va) (vb := vb) (W := W) (B := 80) (by decide) ss' h1 h2)
      have HLE := Lib.hid (fun va vb W h1 h2 => c_less (va := va) (vb := vb) (W := W) (B := 80) (by decide) sa' sb' h1 h2)
      have HXL := Lib.hid (fun va vb W h1 h2 => c_xless (va := va) (vb := vb) (W := W) (B := 80) (by decide) ra rb sa' sb' h1 h2)
      have HIL := Lib.hid (fun va vb W h1 h2 => c_is (va := va) (vb := vb) (W := W) (B := 80) (by decide) sl' h1 h2)
      have HL2 := Lib.hid (fun va vb W h1 h2 => c_less (va := va) (vb := vb) (W := W) (B := 80) (by decide) ss' sb' h1 h2)
      have HC1 := Lib.hid (fun va vb W h1 h2 => c_cmpeq (va := va) (vb := vb) (W := W) (B := 80) (by decide) su' sa' heq h1 h2)
      have HA0 := Lib.hid radd_none
      have HX0 : Hid (∀ W, Calls Try.prog 70 #[.int .i64 0] W (MkR W 0 1)) := Lib.hid (fun W => xint_any 0 0 (by decide) (by decide) W)
      have HI0 := Lib.hid (fun va vb W h1 h2 => c_is (a := (0, 1)) (va := va) (vb := vb) (W := W) (B := 80) (by decide) (Sz.zero.mono (by decide)) h1 h2)
      have HC2 := Lib.hid (fun va vb W h1 h2 => c_cmpeq (va := va) (vb := vb) (W := W) (B := 80) (by decide) sr2 sr2 rfl h1 h2)
      have HLV := Lib.hid live26_any
      generalize addR (addR a b) a = r at *
      generalize addR a b = s at *
      generalize lessR a b = l at *
      generalize lessR s b = u at *
      clear ra rb sa sb rs ss sl hge heq su ra2 sr2 sa' sb' ss' sl' su' ylx ymx yly ymy hxx hyx hxy hyy
      have e0 := (Blk.new (w) 45 #[(.slice Ux nx cx), (.slice Vx kx dx)]).alloc (.cells #[(.slice Uy ny cy), (.slice Vy ky dy)] 45)
      have e1 := Blk.new ((w).alloc (.cells #[(.slice Ux nx cx), (.slice Vx kx dx)] 45)) 45 #[(.slice Uy ny cy), (.slice Vy ky dy)]
      have hb := cba (cba (Below.refl _ w) (.cells #[(.slice Ux nx cx), (.slice Vx kx dx)] 45)) (.cells #[(.slice Uy ny cy), (.slice Vy ky dy)] 45)
      simp only [World.size_alloc] at e1
      have hsz : w.heap.size ≤ w.heap.size := Nat.le_refl _
      go_enter Try.func14, Try.ntmps14
      go_upto_region 1 with (fail)
      obtain ⟨S, hS⟩ : ∃ S, ((w).alloc (.cells #[(.slice Ux nx cx), (.slice Vx kx dx)] 45)).alloc (.cells #[(.slice Uy ny cy), (.slice Vy ky dy)] 45) = S := ⟨_, rfl⟩
      rw [hS] at e0 e1 hb ⊢
      replace Hx := Lib.hid (Hx.out.below hb)
      replace Hy := Lib.hid (Hy.out.below hb)
      have HB0 := Lib.hid hb
      have E0 := Lib.hid e0
      have E1 := Lib.hid e1
      clear hS hb hsz e0 e1
      have k_E0_0 := E0.out.cell 0
      have k_E0_1 := E0.out.cell 1
      have k_E1_0 := E1.out.cell 0
      have k_E1_1 := E1.out.cell 1
      go_wp2_with fail
      with_reducible refine (HSx.out _ _ Hx.out).mono ?_
      rintro e w1 ⟨rfl, hb⟩
      clear k_E0_0 k_E0_1 k_E1_0 k_E1_1
      replace Hx := Lib.hid (Hx.out.below hb)
      replace Hy := Lib.hid (Hy.out.below hb)
      replace E0 := Lib.hid (blk_below E0.out hb)
      replace E1 := Lib.hid (blk_below E1.out hb)
      replace HB0 := Lib.hid (cbt HB0.out hb)
      clear hb
      have k_E0_0 := E0.out.cell 0
      have k_E0_1 := E0.out.cell 1
      have k_E1_0 := E1.out.cell 0
      have k_E1_1 := E1.out.cell 1
      go_wp2_with fail
      with_reducible refine (HSy.out _ _ Hy.out).mono ?_
      rintro e w1 ⟨rfl, hb⟩
      clear k_E0_0 k_E0_1 k_E1_0 k_E1_1
      replace Hx := Lib.hid (Hx.out.below hb)
      replace Hy := Lib.hid (Hy.out.below hb)
      replace E0 := Lib.hid (blk_below E0.out hb)
      replace E1 := Lib.hid (blk_below E1.out hb)
      replace HB0 := Lib.hid (cbt HB0.out hb)
      clear hb
      have k_E0_0 := E0.out.cell 0
      have k_E0_1 := E0.out.cell 1
      have k_E1_0 := E1.out.cell 0
      have k_E1_1 := E1.out.cell 1
      go_wp2_with fail
      clear k_E0_0 k_E0_1 k_E1_0 k_E1_1
      let FS : List Kept1 := [.frc (lx) (mx), .f (a.1) (a.2), .frc (ly) (my), .f (b.1) (b.2), .any, .any, .any, .any]
      let BS : List Bx := [Bx.rat (.inl 4) 6 #[.slice none 0 0, .slice none 0 0] (a.1) (a.2), Bx.rat (.inl 5) 7 #[.slice none 0 0, .slice none 0 0] (b.1) (b.2)]
      refine region_mono (Held w1 (fun j => FS.getD j .any) BS) (by kernel_rfl) (by kernel_rfl) (by kernel_rfl) (Held.start _ _ _ (by simp [BS, Bx.nat, Bx.rat, Bx.ref]) (by simp [BS, Bx.nat, Bx.rat, Bx.ref])) ?_
      refine Steps.held ?_ ?_
      · intro L v w' hJ
        have kb := hJ.out.blk E0.out (by simp [oldsOf, BS, Bx.nat, Bx.rat, Bx.ref])
        have k0 := kb.cell 0
        have k1 := kb.cell 1
        clear kb
        go_wp2_with fail
        exact ⟨rfl, rfl, hJ.out.same (by rfl) (Hx.out.keep hJ.out.held.keep)⟩
      simp only [Act.put, List.setIfInBounds_toArray, List.set_cons_zero, List.set_cons_succ, Nat.reduceAdd]
      refine Steps.held ?_ ?_
      · intro L v w' hJ
        have X0 := Lib.hid (show Frc w' (v 0) (lx) (mx) from hJ.out.fact 0 (by kernel_rfl))
        go_wp2_with fail
        with_reducible refine (HTa.out _ _ X0.out).mono ?_
        rintro e w1 ⟨u, rfl, hu, hb⟩
        go_wp2_with fail
        exact ⟨rfl, rfl, hJ.out.call (by rfl) hb (hu)⟩
      simp only [Act.put, List.setIfInBounds_toArray, List.set_cons_zero, List.set_cons_succ, Nat.reduceAdd]
      refine Steps.held ?_ ?_
      · intro L v w' hJ
        have kb := hJ.out.blk E1.out (by simp [oldsOf, BS, Bx.nat, Bx.rat, Bx.ref])
        have k0 := kb.cell 0
        have k1 := kb.cell 1
        clear kb
        go_wp2_with fail
        exact ⟨rfl, rfl, hJ.out.same (by rfl) (Hy.out.keep hJ.out.held.keep)⟩
      simp only [Act.put, List.setIfInBounds_toArray, List.set_cons_zero, List.set_cons_succ, Nat.reduceAdd]
      refine Steps.held ?_ ?_
      · intro L v w' hJ
        have X0 := Lib.hid (show Frc w' (v 2) (ly) (my) from hJ.out.fact 2 (by kernel_rfl))
        go_wp2_with fail
        with_reducible refine (HTb.out _ _ X0.out).mono ?_
        rintro e w1 ⟨u, rfl, hu, hb⟩
        go_wp2_with fail
        exact ⟨rfl, rfl, hJ.out.call (by rfl) hb (hu)⟩
      simp only [Act.put, List.setIfInBounds_toArray, List.set_cons_zero, List.set_cons_succ, Nat.reduceAdd]
      refine Steps.held ?_ ?_
      · intro L v w' hJ
        go_wp2_with fail
        exact ⟨rfl, rfl, hJ.out.made 0 _ rfl rfl (by rfl) trivial⟩
      simp only [Act.put, List.setIfInBounds_toArray, List.set_cons_zero, List.set_cons_succ, Nat.reduceAdd]
      refine Steps.held ?_ ?_
      · intro L v w' hJ
        go_wp2_with fail
        exact ⟨rfl, rfl, hJ.out.made 1 _ rfl rfl (by rfl) trivial⟩
      simp only [Act.put, List.setIfInBounds_toArray, List.set_cons_zero, List.set_cons_succ, Nat.reduceAdd]
      refine Steps.held ?_ ?_
      · intro L v w' hJ
        obtain ⟨g, hg, hge, hown, hst⟩ := hJ.out.newbox 0 _ rfl 4 rfl (by kernel_rfl)
        have hN : F64 w' (v 1) (a.1) (a.2) := hJ.out.fact 1 (by kernel_rfl)
        obtain ⟨A1, p1, c1, B1, q1, e1, x1, hv, h1, h2, h3⟩ := hN
        have HN := Lib.hid (show F64 w' (.agg #[.slice A1 p1 c1, .slice B1 q1 e1]) (a.1) (a.2) from ⟨A1, p1, c1, B1, q1, e1, x1, rfl, h1, h2, h3⟩)
        have kb := hJ.out.box 0 _ rfl rfl g hown
        have k0 : w'.cell? ⟨g, 0, none⟩ = some (.slice none 0 0) := kb.cell 0
        have k1 : w'.cell? ⟨g, 1, none⟩ = some (.slice none 0 0) := kb.cell 1
        have f0 := kb.frozen 0
        have f1 := kb.frozen 1
        have HO := Lib.hid hown
        have HS := Lib.hid hst
        clear kb h1 h2 h3 hown hst
        simp only [hg, hv]
        clear hg hv
        go_wp2_with fail
        exact ⟨rfl, rfl, hJ.out.fill2 0 _ rfl rfl (by rfl) g HO.out HS.out _ _ rfl rfl rfl (fun W k => HN.out.keep k) (fun _ => trivial)⟩
      simp only [Act.put, List.setIfInBounds_toArray, List.set_cons_zero, List.set_cons_succ, Nat.reduceAdd]
      refine Steps.held ?_ ?_
      · intro L v w' hJ
        obtain ⟨g, hg, hge, hown, hst⟩ := hJ.out.newbox 1 _ rfl 5 rfl (by kernel_rfl)
        have hN : F64 w' (v 3) (b.1) (b.2) := hJ.out.fact 3 (by kernel_rfl)
        obtain ⟨A1, p1, c1, B1, q1, e1, x1, hv, h1, h2, h3⟩ := hN
        have HN := Lib.hid (show F64 w' (.agg #[.slice A1 p1 c1, .slice B1 q1 e1]) (b.1) (b.2) from ⟨A1, p1, c1, B1, q1, e1, x1, rfl, h1, h2, h3⟩)
        have kb := hJ.out.box 1 _ rfl rfl g hown
        have k0 : w'.cell? ⟨g, 0, none⟩ = some (.slice none 0 0) := kb.cell 0
        have k1 : w'.cell? ⟨g, 1, none⟩ = some (.slice none 0 0) := kb.cell 1
        have f0 := kb.frozen 0
        have f1 := kb.frozen 1
        have HO := Lib.hid hown
        have HS := Lib.hid hst
        clear kb h1 h2 h3 hown hst
        simp only [hg, hv]
        clear hg hv
        go_wp2_with fail
        exact ⟨rfl, rfl, hJ.out.fill2 1 _ rfl rfl (by rfl) g HO.out HS.out _ _ rfl rfl rfl (fun W k => HN.out.keep k) (fun _ => trivial)⟩
      simp only [Act.put, List.setIfInBounds_toArray, List.set_cons_zero, List.set_cons_succ, Nat.reduceAdd]
      refine Steps.nil ?_
      intro v w' hJ
      obtain ⟨g5, cs4, hv4, hge4, hb4, hf4⟩ := hJ.end_new 0 _ rfl 4 rfl (by decide) (Nat.le_of_ble_eq_true rfl)
      have hfx : F64 w' (.agg cs4) a.1 a.2 := hf4
      obtain ⟨A4, p4, c4, B4, q4, e4, x4, hcs4, h1, h2, h3⟩ := hfx
      have hcs4' := Value.agg.inj hcs4
      subst hcs4'
      simp only [hv4]
      have E5 := Lib.hid (show Blk w' g5 47 #[.slice A4 p4 c4, .slice B4 q4 e4] from hb4)
      have NE5 := Lib.hid (show F64 w' (.agg #[.slice A4 p4 c4, .slice B4 q4 e4]) a.1 a.2 from hf4)
      clear hv4 hb4 hf4 hcs4 h1 h2
      obtain ⟨g6, cs5, hv5, hge5, hb5, hf5⟩ := hJ.end_new 1 _ rfl 5 rfl (by decide) (Nat.le_of_ble_eq_true rfl)
      have hfx : F64 w' (.agg cs5) b.1 b.2 := hf5
      obtain ⟨A5, p5, c5, B5, q5, e5, x5, hcs5, h1, h2, h3⟩ := hfx
      have hcs5' := Value.agg.inj hcs5
      subst hcs5'
      simp only [hv5]
      have E6 := Lib.hid (show Blk w' g6 47 #[.slice A5 p5 c5, .slice B5 q5 e5] from hb5)
      have NE6 := Lib.hid (show F64 w' (.agg #[.slice A5 p5 c5, .slice B5 q5 e5]) b.1 b.2 from hf5)
      clear hv5 hb5 hf5 hcs5 h1 h2
      have hbr := hJ.but.below
      replace Hx := Lib.hid (Hx.out.below hbr)
      replace Hy := Lib.hid (Hy.out.below hbr)
      replace E0 := Lib.hid (blk_below E0.out hbr)
      replace E1 := Lib.hid (blk_below E1.out hbr)
      replace HB0 := Lib.hid (cbt HB0.out hbr)
      clear hJ hbr
      go_wp2_with fail
      let FS : List Kept1 := [.frc (lx) (mx), .rf (a.1) (a.2), .frc (ly) (my), .rf (b.1) (b.2), .any, .any, .any, .any]
      let BS : List Bx := [Bx.ref (.inl 4) 6 #[.slice none 0 0, .slice none 0 0] (a.1) (a.2), Bx.ref (.inl 5) 7 #[.slice none 0 0, .slice none 0 0] (b.1) (b.2)]
      refine region_mono (Held w' (fun j => FS.getD j .any) BS) (by kernel_rfl) (by kernel_rfl) (by kernel_rfl) (Held.start _ _ _ (by simp [BS, Bx.nat, Bx.rat, Bx.ref]) (by simp [BS, Bx.nat, Bx.rat, Bx.ref])) ?_
      refine Steps.held ?_ ?_
      · intro L v w' hJ
        have kb := hJ.out.blk E0.out (by simp [oldsOf, BS, Bx.nat, Bx.rat, Bx.ref])
        have k0 := kb.cell 0
        have k1 := kb.cell 1
        clear kb
        go_wp2_with fail
        exact ⟨rfl, rfl, hJ.out.same (by rfl) (Hx.out.keep hJ.out.held.keep)⟩
      simp only [Act.put, List.setIfInBounds_toArray, List.set_cons_zero, List.set_cons_succ, Nat.reduceAdd]
      refine Steps.held ?_ ?_
      · intro L v w' hJ
        have X0 := Lib.hid (show Frc w' (v 0) (lx) (mx) from hJ.out.fact 0 (by kernel_rfl))
        go_wp2_with fail
        with_reducible refine (HRa.out _ _ X0.out).mono ?_
        rintro e w1 ⟨u, rfl, hu, hb⟩
        go_wp2_with fail
        exact ⟨rfl, rfl, hJ.out.call (by rfl) hb (hu)⟩
      simp only [Act.put, List.setIfInBounds_toArray, List.set_cons_zero, List.set_cons_succ, Nat.reduceAdd]
      refine Steps.held ?_ ?_
      · intro L v w' hJ
        have kb := hJ.out.blk E1.out (by simp [oldsOf, BS, Bx.nat, Bx.rat, Bx.ref])
        have k0 := kb.cell 0
        have k1 := kb.cell 1
        clear kb
        go_wp2_with fail
        exact ⟨rfl, rfl, hJ.out.same (by rfl) (Hy.out.keep hJ.out.held.keep)⟩
      simp only [Act.put, List.setIfInBounds_toArray, List.set_cons_zero, List.set_cons_succ, Nat.reduceAdd]
      refine Steps.held ?_ ?_
      · intro L v w' hJ
        have X0 := Lib.hid (show Frc w' (v 2) (ly) (my) from hJ.out.fact 2 (by kernel_rfl))
        go_wp2_with fail
        with_reducible refine (HRb.out _ _ X0.out).mono ?_
        rintro e w1 ⟨u, rfl, hu, hb⟩
        go_wp2_with fail
        exact ⟨rfl, rfl, hJ.out.call (by rfl) hb (hu)⟩
      simp only [Act.put, List.setIfInBounds_toArray, List.set_cons_zero, List.set_cons_succ, Nat.reduceAdd]
      refine Steps.held ?_ ?_
      · intro L v w' hJ
        go_wp2_with fail
        exact ⟨rfl, rfl, hJ.out.made 0 _ rfl rfl (by rfl) trivial⟩
      simp only [Act.put, List.setIfInBounds_toArray, List.set_cons_zero, List.set_cons_succ, Nat.reduceAdd]
      refine Steps.held ?_ ?_
      · intro L v w' hJ
        go_wp2_with fail
        exact ⟨rfl, rfl, hJ.out.made 1 _ rfl rfl (by rfl) trivial⟩
      simp only [Act.put, List.setIfInBounds_toArray, List.set_cons_zero, List.set_cons_succ, Nat.reduceAdd]
      refine Steps.held ?_ ?_
      · intro L v w' hJ
        obtain ⟨g, hg, hge, hown, hst⟩ := hJ.out.newbox 0 _ rfl 4 rfl (by kernel_rfl)
        have hN : RF w' (v 1) (a.1) (a.2) := hJ.out.fact 1 (by kernel_rfl)
        obtain ⟨A1, p1, c1, B1, q1, e1, hv, h1, h2⟩ := hN
        have HN := Lib.hid (show RF w' (.agg #[.slice A1 p1 c1, .slice B1 q1 e1]) (a.1) (a.2) from ⟨A1, p1, c1, B1, q1, e1, rfl, h1, h2⟩)
        have kb := hJ.out.box 0 _ rfl rfl g hown
        have k0 : w'.cell? ⟨g, 0, none⟩ = some (.slice none 0 0) := kb.cell 0
        have k1 : w'.cell? ⟨g, 1, none⟩ = some (.slice none 0 0) := kb.cell 1
        have f0 := kb.frozen 0
        have f1 := kb.frozen 1
        have HO := Lib.hid hown
        have HS := Lib.hid hst
        clear kb h1 h2 hown hst
        simp only [hg, hv]
        clear hg hv
        go_wp2_with fail
        exact ⟨rfl, rfl, hJ.out.fill2 0 _ rfl rfl (by rfl) g HO.out HS.out _ _ rfl rfl rfl (fun W k => HN.out.keep k) (fun _ => trivial)⟩
      simp only [Act.put, List.setIfInBounds_toArray, List.set_cons_zero, List.set_cons_succ, Nat.reduceAdd]
      refine Steps.held ?_ ?_
      · intro L v w' hJ
        obtain ⟨g, hg, hge, hown, hst⟩ := hJ.out.newbox 1 _ rfl 5 rfl (by kernel_rfl)
        have hN : RF w' (v 3) (b.1) (b.2) := hJ.out.fact 3 (by kernel_rfl)
        obtain ⟨A1, p1, c1, B1, q1, e1, hv, h1, h2⟩ := hN
        have HN := Lib.hid (show RF w' (.agg #[.slice A1 p1 c1, .slice B1 q1 e1]) (b.1) (b.2) from ⟨A1, p1, c1, B1, q1, e1, rfl, h1, h2⟩)
        have kb := hJ.out.box 1 _ rfl rfl g hown
        have k0 : w'.cell? ⟨g, 0, none⟩ = some (.slice none 0 0) := kb.cell 0
        have k1 : w'.cell? ⟨g, 1, none⟩ = some (.slice none 0 0) := kb.cell 1
        have f0 := kb.frozen 0
        have f1 := kb.frozen 1
        have HO := Lib.hid hown
        have HS := Lib.hid hst
        clear kb h1 h2 hown hst
        simp only [hg, hv]
        clear hg hv
        go_wp2_with fail
        exact ⟨rfl, rfl, hJ.out.fill2 1 _ rfl rfl (by rfl) g HO.out HS.out _ _ rfl rfl rfl (fun W k => HN.out.keep k) (fun _ => trivial)⟩
      simp only [Act.put, List.setIfInBounds_toArray, List.set_cons_zero, List.set_cons_succ, Nat.reduceAdd]
      refine Steps.nil ?_
      intro v w' hJ
      obtain ⟨g7, cs4, hv4, hge7, hb4, hf4⟩ := hJ.end_new 0 _ rfl 4 rfl (by decide) (Nat.le_of_ble_eq_true rfl)
      have hfx : RF w' (.agg cs4) a.1 a.2 := hf4
      obtain ⟨A7, p7, c7, B7, q7, e7, hcs4, h1, h2⟩ := hfx
      have hcs4' := Value.agg.inj hcs4
      subst hcs4'
      simp only [hv4]
      have E7 := Lib.hid (show Blk w' g7 52 #[.slice A7 p7 c7, .slice B7 q7 e7] from hb4)
      have NE7 := Lib.hid (show RF w' (.agg #[.slice A7 p7 c7, .slice B7 q7 e7]) a.1 a.2 from hf4)
      clear hv4 hb4 hf4 hcs4 h1 h2
      obtain ⟨g8, cs5, hv5, hge8, hb5, hf5⟩ := hJ.end_new 1 _ rfl 5 rfl (by decide) (Nat.le_of_ble_eq_true rfl)
      have hfx : RF w' (.agg cs5) b.1 b.2 := hf5
      obtain ⟨A8, p8, c8, B8, q8, e8, hcs5, h1, h2⟩ := hfx
      have hcs5' := Value.agg.inj hcs5
      subst hcs5'
      simp only [hv5]
      have E8 := Lib.hid (show Blk w' g8 52 #[.slice A8 p8 c8, .slice B8 q8 e8] from hb5)
      have NE8 := Lib.hid (show RF w' (.agg #[.slice A8 p8 c8, .slice B8 q8 e8]) b.1 b.2 from hf5)
      clear hv5 hb5 hf5 hcs5 h1 h2
      have hbr := hJ.but.below
      replace NE5 := Lib.hid (NE5.out.below hbr)
      replace NE6 := Lib.hid (NE6.out.below hbr)
      replace E5 := Lib.hid (blk_below E5.out hbr)
      replace E6 := Lib.hid (blk_below E6.out hbr)
      replace HB0 := Lib.hid (cbt HB0.out hbr)
      clear hJ hbr
      have k_E5_0 := E5.out.cell 0
      have k_E5_1 := E5.out.cell 1
      have k_E6_0 := E6.out.cell 0
      have k_E6_1 := E6.out.cell 1
      have k_E7_0 := E7.out.cell 0
      have k_E7_1 := E7.out.cell 1
      have k_E8_0 := E8.out.cell 0
      have k_E8_1 := E8.out.cell 1
      have HROW := Lib.hid (RowF.two (Blk.new w' 47 #[.slice A4 p4 c4, .slice B4 q4 e4, .slice A5 p5 c5, .slice B5 q5 e5]) (NE5.out.below (cba (Below.refl _ w') (.cells #[.slice A4 p4 c4, .slice B4 q4 e4, .slice A5 p5 c5, .slice B5 q5 e5] 47))) (NE6.out.below (cba (Below.refl _ w') (.cells #[.slice A4 p4 c4, .slice B4 q4 e4, .slice A5 p5 c5, .slice B5 q5 e5] 47))))
      go_wp2_with fail
      with_reducible refine (HAD.out _ _ HROW.out).mono ?_
      rintro e w4 ⟨u9, rfl, hu, hb'⟩
      have hb := cbt (cba (Below.refl _ w') (.cells #[.slice A4 p4 c4, .slice B4 q4 e4, .slice A5 p5 c5, .slice B5 q5 e5] 47)) hb'
      clear hb' HROW
      clear k_E5_0 k_E5_1 k_E6_0 k_E6_1 k_E7_0 k_E7_1 k_E8_0 k_E8_1
      replace NE5 := Lib.hid (NE5.out.below hb)
      replace NE6 := Lib.hid (NE6.out.below hb)
      replace NE7 := Lib.hid (NE7.out.below hb)
      replace NE8 := Lib.hid (NE8.out.below hb)
      replace E5 := Lib.hid (blk_below E5.out hb)
      replace E6 := Lib.hid (blk_below E6.out hb)
      replace E7 := Lib.hid (blk_below E7.out hb)
      replace E8 := Lib.hid (blk_below E8.out hb)
      replace HB0 := Lib.hid (cbt HB0.out hb)
      have NS := Lib.hid hu
      clear hb hu
      have k_E5_0 := E5.out.cell 0
      have k_E5_1 := E5.out.cell 1
      have k_E6_0 := E6.out.cell 0
      have k_E6_1 := E6.out.cell 1
      have k_E7_0 := E7.out.cell 0
      have k_E7_1 := E7.out.cell 1
      have k_E8_0 := E8.out.cell 0
      have k_E8_1 := E8.out.cell 1
      have Z0 := NS.out
      obtain ⟨AT0, pT0, cT0, BT0, qT0, eT0, xT0, rfl, _, _, _⟩ := Z0
      have e9 := Blk.new w4 47 #[.slice AT0 pT0 cT0, .slice BT0 qT0 eT0]
      have hb := cba (Below.refl _ w4) (.cells #[.slice AT0 pT0 cT0, .slice BT0 qT0 eT0] 47)
      go_upto_region 6 with (fail)
      obtain ⟨T, hS⟩ : ∃ S, (w4.alloc (.cells #[.slice AT0 pT0 cT0, .slice BT0 qT0 eT0] 47)) = S := ⟨_, rfl⟩
      rw [hS] at e9 hb ⊢
      obtain ⟨g9, hg⟩ : ∃ g, w4.heap.size = g := ⟨_, rfl⟩
      rw [hg] at e9
      simp only [hg]
      replace NE5 := Lib.hid (NE5.out.below hb)
      replace NE6 := Lib.hid (NE6.out.below hb)
      replace NE7 := Lib.hid (NE7.out.below hb)
      replace NE8 := Lib.hid (NE8.out.below hb)
      replace NS := Lib.hid (NS.out.below hb)
      replace E5 := Lib.hid (blk_below E5.out hb)
      replace E6 := Lib.hid (blk_below E6.out hb)
      replace E7 := Lib.hid (blk_below E7.out hb)
      replace E8 := Lib.hid (blk_below E8.out hb)
      replace HB0 := Lib.hid (cbt HB0.out hb)
      have E9 := Lib.hid e9
      clear hS hg hb e9 k_E5_0 k_E5_1 k_E6_0 k_E6_1 k_E7_0 k_E7_1 k_E8_0 k_E8_1
      let FS : List Kept1 := [.f (s.1) (s.2), .rf (a.1) (a.2), .rf (b.1) (b.2), .rf (s.1) (s.2), .eq (.bool true), .eq (.bool true), .f (a.1) (a.2), .f (b.1) (b.2), .f (l.1) (l.2), .rf (a.1) (a.2), .rf (b.1) (b.2), .rf (l.1) (l.2), .eq (.bool true), .eq (.bool true), .eq (.bool true), .f (s.1) (s.2), .f (b.1) (b.2), .f (u.1) (u.2), .f (a.1) (a.2), .eq (.int .i64 0), .eq (.bool true), .eq (.bool true), .eq (.bool true), .f (0) (1), .rf (0) (1), .eq (.bool true), .eq (.bool true), .eq (.bool true), .f (a.1) (a.2), .f (b.1) (b.2), .f (a.1) (a.2), .rats 3 (ofL [a, b, a]), .f (r.1) (r.2), .f (s.1) (s.2), .f (a.1) (a.2), .rats 2 (ofL [s, a]), .f (r.1) (r.2), .eq (.int .i64 0), .eq (.bool true), .eq (.bool true), .eq (.bool true), .eq (.bool true), .eq (.bool true), .eq (.bool true)]
      refine region_mono (Held T (fun j => FS.getD j .any) []) (by kernel_rfl) (by kernel_rfl) (by kernel_rfl) (Held.start _ _ _ (by simp) (by simp)) ?_
      refine Steps.held ?_ ?_
      · intro L v w' hJ
        have kb := hJ.out.blk E9.out (by simp [oldsOf])
        have k0 := kb.cell 0
        have k1 := kb.cell 1
        clear kb
        go_wp2_with fail
        exact ⟨rfl, rfl, hJ.out.same (by rfl) (NS.out.keep hJ.out.held.keep)⟩
      simp only [Act.put, List.setIfInBounds_toArray, List.set_cons_zero, List.set_cons_succ, Nat.reduceAdd]
      refine Steps.held ?_ ?_
      · intro L v w' hJ
        have kb := hJ.out.blk E7.out (by simp [oldsOf])
        have k0 := kb.cell 0
        have k1 := kb.cell 1
        clear kb
        go_wp2_with fail
        exact ⟨rfl, rfl, hJ.out.same (by rfl) (NE7.out.keep hJ.out.held.keep)⟩
      simp only [Act.put, List.setIfInBounds_toArray, List.set_cons_zero, List.set_cons_succ, Nat.reduceAdd]
      refine Steps.held ?_ ?_
      · intro L v w' hJ
        have kb := hJ.out.blk E8.out (by simp [oldsOf])
        have k0 := kb.cell 0
        have k1 := kb.cell 1
        clear kb
        go_wp2_with fail
        exact ⟨rfl, rfl, hJ.out.same (by rfl) (NE8.out.keep hJ.out.held.keep)⟩
      simp only [Act.put, List.setIfInBounds_toArray, List.set_cons_zero, List.set_cons_succ, Nat.reduceAdd]
      refine Steps.held ?_ ?_
      · intro L v w' hJ
        have X0 := Lib.hid (show RF w' (v 1) (a.1) (a.2) from hJ.out.fact 1 (by kernel_rfl))
        have X1 := Lib.hid (show RF w' (v 2) (b.1) (b.2) from hJ.out.fact 2 (by kernel_rfl))
        go_wp2_with fail
        with_reducible refine (HXA.out _ _ _ X0.out X1.out).mono ?_
        rintro e w1 ⟨u, rfl, hu, hb⟩
        go_wp2_with fail
        exact ⟨rfl, rfl, hJ.out.call (by rfl) hb (hu)⟩
      simp only [Act.put, List.setIfInBounds_toArray, List.set_cons_zero, List.set_cons_succ, Nat.reduceAdd]
      refine Steps.held ?_ ?_
      · intro L v w' hJ
        have X0 := Lib.hid (show F64 w' (v 0) (s.1) (s.2) from hJ.out.fact 0 (by kernel_rfl))
        have X1 := Lib.hid (show RF w' (v 3) (s.1) (s.2) from hJ.out.fact 3 (by kernel_rfl))
        go_wp2_with fail
        with_reducible refine (HIS.out _ _ _ X0.out X1.out).mono ?_
        rintro e w1 ⟨rfl, hb⟩
        go_wp2_with fail
        exact ⟨rfl, rfl, hJ.out.call (by rfl) hb (rfl)⟩
      simp only [Act.put, List.setIfInBounds_toArray, List.set_cons_zero, List.set_cons_succ, Nat.reduceAdd]
      refine Steps.held ?_ ?_
      · intro L v w' hJ
        have hv4 : v 4 = .bool true := hJ.out.fact 4 (by kernel_rfl)
        simp only [hv4]
        clear hv4
        go_wp2_with fail
        exact ⟨rfl, rfl, hJ.out.same (by rfl) (rfl)⟩
      simp only [Act.put, List.setIfInBounds_toArray, List.set_cons_zero, List.set_cons_succ, Nat.reduceAdd]
      refine Steps.held ?_ ?_
      · intro L v w' hJ
        have hv5 : v 5 = .bool true := hJ.out.fact 5 (by kernel_rfl)
        simp only [hv5]
        clear hv5
        have kb := hJ.out.blk E5.out (by simp [oldsOf])
        have k0 := kb.cell 0
        have k1 := kb.cell 1
        clear kb
        go_wp2_with fail
        exact ⟨rfl, rfl, hJ.out.same (by rfl) (NE5.out.keep hJ.out.held.keep)⟩
      simp only [Act.put, List.setIfInBounds_toArray, List.set_cons_zero, List.set_cons_succ, Nat.reduceAdd]
      refine Steps.held ?_ ?_
      · intro L v w' hJ
        have hv5 : v 5 = .bool true := hJ.out.fact 5 (by kernel_rfl)
        simp only [hv5]
        clear hv5
        have kb := hJ.out.blk E6.out (by simp [oldsOf])
        have k0 := kb.cell 0
        have k1 := kb.cell 1
        clear kb
        go_wp2_with fail
        exact ⟨rfl, rfl, hJ.out.same (by rfl) (NE6.out.keep hJ.out.held.keep)⟩
      simp only [Act.put, List.setIfInBounds_toArray, List.set_cons_zero, List.set_cons_succ, Nat.reduceAdd]
      refine Steps.held ?_ ?_
      · intro L v w' hJ
        have hv5 : v 5 = .bool true := hJ.out.fact 5 (by kernel_rfl)
        simp only [hv5]
        clear hv5
        have X0 := Lib.hid (show F64 w' (v 6) (a.1) (a.2) from hJ.out.fact 6 (by kernel_rfl))
        have X1 := Lib.hid (show F64 w' (v 7) (b.1) (b.2) from hJ.out.fact 7 (by kernel_rfl))
        go_wp2_with fail
        with_reducible refine (HLE.out _ _ _ X0.out X1.out).mono ?_
        rintro e w1 ⟨u, rfl, hu, hb⟩
        go_wp2_with fail
        exact ⟨rfl, rfl, hJ.out.call (by rfl) hb (hu)⟩
      simp only [Act.put, List.setIfInBounds_toArray, List.set_cons_zero, List.set_cons_succ, Nat.reduceAdd]
      refine Steps.held ?_ ?_
      · intro L v w' hJ
        have hv5 : v 5 = .bool true := hJ.out.fact 5 (by kernel_rfl)
        simp only [hv5]
        clear hv5
        have kb := hJ.out.blk E7.out (by simp [oldsOf])
        have k0 := kb.cell 0
        have k1 := kb.cell 1
        clear kb
        go_wp2_with fail
        exact ⟨rfl, rfl, hJ.out.same (by rfl) (NE7.out.keep hJ.out.held.keep)⟩
      simp only [Act.put, List.setIfInBounds_toArray, List.set_cons_zero, List.set_cons_succ, Nat.reduceAdd]
      refine Steps.held ?_ ?_
      · intro L v w' hJ
        have hv5 : v 5 = .bool true := hJ.out.fact 5 (by kernel_rfl)
        simp only [hv5]
        clear hv5
        have kb := hJ.out.blk E8.out (by simp [oldsOf])
        have k0 := kb.cell 0
        have k1 := kb.cell 1
        clear kb
        go_wp2_with fail
        exact ⟨rfl, rfl, hJ.out.same (by rfl) (NE8.out.keep hJ.out.held.keep)⟩
      simp only [Act.put, List.setIfInBounds_toArray, List.set_cons_zero, List.set_cons_succ, Nat.reduceAdd]
      refine Steps.held ?_ ?_
      · intro L v w' hJ
        have hv5 : v 5 = .bool true := hJ.out.fact 5 (by kernel_rfl)
        simp only [hv5]
        clear hv5
        have X0 := Lib.hid (show RF w' (v 9) (a.1) (a.2) from hJ.out.fact 9 (by kernel_rfl))
        have X1 := Lib.hid (show RF w' (v 10) (b.1) (b.2) from hJ.out.fact 10 (by kernel_rfl))
        go_wp2_with fail
        with_reducible refine (HXL.out _ _ _ X0.out X1.out).mono ?_
        rintro e w1 ⟨u, rfl, hu, hb⟩
        go_wp2_with fail
        exact ⟨rfl, rfl, hJ.out.call (by rfl) hb (hu)⟩
      simp only [Act.put, List.setIfInBounds_toArray, List.set_cons_zero, List.set_cons_succ, Nat.reduceAdd]
      refine Steps.held ?_ ?_
      · intro L v w' hJ
        have hv5 : v 5 = .bool true := hJ.out.fact 5 (by kernel_rfl)
        simp only [hv5]
        clear hv5
        have X0 := Lib.hid (show F64 w' (v 8) (l.1) (l.2) from hJ.out.fact 8 (by kernel_rfl))
        have X1 := Lib.hid (show RF w' (v 11) (l.1) (l.2) from hJ.out.fact 11 (by kernel_rfl))
        go_wp2_with fail
        with_reducible refine (HIL.out _ _ _ X0.out X1.out).mono ?_
        rintro e w1 ⟨rfl, hb⟩
        go_wp2_with fail
        exact ⟨rfl, rfl, hJ.out.call (by rfl) hb (rfl)⟩
      simp only [Act.put, List.setIfInBounds_toArray, List.set_cons_zero, List.set_cons_succ, Nat.reduceAdd]
      refine Steps.held ?_ ?_
      · intro L v w' hJ
        have hv5 : v 5 = .bool true := hJ.out.fact 5 (by kernel_rfl)
        simp only [hv5]
        clear hv5
        have hv12 : v 12 = .bool true := hJ.out.fact 12 (by kernel_rfl)
        simp only [hv12]
        clear hv12
        go_wp2_with fail
        exact ⟨rfl, rfl, hJ.out.same (by rfl) (rfl)⟩
      simp only [Act.put, List.setIfInBounds_toArray, List.set_cons_zero, List.set_cons_succ, Nat.reduceAdd]
      refine Steps.held ?_ ?_
      · intro L v w' hJ
        have hv13 : v 13 = .bool true := hJ.out.fact 13 (by kernel_rfl)
        simp only [hv13]
        clear hv13
        go_wp2_with fail
        exact ⟨rfl, rfl, hJ.out.same (by rfl) (rfl)⟩
      simp only [Act.put, List.setIfInBounds_toArray, List.set_cons_zero, List.set_cons_succ, Nat.reduceAdd]
      refine Steps.held ?_ ?_
      · intro L v w' hJ
        have hv14 : v 14 = .bool true := hJ.out.fact 14 (by kernel_rfl)
        simp only [hv14]
        clear hv14
        have kb := hJ.out.blk E9.out (by simp [oldsOf])
        have k0 := kb.cell 0
        have k1 := kb.cell 1
        clear kb
        go_wp2_with fail
        exact ⟨rfl, rfl, hJ.out.same (by rfl) (NS.out.keep hJ.out.held.keep)⟩
      simp only [Act.put, List.setIfInBounds_toArray, List.set_cons_zero, List.set_cons_succ, Nat.reduceAdd]
      refine Steps.held ?_ ?_
      · intro L v w' hJ
        have hv14 : v 14 = .bool true := hJ.out.fact 14 (by kernel_rfl)
        simp only [hv14]
        clear hv14
        have kb := hJ.out.blk E6.out (by simp [oldsOf])
        have k0 := kb.cell 0
        have k1 := kb.cell 1
        clear kb
        go_wp2_with fail
        exact ⟨rfl, rfl, hJ.out.same (by rfl) (NE6.out.keep hJ.out.held.keep)⟩
      simp only [Act.put, List.setIfInBounds_toArray, List.set_cons_zero, List.set_cons_succ, Nat.reduceAdd]
      refine Steps.held ?_ ?_
      · intro L v w' hJ
        have hv14 : v 14 = .bool true := hJ.out.fact 14 (by kernel_rfl)
        simp only [hv14]
        clear hv14
        have X0 := Lib.hid (show F64 w' (v 15) (s.1) (s.2) from hJ.out.fact 15 (by kernel_rfl))
        have X1 := Lib.hid (show F64 w' (v 16) (b.1) (b.2) from hJ.out.fact 16 (by kernel_rfl))
        go_wp2_with fail
        with_reducible refine (HL2.out _ _ _ X0.out X1.out).mono ?_
        rintro e w1 ⟨u, rfl, hu, hb⟩
        go_wp2_with fail
        exact ⟨rfl, rfl, hJ.out.call (by rfl) hb (hu)⟩
      simp only [Act.put, List.setIfInBounds_toArray, List.set_cons_zero, List.set_cons_succ, Nat.reduceAdd]
      refine Steps.held ?_ ?_
      · intro L v w' hJ
        have hv14 : v 14 = .bool true := hJ.out.fact 14 (by kernel_rfl)
        simp only [hv14]
        clear hv14
        have kb := hJ.out.blk E5.out (by simp [oldsOf])
        have k0 := kb.cell 0
        have k1 := kb.cell 1
        clear kb
        go_wp2_with fail
        exact ⟨rfl, rfl, hJ.out.same (by rfl) (NE5.out.keep hJ.out.held.keep)⟩
      simp only [Act.put, List.setIfInBounds_toArray, List.set_cons_zero, List.set_cons_succ, Nat.reduceAdd]
      refine Steps.held ?_ ?_
      · intro L v w' hJ
        have hv14 : v 14 = .bool true := hJ.out.fact 14 (by kernel_rfl)
        simp only [hv14]
        clear hv14
        have X0 := Lib.hid (show F64 w' (v 17) (u.1) (u.2) from hJ.out.fact 17 (by kernel_rfl))
        have X1 := Lib.hid (show F64 w' (v 18) (a.1) (a.2) from hJ.out.fact 18 (by kernel_rfl))
        go_wp2_with fail
        with_reducible refine (HC1.out _ _ _ X0.out X1.out).mono ?_
        rintro e w1 ⟨rfl, hb⟩
        go_wp2_with fail
        exact ⟨rfl, rfl, hJ.out.call (by rfl) hb (rfl)⟩
      simp only [Act.put, List.setIfInBounds_toArray, List.set_cons_zero, List.set_cons_succ, Nat.reduceAdd]
      refine Steps.held ?_ ?_
      · intro L v w' hJ
        have hv19 : v 19 = .int .i64 0 := hJ.out.fact 19 (by kernel_rfl)
        simp only [hv19]
        clear hv19
        have hv14 : v 14 = .bool true := hJ.out.fact 14 (by kernel_rfl)
        simp only [hv14]
        clear hv14
        go_wp2_with fail
        exact ⟨rfl, rfl, hJ.out.same (by rfl) (rfl)⟩
      simp only [Act.put, List.setIfInBounds_toArray, List.set_cons_zero, List.set_cons_succ, Nat.reduceAdd]
      refine Steps.held ?_ ?_
      · intro L v w' hJ
        have hv14 : v 14 = .bool true := hJ.out.fact 14 (by kernel_rfl)
        simp only [hv14]
        clear hv14
        have hv20 : v 20 = .bool true := hJ.out.fact 20 (by kernel_rfl)
        simp only [hv20]
        clear hv20
        go_wp2_with fail
        exact ⟨rfl, rfl, hJ.out.same (by rfl) (rfl)⟩
      simp only [Act.put, List.setIfInBounds_toArray, List.set_cons_zero, List.set_cons_succ, Nat.reduceAdd]
      refine Steps.held ?_ ?_
      · intro L v w' hJ
        have hv21 : v 21 = .bool true := hJ.out.fact 21 (by kernel_rfl)
        simp only [hv21]
        clear hv21
        go_wp2_with fail
        exact ⟨rfl, rfl, hJ.out.same (by rfl) (rfl)⟩
      simp only [Act.put, List.setIfInBounds_toArray, List.set_cons_zero, List.set_cons_succ, Nat.reduceAdd]
      refine Steps.held ?_ ?_
      · intro L v w' hJ
        have hv22 : v 22 = .bool true := hJ.out.fact 22 (by kernel_rfl)
        simp only [hv22]
        clear hv22
        go_wp2_with fail
        with_reducible refine (HA0.out _).mono ?_
        rintro e w1 ⟨u, rfl, hu, hb⟩
        go_wp2_with fail
        exact ⟨rfl, rfl, hJ.out.call (by rfl) hb (hu)⟩
      simp only [Act.put, List.setIfInBounds_toArray, List.set_cons_zero, List.set_cons_succ, Nat.reduceAdd]
      refine Steps.held ?_ ?_
      · intro L v w' hJ
        have hv22 : v 22 = .bool true := hJ.out.fact 22 (by kernel_rfl)
        simp only [hv22]
        clear hv22
        go_wp2_with fail
        with_reducible refine (HX0.out _).mono ?_
        rintro e w1 ⟨u, rfl, hu, hb⟩
        go_wp2_with fail
        exact ⟨rfl, rfl, hJ.out.call (by rfl) hb (hu)⟩
      simp only [Act.put, List.setIfInBounds_toArray, List.set_cons_zero, List.set_cons_succ, Nat.reduceAdd]
      refine Steps.held ?_ ?_
      · intro L v w' hJ
        have hv22 : v 22 = .bool true := hJ.out.fact 22 (by kernel_rfl)
        simp only [hv22]
        clear hv22
        have X0 := Lib.hid (show F64 w' (v 23) (0) (1) from hJ.out.fact 23 (by kernel_rfl))
        have X1 := Lib.hid (show RF w' (v 24) (0) (1) from hJ.out.fact 24 (by kernel_rfl))
        go_wp2_with fail
        with_reducible refine (HI0.out _ _ _ X0.out X1.out).mono ?_
        rintro e w1 ⟨rfl, hb⟩
        go_wp2_with fail
        exact ⟨rfl, rfl, hJ.out.call (by rfl) hb (rfl)⟩
      simp only [Act.put, List.setIfInBounds_toArray, List.set_cons_zero, List.set_cons_succ, Nat.reduceAdd]
      refine Steps.held ?_ ?_
      · intro L v w' hJ
        have hv22 : v 22 = .bool true := hJ.out.fact 22 (by kernel_rfl)
        simp only [hv22]
        clear hv22
        have hv25 : v 25 = .bool true := hJ.out.fact 25 (by kernel_rfl)
        simp only [hv25]
        clear hv25
        go_wp2_with fail
        exact ⟨rfl, rfl, hJ.out.same (by rfl) (rfl)⟩
      simp only [Act.put, List.setIfInBounds_toArray, List.set_cons_zero, List.set_cons_succ, Nat.reduceAdd]
      refine Steps.held ?_ ?_
      · intro L v w' hJ
        have hv26 : v 26 = .bool true := hJ.out.fact 26 (by kernel_rfl)
        simp only [hv26]
        clear hv26
        go_wp2_with fail
        exact ⟨rfl, rfl, hJ.out.same (by rfl) (rfl)⟩
      simp only [Act.put, List.setIfInBounds_toArray, List.set_cons_zero, List.set_cons_succ, Nat.reduceAdd]
      refine Steps.held ?_ ?_
      · intro L v w' hJ
        have hv27 : v 27 = .bool true := hJ.out.fact 27 (by kernel_rfl)
        simp only [hv27]
        clear hv27
        have kb := hJ.out.blk E5.out (by simp [oldsOf])
        have k0 := kb.cell 0
        have k1 := kb.cell 1
        clear kb
        go_wp2_with fail
        exact ⟨rfl, rfl, hJ.out.same (by rfl) (NE5.out.keep hJ.out.held.keep)⟩
      simp only [Act.put, List.setIfInBounds_toArray, List.set_cons_zero, List.set_cons_succ, Nat.reduceAdd]
      refine Steps.held ?_ ?_
      · intro L v w' hJ
        have hv27 : v 27 = .bool true := hJ.out.fact 27 (by kernel_rfl)
        simp only [hv27]
        clear hv27
        have kb := hJ.out.blk E6.out (by simp [oldsOf])
        have k0 := kb.cell 0
        have k1 := kb.cell 1
        clear kb
        go_wp2_with fail
        exact ⟨rfl, rfl, hJ.out.same (by rfl) (NE6.out.keep hJ.out.held.keep)⟩
      simp only [Act.put, List.setIfInBounds_toArray, List.set_cons_zero, List.set_cons_succ, Nat.reduceAdd]
      refine Steps.held ?_ ?_
      · intro L v w' hJ
        have hv27 : v 27 = .bool true := hJ.out.fact 27 (by kernel_rfl)
        simp only [hv27]
        clear hv27
        have kb := hJ.out.blk E5.out (by simp [oldsOf])
        have k0 := kb.cell 0
        have k1 := kb.cell 1
        clear kb
        go_wp2_with fail
        exact ⟨rfl, rfl, hJ.out.same (by rfl) (NE5.out.keep hJ.out.held.keep)⟩
      simp only [Act.put, List.setIfInBounds_toArray, List.set_cons_zero, List.set_cons_succ, Nat.reduceAdd]
      refine Steps.held ?_ ?_
      · intro L v w' hJ
        have hv27 : v 27 = .bool true := hJ.out.fact 27 (by kernel_rfl)
        simp only [hv27]
        clear hv27
        have hN0 : F64 w' (v 28) (a.1) (a.2) := hJ.out.fact 28 (by kernel_rfl)
        obtain ⟨A0, p0, c0, B0, q0, e0, x0, hv0, h1, h2, h3⟩ := hN0
        have HN0 := Lib.hid (show F64 w' (.agg #[.slice A0 p0 c0, .slice B0 q0 e0]) (a.1) (a.2) from ⟨A0, p0, c0, B0, q0, e0, x0, rfl, h1, h2, h3⟩)
        clear h1 h2 h3
        have hN1 : F64 w' (v 29) (b.1) (b.2) := hJ.out.fact 29 (by kernel_rfl)
        obtain ⟨A1, p1, c1, B1, q1, e1, x1, hv1, h1, h2, h3⟩ := hN1
        have HN1 := Lib.hid (show F64 w' (.agg #[.slice A1 p1 c1, .slice B1 q1 e1]) (b.1) (b.2) from ⟨A1, p1, c1, B1, q1, e1, x1, rfl, h1, h2, h3⟩)
        clear h1 h2 h3
        have hN2 : F64 w' (v 30) (a.1) (a.2) := hJ.out.fact 30 (by kernel_rfl)
        obtain ⟨A2, p2, c2, B2, q2, e2, x2, hv2, h1, h2, h3⟩ := hN2
        have HN2 := Lib.hid (show F64 w' (.agg #[.slice A2 p2 c2, .slice B2 q2 e2]) (a.1) (a.2) from ⟨A2, p2, c2, B2, q2, e2, x2, rfl, h1, h2, h3⟩)
        clear h1 h2 h3
        simp only [hv0, hv1, hv2]
        clear hv0 hv1 hv2
        go_wp2_with fail
        exact ⟨rfl, rfl, hJ.out.call (by rfl) (cba (Below.refl _ w') _) (RowF.three (Blk.new w' 47 #[.slice A0 p0 c0, .slice B0 q0 e0, .slice A1 p1 c1, .slice B1 q1 e1, .slice A2 p2 c2, .slice B2 q2 e2]) (HN0.out.below (cba (Below.refl _ w') _)) (HN1.out.below (cba (Below.refl _ w') _)) (HN2.out.below (cba (Below.refl _ w') _)))⟩
      simp only [Act.put, List.setIfInBounds_toArray, List.set_cons_zero, List.set_cons_succ, Nat.reduceAdd]
      refine Steps.held ?_ ?_
      · intro L v w' hJ
        have hv27 : v 27 = .bool true := hJ.out.fact 27 (by kernel_rfl)
        simp only [hv27]
        clear hv27
        have X0 := Lib.hid (show RowF w' (v 31) 3 (ofL [a, b, a]) from hJ.out.fact 31 (by kernel_rfl))
        go_wp2_with fail
        with_reducible refine (HA3.out _ _ X0.out).mono ?_
        rintro e w1 ⟨u, rfl, hu, hb⟩
        go_wp2_with fail
        exact ⟨rfl, rfl, hJ.out.call (by rfl) hb (hu)⟩
      simp only [Act.put, List.setIfInBounds_toArray, List.set_cons_zero, List.set_cons_succ, Nat.reduceAdd]
      refine Steps.held ?_ ?_
      · intro L v w' hJ
        have hv27 : v 27 = .bool true := hJ.out.fact 27 (by kernel_rfl)
        simp only [hv27]
        clear hv27
        have kb := hJ.out.blk E9.out (by simp [oldsOf])
        have k0 := kb.cell 0
        have k1 := kb.cell 1
        clear kb
        go_wp2_with fail
        exact ⟨rfl, rfl, hJ.out.same (by rfl) (NS.out.keep hJ.out.held.keep)⟩
      simp only [Act.put, List.setIfInBounds_toArray, List.set_cons_zero, List.set_cons_succ, Nat.reduceAdd]
      refine Steps.held ?_ ?_
      · intro L v w' hJ
        have hv27 : v 27 = .bool true := hJ.out.fact 27 (by kernel_rfl)
        simp only [hv27]
        clear hv27
        have kb := hJ.out.blk E5.out (by simp [oldsOf])
        have k0 := kb.cell 0
        have k1 := kb.cell 1
        clear kb
        go_wp2_with fail
        exact ⟨rfl, rfl, hJ.out.same (by rfl) (NE5.out.keep hJ.out.held.keep)⟩
      simp only [Act.put, List.setIfInBounds_toArray, List.set_cons_zero, List.set_cons_succ, Nat.reduceAdd]
      refine Steps.held ?_ ?_
      · intro L v w' hJ
        have hv27 : v 27 = .bool true := hJ.out.fact 27 (by kernel_rfl)
        simp only [hv27]
        clear hv27
        have hN0 : F64 w' (v 33) (s.1) (s.2) := hJ.out.fact 33 (by kernel_rfl)
        obtain ⟨A0, p0, c0, B0, q0, e0, x0, hv0, h1, h2, h3⟩ := hN0
        have HN0 := Lib.hid (show F64 w' (.agg #[.slice A0 p0 c0, .slice B0 q0 e0]) (s.1) (s.2) from ⟨A0, p0, c0, B0, q0, e0, x0, rfl, h1, h2, h3⟩)
        clear h1 h2 h3
        have hN1 : F64 w' (v 34) (a.1) (a.2) := hJ.out.fact 34 (by kernel_rfl)
        obtain ⟨A1, p1, c1, B1, q1, e1, x1, hv1, h1, h2, h3⟩ := hN1
        have HN1 := Lib.hid (show F64 w' (.agg #[.slice A1 p1 c1, .slice B1 q1 e1]) (a.1) (a.2) from ⟨A1, p1, c1, B1, q1, e1, x1, rfl, h1, h2, h3⟩)
        clear h1 h2 h3
        simp only [hv0, hv1]
        clear hv0 hv1
        go_wp2_with fail
        exact ⟨rfl, rfl, hJ.out.call (by rfl) (cba (Below.refl _ w') _) (RowF.two (Blk.new w' 47 #[.slice A0 p0 c0, .slice B0 q0 e0, .slice A1 p1 c1, .slice B1 q1 e1]) (HN0.out.below (cba (Below.refl _ w') _)) (HN1.out.below (cba (Below.refl _ w') _)))⟩
      simp only [Act.put, List.setIfInBounds_toArray, List.set_cons_zero, List.set_cons_succ, Nat.reduceAdd]
      refine Steps.held ?_ ?_
      · intro L v w' hJ
        have hv27 : v 27 = .bool true := hJ.out.fact 27 (by kernel_rfl)
        simp only [hv27]
        clear hv27
        have X0 := Lib.hid (show RowF w' (v 35) 2 (ofL [s, a]) from hJ.out.fact 35 (by kernel_rfl))
        go_wp2_with fail
        with_reducible refine (HA2.out _ _ X0.out).mono ?_
        rintro e w1 ⟨u, rfl, hu, hb⟩
        go_wp2_with fail
        exact ⟨rfl, rfl, hJ.out.call (by rfl) hb (hu)⟩
      simp only [Act.put, List.setIfInBounds_toArray, List.set_cons_zero, List.set_cons_succ, Nat.reduceAdd]
      refine Steps.held ?_ ?_
      · intro L v w' hJ
        have hv27 : v 27 = .bool true := hJ.out.fact 27 (by kernel_rfl)
        simp only [hv27]
        clear hv27
        have X0 := Lib.hid (show F64 w' (v 32) (r.1) (r.2) from hJ.out.fact 32 (by kernel_rfl))
        have X1 := Lib.hid (show F64 w' (v 36) (r.1) (r.2) from hJ.out.fact 36 (by kernel_rfl))
        go_wp2_with fail
        with_reducible refine (HC2.out _ _ _ X0.out X1.out).mono ?_
        rintro e w1 ⟨rfl, hb⟩
        go_wp2_with fail
        exact ⟨rfl, rfl, hJ.out.call (by rfl) hb (rfl)⟩
      simp only [Act.put, List.setIfInBounds_toArray, List.set_cons_zero, List.set_cons_succ, Nat.reduceAdd]
      refine Steps.held ?_ ?_
      · intro L v w' hJ
        have hv37 : v 37 = .int .i64 0 := hJ.out.fact 37 (by kernel_rfl)
        simp only [hv37]
        clear hv37
        have hv27 : v 27 = .bool true := hJ.out.fact 27 (by kernel_rfl)
        simp only [hv27]
        clear hv27
        go_wp2_with fail
        exact ⟨rfl, rfl, hJ.out.same (by rfl) (rfl)⟩
      simp only [Act.put, List.setIfInBounds_toArray, List.set_cons_zero, List.set_cons_succ, Nat.reduceAdd]
      refine Steps.held ?_ ?_
      · intro L v w' hJ
        have hv27 : v 27 = .bool true := hJ.out.fact 27 (by kernel_rfl)
        simp only [hv27]
        clear hv27
        have hv38 : v 38 = .bool true := hJ.out.fact 38 (by kernel_rfl)
        simp only [hv38]
        clear hv38
        go_wp2_with fail
        exact ⟨rfl, rfl, hJ.out.same (by rfl) (rfl)⟩
      simp only [Act.put, List.setIfInBounds_toArray, List.set_cons_zero, List.set_cons_succ, Nat.reduceAdd]
      refine Steps.held ?_ ?_
      · intro L v w' hJ
        have hv39 : v 39 = .bool true := hJ.out.fact 39 (by kernel_rfl)
        simp only [hv39]
        clear hv39
        go_wp2_with fail
        exact ⟨rfl, rfl, hJ.out.same (by rfl) (rfl)⟩
      simp only [Act.put, List.setIfInBounds_toArray, List.set_cons_zero, List.set_cons_succ, Nat.reduceAdd]
      refine Steps.held ?_ ?_
      · intro L v w' hJ
        have hv40 : v 40 = .bool true := hJ.out.fact 40 (by kernel_rfl)
        simp only [hv40]
        clear hv40
        go_wp2_with fail
        with_reducible refine (HLV.out _).mono ?_
        rintro e w1 ⟨rfl, hb⟩
        go_wp2_with fail
        exact ⟨rfl, rfl, hJ.out.call (by rfl) hb (rfl)⟩
      simp only [Act.put, List.setIfInBounds_toArray, List.set_cons_zero, List.set_cons_succ, Nat.reduceAdd]
      refine Steps.held ?_ ?_
      · intro L v w' hJ
        have hv40 : v 40 = .bool true := hJ.out.fact 40 (by kernel_rfl)
        simp only [hv40]
        clear hv40
        have hv41 : v 41 = .bool true := hJ.out.fact 41 (by kernel_rfl)
        simp only [hv41]
        clear hv41
        go_wp2_with fail
        exact ⟨rfl, rfl, hJ.out.same (by rfl) (rfl)⟩
      simp only [Act.put, List.setIfInBounds_toArray, List.set_cons_zero, List.set_cons_succ, Nat.reduceAdd]
      refine Steps.held ?_ ?_
      · intro L v w' hJ
        have hv42 : v 42 = .bool true := hJ.out.fact 42 (by kernel_rfl)
        simp only [hv42]
        clear hv42
        go_wp2_with fail
        exact ⟨rfl, rfl, hJ.out.same (by rfl) (rfl)⟩
      simp only [Act.put, List.setIfInBounds_toArray, List.set_cons_zero, List.set_cons_succ, Nat.reduceAdd]
      refine Steps.nil ?_
      intro v w' hJ
      have h43 : v 43 = .bool true := hJ.end_fact 43 (by decide)
      have HF := Lib.hid (cbt HB0.out hJ.but.below)
      clear hJ
      simp only [h43]
      clear h43
      go_wp2_with fail
      go_ret
      exact ⟨rfl, HF.out⟩
    · have hzy : ly.length ≤ 16 → 16 < my.length := fun h1 => by omega
      have HSx : Hid (∀ v W, Frc W v lx mx → Calls Try.prog 64 #[v, .int .i64 16] W (fun x w' => x = .returned (.bool true) ∧ Below W.heap.size W w')) := Lib.hid (fun v W h => c_small (k := 16) h (by simp [hxx, hyx]))
      have HSy : Hid (∀ v W, Frc W v ly my → Calls Try.prog 64 #[v, .int .i64 16] W (fun x w' => x = .returned (.bool false) ∧ Below W.heap.size W w')) := Lib.hid (fun v W h => c_small (k := 16) h (by simpa using hzy))
      have e0 := (Blk.new (w) 45 #[(.slice Ux nx cx), (.slice Vx kx dx)]).alloc (.cells #[(.slice Uy ny cy), (.slice Vy ky dy)] 45)
      have e1 := Blk.new ((w).alloc (.cells #[(.slice Ux nx cx), (.slice Vx kx dx)] 45)) 45 #[(.slice Uy ny cy), (.slice Vy ky dy)]
      have hb := cba (cba (Below.refl _ w) (.cells #[(.slice Ux nx cx), (.slice Vx kx dx)] 45)) (.cells #[(.slice Uy ny cy), (.slice Vy ky dy)] 45)
      simp only [World.size_alloc] at e1
      have hsz : w.heap.size ≤ w.heap.size := Nat.le_refl _
      go_enter Try.func14, Try.ntmps14
      go_upto_region 1 with (fail)
      obtain ⟨S, hS⟩ : ∃ S, ((w).alloc (.cells #[(.slice Ux nx cx), (.slice Vx kx dx)] 45)).alloc (.cells #[(.slice Uy ny cy), (.slice Vy ky dy)] 45) = S := ⟨_, rfl⟩
      rw [hS] at e0 e1 hb ⊢
      replace Hx := Lib.hid (Hx.out.below hb)
      replace Hy := Lib.hid (Hy.out.below hb)
      have HB0 := Lib.hid hb
      have E0 := Lib.hid e0
      have E1 := Lib.hid e1
      clear hS hb hsz e0 e1
      have k_E0_0 := E0.out.cell 0
      have k_E0_1 := E0.out.cell 1
      have k_E1_0 := E1.out.cell 0
      have k_E1_1 := E1.out.cell 1
      go_wp2_with fail
      with_reducible refine (HSx.out _ _ Hx.out).mono ?_
      rintro e w1 ⟨rfl, hb⟩
      clear k_E0_0 k_E0_1 k_E1_0 k_E1_1
      replace Hx := Lib.hid (Hx.out.below hb)
      replace Hy := Lib.hid (Hy.out.below hb)
      replace E0 := Lib.hid (blk_below E0.out hb)
      replace E1 := Lib.hid (blk_below E1.out hb)
      replace HB0 := Lib.hid (cbt HB0.out hb)
      clear hb
      have k_E0_0 := E0.out.cell 0
      have k_E0_1 := E0.out.cell 1
      have k_E1_0 := E1.out.cell 0
      have k_E1_1 := E1.out.cell 1
      go_wp2_with fail
      with_reducible refine (HSy.out _ _ Hy.out).mono ?_
      rintro e w1 ⟨rfl, hb⟩
      clear k_E0_0 k_E0_1 k_E1_0 k_E1_1
      replace Hx := Lib.hid (Hx.out.below hb)
      replace Hy := Lib.hid (Hy.out.below hb)
      replace E0 := Lib.hid (blk_below E0.out hb)
      replace E1 := Lib.hid (blk_below E1.out hb)
      replace HB0 := Lib.hid (cbt HB0.out hb)
      clear hb
      have k_E0_0 := E0.out.cell 0
      have k_E0_1 := E0.out.cell 1
      have k_E1_0 := E1.out.cell 0
      have k_E1_1 := E1.out.cell 1
      go_wp2_with fail
      with_reducible refine (live26_any _).mono ?_
      rintro e w1 ⟨rfl, hb⟩
      clear k_E0_0 k_E0_1 k_E1_0 k_E1_1
      replace Hx := Lib.hid (Hx.out.below hb)
      replace Hy := Lib.hid (Hy.out.below hb)
      replace E0 := Lib.hid (blk_below E0.out hb)
      replace E1 := Lib.hid (blk_below E1.out hb)
      replace HB0 := Lib.hid (cbt HB0.out hb)
      clear hb
      have k_E0_0 := E0.out.cell 0
      have k_E0_1 := E0.out.cell 1
      have k_E1_0 := E1.out.cell 0
      have k_E1_1 := E1.out.cell 1
      go_wp2_with fail
      go_ret
      exact ⟨rfl, HB0.out⟩
  · have hzx : lx.length ≤ 16 → 16 < mx.length := fun h1 => by omega
    have HSx : Hid (∀ v W, Frc W v lx mx → Calls Try.prog 64 #[v, .int .i64 16] W (fun x w' => x = .returned (.bool false) ∧ Below W.heap.size W w')) := Lib.hid (fun v W h => c_small (k := 16) h (by simpa using hzx))
    have e0 := (Blk.new (w) 45 #[(.slice Ux nx cx), (.slice Vx kx dx)]).alloc (.cells #[(.slice Uy ny cy), (.slice Vy ky dy)] 45)
    have e1 := Blk.new ((w).alloc (.cells #[(.slice Ux nx cx), (.slice Vx kx dx)] 45)) 45 #[(.slice Uy ny cy), (.slice Vy ky dy)]
    have hb := cba (cba (Below.refl _ w) (.cells #[(.slice Ux nx cx), (.slice Vx kx dx)] 45)) (.cells #[(.slice Uy ny cy), (.slice Vy ky dy)] 45)
    simp only [World.size_alloc] at e1
    have hsz : w.heap.size ≤ w.heap.size := Nat.le_refl _
    go_enter Try.func14, Try.ntmps14
    go_upto_region 1 with (fail)
    obtain ⟨S, hS⟩ : ∃ S, ((w).alloc (.cells #[(.slice Ux nx cx), (.slice Vx kx dx)] 45)).alloc (.cells #[(.slice Uy ny cy), (.slice Vy ky dy)] 45) = S := ⟨_, rfl⟩
    rw [hS] at e0 e1 hb ⊢
    replace Hx := Lib.hid (Hx.out.below hb)
    replace Hy := Lib.hid (Hy.out.below hb)
    have HB0 := Lib.hid hb
    have E0 := Lib.hid e0
    have E1 := Lib.hid e1
    clear hS hb hsz e0 e1
    have k_E0_0 := E0.out.cell 0
    have k_E0_1 := E0.out.cell 1
    have k_E1_0 := E1.out.cell 0
    have k_E1_1 := E1.out.cell 1
    go_wp2_with fail
    with_reducible refine (HSx.out _ _ Hx.out).mono ?_
    rintro e w1 ⟨rfl, hb⟩
    clear k_E0_0 k_E0_1 k_E1_0 k_E1_1
    replace Hx := Lib.hid (Hx.out.below hb)
    replace Hy := Lib.hid (Hy.out.below hb)
    replace E0 := Lib.hid (blk_below E0.out hb)
    replace E1 := Lib.hid (blk_below E1.out hb)
    replace HB0 := Lib.hid (cbt HB0.out hb)
    clear hb
    have k_E0_0 := E0.out.cell 0
    have k_E0_1 := E0.out.cell 1
    have k_E1_0 := E1.out.cell 0
    have k_E1_1 := E1.out.cell 1
    go_wp2_with fail
    with_reducible refine (live26_any _).mono ?_
    rintro e w1 ⟨rfl, hb⟩
    clear k_E0_0 k_E0_1 k_E1_0 k_E1_1
    replace Hx := Lib.hid (Hx.out.below hb)
    replace Hy := Lib.hid (Hy.out.below hb)
    replace E0 := Lib.hid (blk_below E0.out hb)
    replace E1 := Lib.hid (blk_below E1.out hb)
    replace HB0 := Lib.hid (cbt HB0.out hb)
    clear hb
    have k_E0_0 := E0.out.cell 0
    have k_E0_1 := E0.out.cell 1
    have k_E1_0 := E1.out.cell 0
    have k_E1_1 := E1.out.cell 1
    go_wp2_with fail
    go_ret
    exact ⟨rfl, HB0.out⟩
end Go.Proofs.Yteikhnmmkanndaa
namespace Go.Proofs.Yteikhnmmkanndaa
open Go.ChangeShapes Go.WideShapes Go.RowKit Go.Proofs.YteikhnmmkanndaaW.PrintWords
section
variable {H : Type} {enc : TypeId × Value → H} {w : World} {base : Nat} {spare : Nat → Bool} {held : Bool}
theorem open_bytes1 {fuel : Nat} {u : Value} {x : DataW H × List MemPlace} (h : DataW.trod enc Try.prog w base spare held fuel 22 [u] = some x) :
    ∃ A n c, ∃ l : List Int, u = .slice A n c ∧ l.length = n ∧ ByS w (.slice A n c) l ∧ Bys l := by
  rcases open_ints Try.underlying22 (e := 5) (k := .u8) (by kernel_rfl) (by kernel_rfl) h with ⟨hcs, _⟩ | ⟨a, l, c, zs, hcs, _⟩
  · obtain rfl : u = .slice none 0 0 := by simpa using hcs
    obtain ⟨l, h1, h2, h3⟩ := open_bytes_at h
    exact ⟨_, _, _, l, rfl, h1, h2, h3⟩
  · obtain rfl : u = .slice (some a) l c := by simpa using hcs
    obtain ⟨l, h1, h2, h3⟩ := open_bytes_at h
    exact ⟨_, _, _, l, rfl, h1, h2, h3⟩
theorem open_frc_at {fuel : Nat} {cs : Array Value} {x : DataW H × List MemPlace} (h2 : cs.size = 2) (h : DataW.trod enc Try.prog w base spare held fuel 45 cs.toList = some x) : ∃ l m : List Int, Frc w (.agg cs) l m ∧ Bys l ∧ Bys m := by
  obtain ⟨y0, y1, n, _, _, h0, h1⟩ := trod_struct2 Try.underlying45 h
  have hc : Try.prog.cellsOf 22 = 1 := by kernel_rfl
  simp only [hc] at h0 h1
  obtain ⟨l⟩ := cs
  rcases l with _ | ⟨a, _ | ⟨b, _ | ⟨c, t⟩⟩⟩
  · exact absurd h2 (by simp)
  · exact absurd h2 (by simp)
  · obtain ⟨A, p, c, l, rfl, hl, hA, yl⟩ := open_bytes1 (u := a) h0
    obtain ⟨B, q, d, m, rfl, hm, hB, ym⟩ := open_bytes1 (u := b) h1
    exact ⟨l, m, ⟨A, p, c, B, q, d, rfl, hA, hB, hl, hm⟩, yl, ym⟩
  · exact absurd h2 (by simp)
end
end Go.Proofs.Yteikhnmmkanndaa
