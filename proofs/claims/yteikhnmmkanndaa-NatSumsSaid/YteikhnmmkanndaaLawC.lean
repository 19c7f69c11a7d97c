/- The walks of the laws NatBack, NatDivs, NatSums. -/
import Derived.Test.YteikhnmmkanndaaLawB
import Derived.Test.YteikhnmmkanndaaKeep
namespace Go.Proofs.Yteikhnmmkanndaa
open Go.RowKit Go.Proofs.YteikhnmmkanndaaW.PrintWords
set_option linter.unusedSimpArgs false
set_option linter.unusedVariables false

theorem wl_add_le {k x y a : Nat} (hk : 0 < k) (hx : wl k x ≤ a) (hy : wl k y ≤ a) : wl k (x + y) ≤ a + 1 := by
  rw [wl_le hk] at hx hy ⊢
  rw [Nat.mul_add, Nat.mul_one, Nat.pow_add]
  have : 2 ^ 1 ≤ 2 ^ k := Nat.pow_le_pow_right (by decide) hk
  have h2 : 2 ^ (k * a) * 2 ≤ 2 ^ (k * a) * 2 ^ k := Nat.mul_le_mul_left _ this
  omega
theorem cmpN_ge {x y : Nat} (h : y ≤ x) : 0 ≤ cmpN x y := by
  rcases Nat.eq_or_lt_of_le h with rfl | h
  · rw [cmpN_self]; exact Int.le_refl _
  · rw [cmpN_gt h]; decide
theorem ncmp_eq (va vb : Value) (x : Nat) (w : World) (ha : N64 w va x) (hb : N64 w vb x) : Calls Try.prog 22 #[va, vb] w fun e w' => e = .returned (.int .i64 0) ∧ Below w.heap.size w w' := by
  have := ncmp_any va vb x x w ha hb
  rwa [cmpN_self] at this
theorem ncmp_lt (va vb : Value) (x y : Nat) (w : World) (ha : N64 w va x) (hb : N64 w vb y) (h : x < y) : Calls Try.prog 22 #[va, vb] w fun e w' => e = .returned (.int .i64 (-1)) ∧ Below w.heap.size w w' := by
  have := ncmp_any va vb x y w ha hb
  rwa [cmpN_lt h] at this
set_option maxRecDepth 100000 in
set_option maxHeartbeats 4000000 in
theorem natBack_law (Ax : Option Addr) (nx cx : Nat) (lx : List Int) (Ay : Option Addr) (ny cy : Nat) (ly : List Int) (Az : Option Addr) (nz cz : Nat) (lz : List Int) (w : World) (hxl : lx.length = nx) (hx : ByS w (.slice Ax nx cx) lx) (hxb : Bys lx) (hyl : ly.length = ny) (hy : ByS w (.slice Ay ny cy) ly) (hyb : Bys ly) (hzl : lz.length = nz) (hz : ByS w (.slice Az nz cz) lz) (hzb : Bys lz) :
    Calls Try.prog 3 #[.slice Ax nx cx, .slice Ay ny cy, .slice Az nz cz] w fun e w' => e = .returned (.bool true) ∧ Below w.heap.size w w' := by
  have Hx := Lib.hid hx
  have HxB := Lib.hid hxb
  have HxL := Lib.hid hxl
  clear hx hxb hxl
  have Hy := Lib.hid hy
  have HyB := Lib.hid hyb
  have HyL := Lib.hid hyl
  clear hy hyb hyl
  have Hz := Lib.hid hz
  have HzB := Lib.hid hzb
  have HzL := Lib.hid hzl
  clear hz hzb hzl
  by_cases h1 : nx ≤ 300
  · by_cases h2 : ny ≤ 300
    · by_cases h3 : nz ≤ 300
      · have d1 : decide (300 < (nx : Int)) = false := decide_eq_false (by omega)
        have d2 : decide (300 < (ny : Int)) = false := decide_eq_false (by omega)
        have d3 : decide (300 < (nz : Int)) = false := decide_eq_false (by omega)
        have x64 := be_w64 HxB.out
        have x8 := be_wl HxB.out
        rw [HxL.out] at x64 x8
        have bdx : lx.length ≤ 1099511627776 := by rw [HxL.out]; omega
        obtain ⟨x, hx⟩ : ∃ x, be lx = x := ⟨_, rfl⟩
        have HRx := Lib.hid (fun W h => nread_any (.slice Ax nx cx) lx W h HxB.out bdx)
        have HOx := Lib.hid (fun W h => rof_any (.slice Ax nx cx) lx W h HxB.out bdx)
        rw [hx] at HRx HOx x64 x8
        have y64 := be_w64 HyB.out
        have y8 := be_wl HyB.out
        rw [HyL.out] at y64 y8
        have bdy : ly.length ≤ 1099511627776 := by rw [HyL.out]; omega
        obtain ⟨y, hy⟩ : ∃ y, be ly = y := ⟨_, rfl⟩
        have HRy := Lib.hid (fun W h => nread_any (.slice Ay ny cy) ly W h HyB.out bdy)
        have HOy := Lib.hid (fun W h => rof_any (.slice Ay ny cy) ly W h HyB.out bdy)
        rw [hy] at HRy HOy y64 y8
        have z64 := be_w64 HzB.out
        have z8 := be_wl HzB.out
        rw [HzL.out] at z64 z8
        have bdz : lz.length ≤ 1099511627776 := by rw [HzL.out]; omega
        obtain ⟨z, hz⟩ : ∃ z, be lz = z := ⟨_, rfl⟩
        have HRz := Lib.hid (fun W h => nread_any (.slice Az nz cz) lz W h HzB.out bdz)
        have HOz := Lib.hid (fun W h => rof_any (.slice Az nz cz) lz W h HzB.out bdz)
        rw [hz] at HRz HOz z64 z8
        have pxy := wl_mul_le (by decide) x64 y64
        have HB0 := Lib.hid (Below.refl w.heap.size w)
        have HCZ := Lib.hid (fun va vb W h1 h2 => ncmp_any va vb z y W h1 h2)
        have HMU := Lib.hid (fun va vb W h1 h2 => nmul_any va vb x y W h1 h2 (by omega) (by omega))
        have HAD := Lib.hid (fun va vb W h1 h2 => nadd_any va vb (x * y) z W h1 h2 (by omega) (by omega))
        have sxy : wl 64 (x * y + z) ≤ 800 := Nat.le_trans (wl_add_le (k := 64) (x := x * y) (y := z) (a := 700) (by decide) (by omega) (by omega)) (by omega)
        go_enter Try.func3, Try.ntmps3
        go_wp2_with fail
        refine (HRx.out _ Hx.out).mono ?_
        rintro e w1 ⟨u, rfl, hu, hb⟩
        replace Hx := Lib.hid (Hx.out.below hb)
        replace Hy := Lib.hid (Hy.out.below hb)
        replace Hz := Lib.hid (Hz.out.below hb)
        replace HB0 := Lib.hid (cbt HB0.out hb)
        have Nx := Lib.hid hu
        clear hb hu
        go_wp2_with fail
        refine (HRy.out _ Hy.out).mono ?_
        rintro e w1 ⟨u, rfl, hu, hb⟩
        replace Hx := Lib.hid (Hx.out.below hb)
        replace Hy := Lib.hid (Hy.out.below hb)
        replace Hz := Lib.hid (Hz.out.below hb)
        replace Nx := Lib.hid (Nx.out.below hb)
        replace HB0 := Lib.hid (cbt HB0.out hb)
        have Ny := Lib.hid hu
        clear hb hu
        go_wp2_with fail
        refine (HRz.out _ Hz.out).mono ?_
        rintro e w1 ⟨u, rfl, hu, hb⟩
        replace Hx := Lib.hid (Hx.out.below hb)
        replace Hy := Lib.hid (Hy.out.below hb)
        replace Hz := Lib.hid (Hz.out.below hb)
        replace Nx := Lib.hid (Nx.out.below hb)
        replace Ny := Lib.hid (Ny.out.below hb)
        replace HB0 := Lib.hid (cbt HB0.out hb)
        have Nz := Lib.hid hu
        clear hb hu
        have Z0 := Nx.out
        obtain ⟨PS0, cpS0, rfl, _, _, _⟩ := Z0
        have Z1 := Ny.out
        obtain ⟨PS1, cpS1, rfl, _, _, _⟩ := Z1
        have Z2 := Nz.out
        obtain ⟨PS2, cpS2, rfl, _, _, _⟩ := Z2
        have e1 := ((Blk.new w1 26 #[.slice PS0 (wl 64 (x)) cpS0]).alloc (.cells #[.slice PS1 (wl 64 (y)) cpS1] 26)).alloc (.cells #[.slice PS2 (wl 64 (z)) cpS2] 26)
        have e2 := (Blk.new (w1.alloc (.cells #[.slice PS0 (wl 64 (x)) cpS0] 26)) 26 #[.slice PS1 (wl 64 (y)) cpS1]).alloc (.cells #[.slice PS2 (wl 64 (z)) cpS2] 26)
        have e3 := Blk.new ((w1.alloc (.cells #[.slice PS0 (wl 64 (x)) cpS0] 26)).alloc (.cells #[.slice PS1 (wl 64 (y)) cpS1] 26)) 26 #[.slice PS2 (wl 64 (z)) cpS2]
        have hb := cba (cba (cba (Below.refl _ w1) (.cells #[.slice PS0 (wl 64 (x)) cpS0] 26)) (.cells #[.slice PS1 (wl 64 (y)) cpS1] 26)) (.cells #[.slice PS2 (wl 64 (z)) cpS2] 26)
        simp only [World.size_alloc] at e2 e3
        go_upto_region 4 with (fail)
        obtain ⟨S, hS⟩ : ∃ S, (((w1.alloc (.cells #[.slice PS0 (wl 64 (x)) cpS0] 26)).alloc (.cells #[.slice PS1 (wl 64 (y)) cpS1] 26)).alloc (.cells #[.slice PS2 (wl 64 (z)) cpS2] 26)) = S := ⟨_, rfl⟩
        rw [hS] at e1 e2 e3 hb ⊢
        obtain ⟨g1, hg⟩ : ∃ g, w1.heap.size = g := ⟨_, rfl⟩
        rw [hg] at e1 e2 e3
        simp only [hg]
        replace Nx := Lib.hid (Nx.out.below hb)
        replace Ny := Lib.hid (Ny.out.below hb)
        replace Nz := Lib.hid (Nz.out.below hb)
        replace HB0 := Lib.hid (cbt HB0.out hb)
        have E1 := Lib.hid e1
        have E2 := Lib.hid e2
        have E3 := Lib.hid e3
        clear hS hg hb e1 e2 e3
        have k_E1_0 := E1.out.cell 0
        have k_E2_0 := E2.out.cell 0
        have k_E3_0 := E3.out.cell 0
        go_wp2_with fail
        refine (HCZ.out _ _ _ Nz.out Ny.out).mono ?_
        rintro e w1 ⟨rfl, hb⟩
        clear k_E1_0 k_E2_0 k_E3_0
        replace Nx := Lib.hid (Nx.out.below hb)
        replace Ny := Lib.hid (Ny.out.below hb)
        replace Nz := Lib.hid (Nz.out.below hb)
        replace E1 := Lib.hid (blk_below E1.out hb)
        replace E2 := Lib.hid (blk_below E2.out hb)
        replace E3 := Lib.hid (blk_below E3.out hb)
        replace HB0 := Lib.hid (cbt HB0.out hb)
        clear hb
        have k_E1_0 := E1.out.cell 0
        have k_E2_0 := E2.out.cell 0
        have k_E3_0 := E3.out.cell 0
        by_cases hzy : z < y
        · have hc : cmpN z y = -1 := cmpN_lt hzy
          rw [hc]
          have q1 : (x * y + z) / y = x := by rw [Nat.mul_comm, Nat.mul_add_div (by omega), Nat.div_eq_of_lt hzy, Nat.add_zero]
          have q2 : (x * y + z) % y = z := by rw [Nat.mul_comm, Nat.mul_add_mod, Nat.mod_eq_of_lt hzy]
          have HDV := Lib.hid (fun va vb W h1 h2 => ndiv_any va vb (x * y + z) y W h1 h2 (by omega) (by omega))
          rw [q1, q2] at HDV
          have HCX := Lib.hid (fun va vb W h1 h2 => ncmp_any va vb x x W h1 h2)
          have HCQ := Lib.hid (fun va vb W h1 h2 => ncmp_any va vb z z W h1 h2)
          rw [cmpN_self] at HCX HCQ
          clear x64 x8 y64 y8 z64 z8 bdx bdy bdz pxy sxy hx hy hz hzy hc q1 q2 h1 h2 h3 d1 d2 d3
          go_wp2_with fail
          let FS : List Kept1 := [.n x, .n y, .n (x * y), .n z, .n (x * y + z), .n y, .three (.n x) (.n z) (.eq (.int .i64 0)), .three (.n x) (.n z) (.eq (.int .i64 0)), .n x, .n z, .eq (.int .i64 0), .any, .any, .any, .any, .eq (.int .i64 0)]
          let BS : List Bx := [Bx.nat (.inl 11) 13 #[.slice none 0 0] x, Bx.nat (.inl 12) 14 #[.slice none 0 0] z]
          refine region_mono (Held w1 (fun j => FS.getD j .any) BS) (by kernel_rfl) (by kernel_rfl) (by kernel_rfl) (Held.start _ _ _ (by simp [BS, Bx.nat, Bx.rat, Bx.ref]) (by simp [BS, Bx.nat, Bx.rat, Bx.ref])) ?_
          refine Steps.held ?_ ?_
          · intro L v w' hJ
            have kb := hJ.out.blk E1.out (by simp [oldsOf, BS, Bx.nat, Bx.rat, Bx.ref])
            have k0 := kb.cell 0
            clear kb
            go_wp2_with fail
            exact ⟨rfl, rfl, hJ.out.same (by rfl) (Nx.out.keep hJ.out.held.keep)⟩
          simp only [Act.put, List.setIfInBounds_toArray, List.set_cons_zero, List.set_cons_succ, Nat.reduceAdd]
          refine Steps.held ?_ ?_
          · intro L v w' hJ
            have kb := hJ.out.blk E2.out (by simp [oldsOf, BS, Bx.nat, Bx.rat, Bx.ref])
            have k0 := kb.cell 0
            clear kb
            go_wp2_with fail
            exact ⟨rfl, rfl, hJ.out.same (by rfl) (Ny.out.keep hJ.out.held.keep)⟩
          simp only [Act.put, List.setIfInBounds_toArray, List.set_cons_zero, List.set_cons_succ, Nat.reduceAdd]
          refine Steps.held ?_ ?_
          · intro L v w' hJ
            have X0 := Lib.hid (show N64 w' (v 0) x from hJ.out.fact 0 (by kernel_rfl))
            have X1 := Lib.hid (show N64 w' (v 1) y from hJ.out.fact 1 (by kernel_rfl))
            go_wp2_with fail
            refine (HMU.out _ _ _ X0.out X1.out).mono ?_
            rintro e w1 ⟨u, rfl, hu, hb⟩
            go_wp2_with fail
            exact ⟨rfl, rfl, hJ.out.call (by rfl) hb (hu)⟩
          simp only [Act.put, List.setIfInBounds_toArray, List.set_cons_zero, List.set_cons_succ, Nat.reduceAdd]
          refine Steps.held ?_ ?_
          · intro L v w' hJ
            have kb := hJ.out.blk E3.out (by simp [oldsOf, BS, Bx.nat, Bx.rat, Bx.ref])
            have k0 := kb.cell 0
            clear kb
            go_wp2_with fail
            exact ⟨rfl, rfl, hJ.out.same (by rfl) (Nz.out.keep hJ.out.held.keep)⟩
          simp only [Act.put, List.setIfInBounds_toArray, List.set_cons_zero, List.set_cons_succ, Nat.reduceAdd]
          refine Steps.held ?_ ?_
          · intro L v w' hJ
            have X0 := Lib.hid (show N64 w' (v 2) (x * y) from hJ.out.fact 2 (by kernel_rfl))
            have X1 := Lib.hid (show N64 w' (v 3) z from hJ.out.fact 3 (by kernel_rfl))
            go_wp2_with fail
            refine (HAD.out _ _ _ X0.out X1.out).mono ?_
            rintro e w1 ⟨u, rfl, hu, hb⟩
            go_wp2_with fail
            exact ⟨rfl, rfl, hJ.out.call (by rfl) hb (hu)⟩
          simp only [Act.put, List.setIfInBounds_toArray, List.set_cons_zero, List.set_cons_succ, Nat.reduceAdd]
          refine Steps.held ?_ ?_
          · intro L v w' hJ
            have kb := hJ.out.blk E2.out (by simp [oldsOf, BS, Bx.nat, Bx.rat, Bx.ref])
            have k0 := kb.cell 0
            clear kb
            go_wp2_with fail
            exact ⟨rfl, rfl, hJ.out.same (by rfl) (Ny.out.keep hJ.out.held.keep)⟩
          simp only [Act.put, List.setIfInBounds_toArray, List.set_cons_zero, List.set_cons_succ, Nat.reduceAdd]
          refine Steps.held ?_ ?_
          · intro L v w' hJ
            have X0 := Lib.hid (show N64 w' (v 4) (x * y + z) from hJ.out.fact 4 (by kernel_rfl))
            have X1 := Lib.hid (show N64 w' (v 5) y from hJ.out.fact 5 (by kernel_rfl))
            go_wp2_with fail
            refine (HDV.out _ _ _ X0.out X1.out).mono ?_
            rintro e w1 ⟨q, r, rfl, hq, hr, hb⟩
            go_wp2_with fail
            exact ⟨rfl, rfl, hJ.out.call (by rfl) hb (⟨_, _, _, rfl, hq, hr, rfl⟩)⟩
          simp only [Act.put, List.setIfInBounds_toArray, List.set_cons_zero, List.set_cons_succ, Nat.reduceAdd]
          refine Steps.held ?_ ?_
          · intro L v w' hJ
            go_wp2_with fail
            exact ⟨rfl, rfl, hJ.out.same (by rfl) (hJ.out.fact 6 (by kernel_rfl))⟩
          simp only [Act.put, List.setIfInBounds_toArray, List.set_cons_zero, List.set_cons_succ, Nat.reduceAdd]
          refine Steps.held ?_ ?_
          · intro L v w' hJ
            obtain ⟨x0, x1, x2, hv, h0, h1, h2⟩ := hJ.out.fact 7 (by kernel_rfl)
            simp only [hv]
            clear hv
            go_wp2_with fail
            exact ⟨rfl, rfl, hJ.out.same (by rfl) (h0)⟩
          simp only [Act.put, List.setIfInBounds_toArray, List.set_cons_zero, List.set_cons_succ, Nat.reduceAdd]
          refine Steps.held ?_ ?_
          · intro L v w' hJ
            obtain ⟨x0, x1, x2, hv, h0, h1, h2⟩ := hJ.out.fact 7 (by kernel_rfl)
            simp only [hv]
            clear hv
            go_wp2_with fail
            exact ⟨rfl, rfl, hJ.out.same (by rfl) (h1)⟩
          simp only [Act.put, List.setIfInBounds_toArray, List.set_cons_zero, List.set_cons_succ, Nat.reduceAdd]
          refine Steps.held ?_ ?_
          · intro L v w' hJ
            obtain ⟨x0, x1, x2, hv, h0, h1, h2⟩ := hJ.out.fact 7 (by kernel_rfl)
            simp only [hv]
            clear hv
            go_wp2_with fail
            exact ⟨rfl, rfl, hJ.out.same (by rfl) (h2)⟩
          simp only [Act.put, List.setIfInBounds_toArray, List.set_cons_zero, List.set_cons_succ, Nat.reduceAdd]
          refine Steps.held ?_ ?_
          · intro L v w' hJ
            go_wp2_with fail
            exact ⟨rfl, rfl, hJ.out.made 0 _ rfl rfl (by rfl) trivial⟩
          simp only [Act.put, List.setIfInBounds_toArray, List.set_cons_zero, List.set_cons_succ, Nat.reduceAdd]
          refine Steps.held ?_ ?_
          · intro L v w' hJ
            go_wp2_with fail
            exact ⟨rfl, rfl, hJ.out.made 1 _ rfl rfl (by rfl) trivial⟩
          simp only [Act.put, List.setIfInBounds_toArray, List.set_cons_zero, List.set_cons_succ, Nat.reduceAdd]
          refine Steps.held ?_ ?_
          · intro L v w' hJ
            obtain ⟨g, hg, hge, hown, hst⟩ := hJ.out.newbox 0 _ rfl 11 rfl (by kernel_rfl)
            have hN : N64 w' (v 8) (x) := hJ.out.fact 8 (by kernel_rfl)
            obtain ⟨P, c, hv, h1, h2, h3⟩ := hN
            have HN := Lib.hid (show N64 w' (.agg #[.slice P (wl 64 (x)) c]) (x) from ⟨P, c, rfl, h1, h2, h3⟩)
            have kb := hJ.out.box 0 _ rfl rfl g hown
            have k0 := kb.cell 0
            have f0 := kb.frozen 0
            have HO := Lib.hid hown
            have HS := Lib.hid hst
            clear kb h1 h2 h3 hown hst
            simp only [hg, hv]
            clear hg hv
            go_wp2_with fail
            exact ⟨rfl, rfl, hJ.out.fill1 0 _ rfl rfl (by rfl) g HO.out HS.out _ rfl rfl (fun W k => ⟨P, c, rfl, HN.out.keep k⟩) (fun _ => trivial)⟩
          simp only [Act.put, List.setIfInBounds_toArray, List.set_cons_zero, List.set_cons_succ, Nat.reduceAdd]
          refine Steps.held ?_ ?_
          · intro L v w' hJ
            obtain ⟨g, hg, hge, hown, hst⟩ := hJ.out.newbox 1 _ rfl 12 rfl (by kernel_rfl)
            have hN : N64 w' (v 9) (z) := hJ.out.fact 9 (by kernel_rfl)
            obtain ⟨P, c, hv, h1, h2, h3⟩ := hN
            have HN := Lib.hid (show N64 w' (.agg #[.slice P (wl 64 (z)) c]) (z) from ⟨P, c, rfl, h1, h2, h3⟩)
            have kb := hJ.out.box 1 _ rfl rfl g hown
            have k0 := kb.cell 0
            have f0 := kb.frozen 0
            have HO := Lib.hid hown
            have HS := Lib.hid hst
            clear kb h1 h2 h3 hown hst
            simp only [hg, hv]
            clear hg hv
            go_wp2_with fail
            exact ⟨rfl, rfl, hJ.out.fill1 1 _ rfl rfl (by rfl) g HO.out HS.out _ rfl rfl (fun W k => ⟨P, c, rfl, HN.out.keep k⟩) (fun _ => trivial)⟩
          simp only [Act.put, List.setIfInBounds_toArray, List.set_cons_zero, List.set_cons_succ, Nat.reduceAdd]
          refine Steps.held ?_ ?_
          · intro L v w' hJ
            go_wp2_with fail
            exact ⟨rfl, rfl, hJ.out.same (by rfl) (hJ.out.fact 10 (by kernel_rfl))⟩
          simp only [Act.put, List.setIfInBounds_toArray, List.set_cons_zero, List.set_cons_succ, Nat.reduceAdd]
          refine Steps.nil ?_
          intro v w' hJ
          obtain ⟨g10, cs10, hv10, hge10, hb10, A10, c10, rfl, hn10⟩ := hJ.end_new 0 _ rfl 11 rfl (by decide) (Nat.le_of_ble_eq_true rfl)
          obtain ⟨g11, cs11, hv11, hge11, hb11, A11, c11, rfl, hn11⟩ := hJ.end_new 1 _ rfl 12 rfl (by decide) (Nat.le_of_ble_eq_true rfl)
          have h15 : v 15 = .int .i64 0 := hJ.end_fact 15 (by decide)
          have hbr := hJ.but.below
          clear hJ
          simp only [hv10, hv11, h15]
          clear hv10 hv11 h15
          replace E1 := Lib.hid (blk_below E1.out hbr)
          replace E3 := Lib.hid (blk_below E3.out hbr)
          replace Nx := Lib.hid (Nx.out.below hbr)
          replace Nz := Lib.hid (Nz.out.below hbr)
          replace HB0 := Lib.hid (cbt HB0.out hbr)
          have E10 := Lib.hid hb10
          have E11 := Lib.hid hb11
          have N10 := Lib.hid hn10
          have N11 := Lib.hid hn11
          clear hb10 hb11 hn10 hn11 hbr k_E1_0 k_E2_0 k_E3_0
          have k_E1_0 := E1.out.cell 0
          have k_E3_0 := E3.out.cell 0
          have k_E10_0 := E10.out.cell 0
          have k_E11_0 := E11.out.cell 0
          go_wp2_with fail
          refine (HCX.out _ _ _ N10.out Nx.out).mono ?_
          rintro e w2 ⟨rfl, hb⟩
          clear k_E1_0 k_E3_0 k_E10_0 k_E11_0
          replace Nx := Lib.hid (Nx.out.below hb)
          replace Nz := Lib.hid (Nz.out.below hb)
          replace N10 := Lib.hid (N10.out.below hb)
          replace N11 := Lib.hid (N11.out.below hb)
          replace E1 := Lib.hid (blk_below E1.out hb)
          replace E3 := Lib.hid (blk_below E3.out hb)
          replace E10 := Lib.hid (blk_below E10.out hb)
          replace E11 := Lib.hid (blk_below E11.out hb)
          replace HB0 := Lib.hid (cbt HB0.out hb)
          clear hb
          have k_E1_0 := E1.out.cell 0
          have k_E3_0 := E3.out.cell 0
          have k_E10_0 := E10.out.cell 0
          have k_E11_0 := E11.out.cell 0
          go_wp2_with fail
          refine (HCQ.out _ _ _ N11.out Nz.out).mono ?_
          rintro e w3 ⟨rfl, hb⟩
          clear k_E1_0 k_E3_0 k_E10_0 k_E11_0
          replace Nx := Lib.hid (Nx.out.below hb)
          replace Nz := Lib.hid (Nz.out.below hb)
          replace N10 := Lib.hid (N10.out.below hb)
          replace N11 := Lib.hid (N11.out.below hb)
          replace E1 := Lib.hid (blk_below E1.out hb)
          replace E3 := Lib.hid (blk_below E3.out hb)
          replace E10 := Lib.hid (blk_below E10.out hb)
          replace E11 := Lib.hid (blk_below E11.out hb)
          replace HB0 := Lib.hid (cbt HB0.out hb)
          clear hb
          have k_E1_0 := E1.out.cell 0
          have k_E3_0 := E3.out.cell 0
          have k_E10_0 := E10.out.cell 0
          have k_E11_0 := E11.out.cell 0
          go_wp2_with fail
          refine (live_any _).mono ?_
          rintro e w4 ⟨rfl, hb⟩
          clear k_E1_0 k_E3_0 k_E10_0 k_E11_0
          replace Nx := Lib.hid (Nx.out.below hb)
          replace Nz := Lib.hid (Nz.out.below hb)
          replace N10 := Lib.hid (N10.out.below hb)
          replace N11 := Lib.hid (N11.out.below hb)
          replace E1 := Lib.hid (blk_below E1.out hb)
          replace E3 := Lib.hid (blk_below E3.out hb)
          replace E10 := Lib.hid (blk_below E10.out hb)
          replace E11 := Lib.hid (blk_below E11.out hb)
          replace HB0 := Lib.hid (cbt HB0.out hb)
          clear hb
          have k_E1_0 := E1.out.cell 0
          have k_E3_0 := E3.out.cell 0
          have k_E10_0 := E10.out.cell 0
          have k_E11_0 := E11.out.cell 0
          go_wp2_with fail
          go_ret
          exact ⟨rfl, HB0.out⟩
        · have hc : decide ((0 : Int) ≤ cmpN z y) = true := decide_eq_true (cmpN_ge (by omega))
          clear x64 x8 y64 y8 z64 z8 bdx bdy bdz pxy sxy hx hy hz hzy h1 h2 h3 d1 d2 d3
          go_wp2_with fail
          refine (live_any _).mono ?_
          rintro e w2 ⟨rfl, hb⟩
          replace HB0 := Lib.hid (cbt HB0.out hb)
          clear hb
          go_wp2_with fail
          go_ret
          exact ⟨rfl, HB0.out⟩
      · have d1 : decide (300 < (nx : Int)) = false := decide_eq_false (by omega)
        have d2 : decide (300 < (ny : Int)) = false := decide_eq_false (by omega)
        have d3 : decide (300 < (nz : Int)) = true := decide_eq_true (by omega)
        go_enter Try.func3, Try.ntmps3
        go_wp2_with fail
        refine (live_any _).mono ?_
        rintro e w1 ⟨rfl, hb1⟩
        go_wp2_with fail
        go_ret
        exact ⟨rfl, hb1⟩
    · have d1 : decide (300 < (nx : Int)) = false := decide_eq_false (by omega)
      have d2 : decide (300 < (ny : Int)) = true := decide_eq_true (by omega)
      go_enter Try.func3, Try.ntmps3
      go_wp2_with fail
      refine (live_any _).mono ?_
      rintro e w1 ⟨rfl, hb1⟩
      go_wp2_with fail
      go_ret
      exact ⟨rfl, hb1⟩
  · have d1 : decide (300 < (nx : Int)) = true := decide_eq_true (by omega)
    go_enter Try.func3, Try.ntmps3
    go_wp2_with fail
    refine (live_any _).mono ?_
    rintro e w1 ⟨rfl, hb1⟩
    go_wp2_with fail
    go_ret
    exact ⟨rfl, hb1⟩
set_option maxRecDepth 100000 in
set_option maxHeartbeats 4000000 in
theorem natDivs_law (Ax : Option Addr) (nx cx : Nat) (lx : List Int) (Ay : Option Addr) (ny cy : Nat) (ly : List Int) (w : World) (hxl : lx.length = nx) (hx : ByS w (.slice Ax nx cx) lx) (hxb : Bys lx) (hyl : ly.length = ny) (hy : ByS w (.slice Ay ny cy) ly) (hyb : Bys ly) :
    Calls Try.prog 5 #[.slice Ax nx cx, .slice Ay ny cy] w fun e w' => e = .returned (.bool true) ∧ Below w.heap.size w w' := by
  have Hx := Lib.hid hx
  have HxB := Lib.hid hxb
  have HxL := Lib.hid hxl
  clear hx hxb hxl
  have Hy := Lib.hid hy
  have HyB := Lib.hid hyb
  have HyL := Lib.hid hyl
  clear hy hyb hyl
  by_cases hx : nx ≤ 60
  · by_cases hy : ny ≤ 60
    · have dx : decide (60 < (nx : Int)) = false := decide_eq_false (by omega)
      have dy : decide (60 < (ny : Int)) = false := decide_eq_false (by omega)
      have x64 := be_w64 HxB.out
      have x8 := be_wl HxB.out
      rw [HxL.out] at x64 x8
      have bdx : lx.length ≤ 1099511627776 := by rw [HxL.out]; omega
      obtain ⟨x, hx⟩ : ∃ x, be lx = x := ⟨_, rfl⟩
      have HRx := Lib.hid (fun W h => nread_any (.slice Ax nx cx) lx W h HxB.out bdx)
      have HOx := Lib.hid (fun W h => rof_any (.slice Ax nx cx) lx W h HxB.out bdx)
      rw [hx] at HRx HOx x64 x8
      have y64 := be_w64 HyB.out
      have y8 := be_wl HyB.out
      rw [HyL.out] at y64 y8
      have bdy : ly.length ≤ 1099511627776 := by rw [HyL.out]; omega
      obtain ⟨y, hy⟩ : ∃ y, be ly = y := ⟨_, rfl⟩
      have HRy := Lib.hid (fun W h => nread_any (.slice Ay ny cy) ly W h HyB.out bdy)
      have HOy := Lib.hid (fun W h => rof_any (.slice Ay ny cy) ly W h HyB.out bdy)
      rw [hy] at HRy HOy y64 y8
      have HB0 := Lib.hid (Below.refl w.heap.size w)
      have pxy := wl_mul_le (k := 64) (x := x / y) (y := y) (a := 60) (b := 60) (by decide) (wl_div_le (by decide) (by omega)) (by omega)
      have HZ := Lib.hid (fun v W h => zero_any v y W h)
      by_cases hy0 : y = 0
      · have HDV := Lib.hid (fun va vb W h1 h2 => ndiv_no va vb x W h1 h2)
        have HZ0 := Lib.hid zero_yes
        subst hy0
        clear x64 x8 y64 y8 bdx bdy pxy
        go_enter Try.func5, Try.ntmps5
        go_wp2_with fail
        refine (HRx.out _ Hx.out).mono ?_
        rintro e w1 ⟨u, rfl, hu, hb⟩
        replace Hx := Lib.hid (Hx.out.below hb)
        replace Hy := Lib.hid (Hy.out.below hb)
        replace HB0 := Lib.hid (cbt HB0.out hb)
        have Nx := Lib.hid hu
        clear hb hu
        go_wp2_with fail
        refine (HRy.out _ Hy.out).mono ?_
        rintro e w1 ⟨u, rfl, hu, hb⟩
        replace Hx := Lib.hid (Hx.out.below hb)
        replace Hy := Lib.hid (Hy.out.below hb)
        replace Nx := Lib.hid (Nx.out.below hb)
        replace HB0 := Lib.hid (cbt HB0.out hb)
        have Ny := Lib.hid hu
        clear hb hu
        have Z0 := Nx.out
        obtain ⟨PS0, cpS0, rfl, _, _, _⟩ := Z0
        have Z1 := Ny.out
        obtain ⟨PS1, cpS1, rfl, _, _, _⟩ := Z1
        have e1 := (Blk.new w1 26 #[.slice PS0 (wl 64 (x)) cpS0]).alloc (.cells #[.slice PS1 (wl 64 (0)) cpS1] 26)
        have e2 := Blk.new (w1.alloc (.cells #[.slice PS0 (wl 64 (x)) cpS0] 26)) 26 #[.slice PS1 (wl 64 (0)) cpS1]
        have hb := cba (cba (Below.refl _ w1) (.cells #[.slice PS0 (wl 64 (x)) cpS0] 26)) (.cells #[.slice PS1 (wl 64 (0)) cpS1] 26)
        simp only [World.size_alloc] at e2
        go_upto_region 4 with (fail)
        obtain ⟨S, hS⟩ : ∃ S, ((w1.alloc (.cells #[.slice PS0 (wl 64 (x)) cpS0] 26)).alloc (.cells #[.slice PS1 (wl 64 (0)) cpS1] 26)) = S := ⟨_, rfl⟩
        rw [hS] at e1 e2 hb ⊢
        obtain ⟨g1, hg⟩ : ∃ g, w1.heap.size = g := ⟨_, rfl⟩
        rw [hg] at e1 e2
        simp only [hg]
        replace Nx := Lib.hid (Nx.out.below hb)
        replace Ny := Lib.hid (Ny.out.below hb)
        replace HB0 := Lib.hid (cbt HB0.out hb)
        have E1 := Lib.hid e1
        have E2 := Lib.hid e2
        clear hS hg hb e1 e2
        have k_E1_0 := E1.out.cell 0
        have k_E2_0 := E2.out.cell 0
        go_wp2_with fail
        refine (HDV.out _ _ _ Nx.out Ny.out).mono ?_
        rintro e w1 ⟨q, r, rfl, hq, hr, hb⟩
        clear k_E1_0 k_E2_0
        replace Nx := Lib.hid (Nx.out.below hb)
        replace Ny := Lib.hid (Ny.out.below hb)
        replace E1 := Lib.hid (blk_below E1.out hb)
        replace E2 := Lib.hid (blk_below E2.out hb)
        replace HB0 := Lib.hid (cbt HB0.out hb)
        have NQ := Lib.hid hq
        have NR := Lib.hid hr
        clear hb hq hr
        have k_E1_0 := E1.out.cell 0
        have k_E2_0 := E2.out.cell 0
        have Z0 := NQ.out
        obtain ⟨PT0, cpT0, rfl, _, _, _⟩ := Z0
        have Z1 := NR.out
        obtain ⟨PT1, cpT1, rfl, _, _, _⟩ := Z1
        have e3 := (Blk.new w1 26 #[.slice PT0 (wl 64 (0)) cpT0]).alloc (.cells #[.slice PT1 (wl 64 (0)) cpT1] 26)
        have e4 := Blk.new (w1.alloc (.cells #[.slice PT0 (wl 64 (0)) cpT0] 26)) 26 #[.slice PT1 (wl 64 (0)) cpT1]
        have hb := cba (cba (Below.refl _ w1) (.cells #[.slice PT0 (wl 64 (0)) cpT0] 26)) (.cells #[.slice PT1 (wl 64 (0)) cpT1] 26)
        simp only [World.size_alloc] at e4
        go_upto_region 5 with (fail)
        obtain ⟨T, hS⟩ : ∃ S, ((w1.alloc (.cells #[.slice PT0 (wl 64 (0)) cpT0] 26)).alloc (.cells #[.slice PT1 (wl 64 (0)) cpT1] 26)) = S := ⟨_, rfl⟩
        rw [hS] at e3 e4 hb ⊢
        obtain ⟨g3, hg⟩ : ∃ g, w1.heap.size = g := ⟨_, rfl⟩
        rw [hg] at e3 e4
        simp only [hg]
        replace Nx := Lib.hid (Nx.out.below hb)
        replace Ny := Lib.hid (Ny.out.below hb)
        replace NQ := Lib.hid (NQ.out.below hb)
        replace NR := Lib.hid (NR.out.below hb)
        replace E1 := Lib.hid (blk_below E1.out hb)
        replace E2 := Lib.hid (blk_below E2.out hb)
        replace HB0 := Lib.hid (cbt HB0.out hb)
        have E3 := Lib.hid e3
        have E4 := Lib.hid e4
        clear hS hg hb e3 e4 k_E1_0 k_E2_0
        have k_E2_0 := E2.out.cell 0
        have k_E3_0 := E3.out.cell 0
        have k_E4_0 := E4.out.cell 0
        go_wp2_with fail
        refine (HZ0.out _ _ Ny.out).mono ?_
        rintro e w1 ⟨rfl, hb⟩
        clear k_E2_0 k_E3_0 k_E4_0
        replace Nx := Lib.hid (Nx.out.below hb)
        replace Ny := Lib.hid (Ny.out.below hb)
        replace NQ := Lib.hid (NQ.out.below hb)
        replace NR := Lib.hid (NR.out.below hb)
        replace E2 := Lib.hid (blk_below E2.out hb)
        replace E3 := Lib.hid (blk_below E3.out hb)
        replace E4 := Lib.hid (blk_below E4.out hb)
        replace HB0 := Lib.hid (cbt HB0.out hb)
        clear hb
        have k_E2_0 := E2.out.cell 0
        have k_E3_0 := E3.out.cell 0
        have k_E4_0 := E4.out.cell 0
        go_wp2_with fail
        refine (HZ0.out _ _ NQ.out).mono ?_
        rintro e w1 ⟨rfl, hb⟩
        clear k_E2_0 k_E3_0 k_E4_0
        replace Nx := Lib.hid (Nx.out.below hb)
        replace Ny := Lib.hid (Ny.out.below hb)
        replace NQ := Lib.hid (NQ.out.below hb)
        replace NR := Lib.hid (NR.out.below hb)
        replace E2 := Lib.hid (blk_below E2.out hb)
        replace E3 := Lib.hid (blk_below E3.out hb)
        replace E4 := Lib.hid (blk_below E4.out hb)
        replace HB0 := Lib.hid (cbt HB0.out hb)
        clear hb
        have k_E2_0 := E2.out.cell 0
        have k_E3_0 := E3.out.cell 0
        have k_E4_0 := E4.out.cell 0
        go_wp2_with fail
        refine (HZ0.out _ _ NR.out).mono ?_
        rintro e w1 ⟨rfl, hb⟩
        clear k_E2_0 k_E3_0 k_E4_0
        replace Nx := Lib.hid (Nx.out.below hb)
        replace Ny := Lib.hid (Ny.out.below hb)
        replace NQ := Lib.hid (NQ.out.below hb)
        replace NR := Lib.hid (NR.out.below hb)
        replace E2 := Lib.hid (blk_below E2.out hb)
        replace E3 := Lib.hid (blk_below E3.out hb)
        replace E4 := Lib.hid (blk_below E4.out hb)
        replace HB0 := Lib.hid (cbt HB0.out hb)
        clear hb
        have k_E2_0 := E2.out.cell 0
        have k_E3_0 := E3.out.cell 0
        have k_E4_0 := E4.out.cell 0
        go_wp2_with fail
        refine (live_any _).mono ?_
        rintro e w1 ⟨rfl, hb⟩
        clear k_E2_0 k_E3_0 k_E4_0
        replace Nx := Lib.hid (Nx.out.below hb)
        replace Ny := Lib.hid (Ny.out.below hb)
        replace NQ := Lib.hid (NQ.out.below hb)
        replace NR := Lib.hid (NR.out.below hb)
        replace E2 := Lib.hid (blk_below E2.out hb)
        replace E3 := Lib.hid (blk_below E3.out hb)
        replace E4 := Lib.hid (blk_below E4.out hb)
        replace HB0 := Lib.hid (cbt HB0.out hb)
        clear hb
        have k_E2_0 := E2.out.cell 0
        have k_E3_0 := E3.out.cell 0
        have k_E4_0 := E4.out.cell 0
        go_wp2_with fail
        go_ret
        exact ⟨rfl, HB0.out⟩
      · have hyp : 0 < y := Nat.pos_of_ne_zero hy0
        have HDV := Lib.hid (fun va vb W h1 h2 => ndiv_any va vb x y W h1 h2 (by omega) hyp)
        have HZN := Lib.hid (fun v W h => zero_no v y W h hyp)
        have hdm : x / y * y + x % y = x := by rw [Nat.mul_comm]; exact Nat.div_add_mod x y
        have hlt : x % y < y := Nat.mod_lt _ hyp
        have HRD := Lib.hid (fun W va vb (h1 : R256 W va x) (h2 : R256 W vb y) => rdiv_any h1 h2 (by omega) (by omega) hyp)
        have q64 : wl 64 (x / y) ≤ 60 := wl_div_le (by decide) (by omega)
        have q8 : wl 8 (x / y) ≤ 60 := wl_div_le (by decide) (by omega)
        have r64 : wl 64 (x % y) ≤ 60 := Nat.le_trans (wl_mono (by decide) (Nat.le_of_lt hlt)) (by omega)
        have r8 : wl 8 (x % y) ≤ 60 := Nat.le_trans (wl_mono (by decide) (Nat.le_of_lt hlt)) (by omega)
        obtain ⟨q, hq0⟩ : ∃ q, x / y = q := ⟨_, rfl⟩
        obtain ⟨r, hr0⟩ : ∃ r, x % y = r := ⟨_, rfl⟩
        rw [hq0, hr0] at HDV HRD hdm
        rw [hr0] at hlt r64 r8
        rw [hq0] at q64 q8 pxy
        have HMU := Lib.hid (fun va vb W h1 h2 => nmul_any va vb q y W h1 h2 (by omega) (by omega))
        have HAD := Lib.hid (fun va vb W h1 h2 => nadd_any va vb (q * y) r W h1 h2 (by omega) (by omega))
        rw [hdm] at HAD
        have HIQ := Lib.hid (fun va vb W h1 h2 => is_yes va vb q W h1 h2 (by omega) (by omega))
        have HIR := Lib.hid (fun va vb W h1 h2 => is_yes va vb r W h1 h2 (by omega) (by omega))
        have HCE := Lib.hid (fun va vb W h1 h2 => ncmp_eq va vb x W h1 h2)
        have HCL := Lib.hid (fun va vb W h1 h2 => ncmp_lt va vb r y W h1 h2 hlt)
        clear x64 x8 y64 y8 bdx bdy pxy q64 q8 r64 r8 hq0 hr0 hdm hlt hyp hy0 HZ
        go_enter Try.func5, Try.ntmps5
        go_wp2_with fail
        refine (HRx.out _ Hx.out).mono ?_
        rintro e w1 ⟨u, rfl, hu, hb⟩
        replace Hx := Lib.hid (Hx.out.below hb)
        replace Hy := Lib.hid (Hy.out.below hb)
        replace HB0 := Lib.hid (cbt HB0.out hb)
        have Nx := Lib.hid hu
        clear hb hu
        go_wp2_with fail
        refine (HRy.out _ Hy.out).mono ?_
        rintro e w1 ⟨u, rfl, hu, hb⟩
        replace Hx := Lib.hid (Hx.out.below hb)
        replace Hy := Lib.hid (Hy.out.below hb)
        replace Nx := Lib.hid (Nx.out.below hb)
        replace HB0 := Lib.hid (cbt HB0.out hb)
        have Ny := Lib.hid hu
        clear hb hu
        have Z0 := Nx.out
        obtain ⟨PS0, cpS0, rfl, _, _, _⟩ := Z0
        have Z1 := Ny.out
        obtain ⟨PS1, cpS1, rfl, _, _, _⟩ := Z1
        have e1 := (Blk.new w1 26 #[.slice PS0 (wl 64 (x)) cpS0]).alloc (.cells #[.slice PS1 (wl 64 (y)) cpS1] 26)
        have e2 := Blk.new (w1.alloc (.cells #[.slice PS0 (wl 64 (x)) cpS0] 26)) 26 #[.slice PS1 (wl 64 (y)) cpS1]
        have hb := cba (cba (Below.refl _ w1) (.cells #[.slice PS0 (wl 64 (x)) cpS0] 26)) (.cells #[.slice PS1 (wl 64 (y)) cpS1] 26)
        simp only [World.size_alloc] at e2
        go_upto_region 4 with (fail)
        obtain ⟨S, hS⟩ : ∃ S, ((w1.alloc (.cells #[.slice PS0 (wl 64 (x)) cpS0] 26)).alloc (.cells #[.slice PS1 (wl 64 (y)) cpS1] 26)) = S := ⟨_, rfl⟩
        rw [hS] at e1 e2 hb ⊢
        obtain ⟨g1, hg⟩ : ∃ g, w1.heap.size = g := ⟨_, rfl⟩
        rw [hg] at e1 e2
        simp only [hg]
        replace Nx := Lib.hid (Nx.out.below hb)
        replace Ny := Lib.hid (Ny.out.below hb)
        replace Hx := Lib.hid (Hx.out.below hb)
        replace Hy := Lib.hid (Hy.out.below hb)
        replace HB0 := Lib.hid (cbt HB0.out hb)
        have E1 := Lib.hid e1
        have E2 := Lib.hid e2
        clear hS hg hb e1 e2
        have k_E1_0 := E1.out.cell 0
        have k_E2_0 := E2.out.cell 0
        go_wp2_with fail
        refine (HDV.out _ _ _ Nx.out Ny.out).mono ?_
        rintro e w1 ⟨q', r', rfl, hq, hr, hb⟩
        clear k_E1_0 k_E2_0
        replace Nx := Lib.hid (Nx.out.below hb)
        replace Ny := Lib.hid (Ny.out.below hb)
        replace Hx := Lib.hid (Hx.out.below hb)
        replace Hy := Lib.hid (Hy.out.below hb)
        replace E1 := Lib.hid (blk_below E1.out hb)
        replace E2 := Lib.hid (blk_below E2.out hb)
        replace HB0 := Lib.hid (cbt HB0.out hb)
        have NQ := Lib.hid hq
        have NR := Lib.hid hr
        clear hb hq hr
        have k_E1_0 := E1.out.cell 0
        have k_E2_0 := E2.out.cell 0
        have Z0 := NQ.out
        obtain ⟨PT0, cpT0, rfl, _, _, _⟩ := Z0
        have Z1 := NR.out
        obtain ⟨PT1, cpT1, rfl, _, _, _⟩ := Z1
        have e3 := (Blk.new w1 26 #[.slice PT0 (wl 64 (q)) cpT0]).alloc (.cells #[.slice PT1 (wl 64 (r)) cpT1] 26)
        have e4 := Blk.new (w1.alloc (.cells #[.slice PT0 (wl 64 (q)) cpT0] 26)) 26 #[.slice PT1 (wl 64 (r)) cpT1]
        have hb := cba (cba (Below.refl _ w1) (.cells #[.slice PT0 (wl 64 (q)) cpT0] 26)) (.cells #[.slice PT1 (wl 64 (r)) cpT1] 26)
        simp only [World.size_alloc] at e4
        go_upto_region 5 with (fail)
        obtain ⟨T, hS⟩ : ∃ S, ((w1.alloc (.cells #[.slice PT0 (wl 64 (q)) cpT0] 26)).alloc (.cells #[.slice PT1 (wl 64 (r)) cpT1] 26)) = S := ⟨_, rfl⟩
        rw [hS] at e3 e4 hb ⊢
        obtain ⟨g3, hg⟩ : ∃ g, w1.heap.size = g := ⟨_, rfl⟩
        rw [hg] at e3 e4
        simp only [hg]
        replace Nx := Lib.hid (Nx.out.below hb)
        replace Ny := Lib.hid (Ny.out.below hb)
        replace NQ := Lib.hid (NQ.out.below hb)
        replace NR := Lib.hid (NR.out.below hb)
        replace Hx := Lib.hid (Hx.out.below hb)
        replace Hy := Lib.hid (Hy.out.below hb)
        replace E1 := Lib.hid (blk_below E1.out hb)
        replace E2 := Lib.hid (blk_below E2.out hb)
        replace HB0 := Lib.hid (cbt HB0.out hb)
        have E3 := Lib.hid e3
        have E4 := Lib.hid e4
        clear hS hg hb e3 e4 k_E1_0 k_E2_0
        have k_E1_0 := E1.out.cell 0
        have k_E2_0 := E2.out.cell 0
        have k_E3_0 := E3.out.cell 0
        have k_E4_0 := E4.out.cell 0
        go_wp2_with fail
        refine (HZN.out _ _ Ny.out).mono ?_
        rintro e w1 ⟨rfl, hb⟩
        clear k_E1_0 k_E2_0 k_E3_0 k_E4_0
        replace Nx := Lib.hid (Nx.out.below hb)
        replace Ny := Lib.hid (Ny.out.below hb)
        replace NQ := Lib.hid (NQ.out.below hb)
        replace NR := Lib.hid (NR.out.below hb)
        replace Hx := Lib.hid (Hx.out.below hb)
        replace Hy := Lib.hid (Hy.out.below hb)
        replace E1 := Lib.hid (blk_below E1.out hb)
        replace E2 := Lib.hid (blk_below E2.out hb)
        replace E3 := Lib.hid (blk_below E3.out hb)
        replace E4 := Lib.hid (blk_below E4.out hb)
        replace HB0 := Lib.hid (cbt HB0.out hb)
        clear hb
        have k_E1_0 := E1.out.cell 0
        have k_E2_0 := E2.out.cell 0
        have k_E3_0 := E3.out.cell 0
        have k_E4_0 := E4.out.cell 0
        go_wp2_with fail
        refine (HOx.out _ Hx.out).mono ?_
        rintro e w2 ⟨v5, rfl, hu, hb⟩
        clear k_E1_0 k_E2_0 k_E3_0 k_E4_0
        replace Nx := Lib.hid (Nx.out.below hb)
        replace Ny := Lib.hid (Ny.out.below hb)
        replace NQ := Lib.hid (NQ.out.below hb)
        replace NR := Lib.hid (NR.out.below hb)
        replace Hx := Lib.hid (Hx.out.below hb)
        replace Hy := Lib.hid (Hy.out.below hb)
        replace E1 := Lib.hid (blk_below E1.out hb)
        replace E2 := Lib.hid (blk_below E2.out hb)
        replace E3 := Lib.hid (blk_below E3.out hb)
        replace E4 := Lib.hid (blk_below E4.out hb)
        replace HB0 := Lib.hid (cbt HB0.out hb)
        have RX := Lib.hid hu
        clear hb hu
        have k_E1_0 := E1.out.cell 0
        have k_E2_0 := E2.out.cell 0
        have k_E3_0 := E3.out.cell 0
        have k_E4_0 := E4.out.cell 0
        go_wp2_with fail
        refine (HOy.out _ Hy.out).mono ?_
        rintro e w3 ⟨v6, rfl, hu, hb⟩
        clear k_E1_0 k_E2_0 k_E3_0 k_E4_0
        replace Nx := Lib.hid (Nx.out.below hb)
        replace Ny := Lib.hid (Ny.out.below hb)
        replace NQ := Lib.hid (NQ.out.below hb)
        replace NR := Lib.hid (NR.out.below hb)
        replace Hx := Lib.hid (Hx.out.below hb)
        replace Hy := Lib.hid (Hy.out.below hb)
        replace RX := Lib.hid (RX.out.below hb)
        replace E1 := Lib.hid (blk_below E1.out hb)
        replace E2 := Lib.hid (blk_below E2.out hb)
        replace E3 := Lib.hid (blk_below E3.out hb)
        replace E4 := Lib.hid (blk_below E4.out hb)
        replace HB0 := Lib.hid (cbt HB0.out hb)
        have RY := Lib.hid hu
        clear hb hu
        have k_E1_0 := E1.out.cell 0
        have k_E2_0 := E2.out.cell 0
        have k_E3_0 := E3.out.cell 0
        have k_E4_0 := E4.out.cell 0
        go_wp2_with fail
        refine (HRD.out _ _ _ RX.out RY.out).mono ?_
        rintro e w4 ⟨rq, rr, rfl, hq, hr, hb⟩
        clear k_E1_0 k_E2_0 k_E3_0 k_E4_0
        replace Nx := Lib.hid (Nx.out.below hb)
        replace Ny := Lib.hid (Ny.out.below hb)
        replace NQ := Lib.hid (NQ.out.below hb)
        replace NR := Lib.hid (NR.out.below hb)
        replace Hx := Lib.hid (Hx.out.below hb)
        replace Hy := Lib.hid (Hy.out.below hb)
        replace RX := Lib.hid (RX.out.below hb)
        replace RY := Lib.hid (RY.out.below hb)
        replace E1 := Lib.hid (blk_below E1.out hb)
        replace E2 := Lib.hid (blk_below E2.out hb)
        replace E3 := Lib.hid (blk_below E3.out hb)
        replace E4 := Lib.hid (blk_below E4.out hb)
        replace HB0 := Lib.hid (cbt HB0.out hb)
        have RQ := Lib.hid hq
        have RR := Lib.hid hr
        clear hb hq hr
        have k_E1_0 := E1.out.cell 0
        have k_E2_0 := E2.out.cell 0
        have k_E3_0 := E3.out.cell 0
        have k_E4_0 := E4.out.cell 0
        go_wp2_with fail
        clear k_E1_0 k_E2_0 k_E3_0 k_E4_0
        let FS : List Kept1 := [.eq (.int .i64 0), .eq (.bool true), .eq (.bool true), .n q, .r q, .eq (.bool true), .eq (.bool true), .eq (.bool true), .n r, .r r, .eq (.bool true), .eq (.bool true), .eq (.bool true), .n q, .n y, .n (q * y), .n r, .n x, .n x, .eq (.int .i64 0), .eq (.bool true), .eq (.bool true), .eq (.bool true), .n r, .n y, .eq (.int .i64 (-1)), .eq (.bool true), .eq (.bool true), .eq (.bool true), .eq (.bool true), .eq (.bool true), .eq (.bool true)]
        refine region_mono (Held w4 (fun j => FS.getD j .any) []) (by kernel_rfl) (by kernel_rfl) (by kernel_rfl) (Held.start _ _ _ (by simp) (by simp)) ?_
        refine Steps.held ?_ ?_
        · intro L v w' hJ
          go_wp2_with fail
          exact ⟨rfl, rfl, hJ.out.same (by rfl) (rfl)⟩
        simp only [Act.put, List.setIfInBounds_toArray, List.set_cons_zero, List.set_cons_succ, Nat.reduceAdd]
        refine Steps.held ?_ ?_
        · intro L v w' hJ
          have hv0 : v 0 = .int .i64 0 := hJ.out.fact 0 (by kernel_rfl)
          simp only [hv0]
          clear hv0
          go_wp2_with fail
          exact ⟨rfl, rfl, hJ.out.same (by rfl) (rfl)⟩
        simp only [Act.put, List.setIfInBounds_toArray, List.set_cons_zero, List.set_cons_succ, Nat.reduceAdd]
        refine Steps.held ?_ ?_
        · intro L v w' hJ
          have hv1 : v 1 = .bool true := hJ.out.fact 1 (by kernel_rfl)
          simp only [hv1]
          clear hv1
          go_wp2_with fail
          exact ⟨rfl, rfl, hJ.out.same (by rfl) (rfl)⟩
        simp only [Act.put, List.setIfInBounds_toArray, List.set_cons_zero, List.set_cons_succ, Nat.reduceAdd]
        refine Steps.held ?_ ?_
        · intro L v w' hJ
          have hv2 : v 2 = .bool true := hJ.out.fact 2 (by kernel_rfl)
          simp only [hv2]
          clear hv2
          have kb := hJ.out.blk E3.out (by simp [oldsOf])
          have k0 := kb.cell 0
          clear kb
          go_wp2_with fail
          exact ⟨rfl, rfl, hJ.out.same (by rfl) (NQ.out.keep hJ.out.held.keep)⟩
        simp only [Act.put, List.setIfInBounds_toArray, List.set_cons_zero, List.set_cons_succ, Nat.reduceAdd]
        refine Steps.held ?_ ?_
        · intro L v w' hJ
          have hv2 : v 2 = .bool true := hJ.out.fact 2 (by kernel_rfl)
          simp only [hv2]
          clear hv2
          go_wp2_with fail
          exact ⟨rfl, rfl, hJ.out.same (by rfl) (RQ.out.keep hJ.out.held.keep)⟩
        simp only [Act.put, List.setIfInBounds_toArray, List.set_cons_zero, List.set_cons_succ, Nat.reduceAdd]
        refine Steps.held ?_ ?_
        · intro L v w' hJ
          have hv2 : v 2 = .bool true := hJ.out.fact 2 (by kernel_rfl)
          simp only [hv2]
          clear hv2
          have X0 := Lib.hid (show N64 w' (v 3) q from hJ.out.fact 3 (by kernel_rfl))
          have X1 := Lib.hid (show R256 w' (v 4) q from hJ.out.fact 4 (by kernel_rfl))
          go_wp2_with fail
          refine (HIQ.out _ _ _ X0.out X1.out).mono ?_
          rintro e w1 ⟨rfl, hb⟩
          go_wp2_with fail
          exact ⟨rfl, rfl, hJ.out.call (by rfl) hb (rfl)⟩
        simp only [Act.put, List.setIfInBounds_toArray, List.set_cons_zero, List.set_cons_succ, Nat.reduceAdd]
        refine Steps.held ?_ ?_
        · intro L v w' hJ
          have hv2 : v 2 = .bool true := hJ.out.fact 2 (by kernel_rfl)
          simp only [hv2]
          clear hv2
          have hv5 : v 5 = .bool true := hJ.out.fact 5 (by kernel_rfl)
          simp only [hv5]
          clear hv5
          go_wp2_with fail
          exact ⟨rfl, rfl, hJ.out.same (by rfl) (rfl)⟩
        simp only [Act.put, List.setIfInBounds_toArray, List.set_cons_zero, List.set_cons_succ, Nat.reduceAdd]
        refine Steps.held ?_ ?_
        · intro L v w' hJ
          have hv6 : v 6 = .bool true := hJ.out.fact 6 (by kernel_rfl)
          simp only [hv6]
          clear hv6
          go_wp2_with fail
          exact ⟨rfl, rfl, hJ.out.same (by rfl) (rfl)⟩
        simp only [Act.put, List.setIfInBounds_toArray, List.set_cons_zero, List.set_cons_succ, Nat.reduceAdd]
        refine Steps.held ?_ ?_
        · intro L v w' hJ
          have hv7 : v 7 = .bool true := hJ.out.fact 7 (by kernel_rfl)
          simp only [hv7]
          clear hv7
          have kb := hJ.out.blk E4.out (by simp [oldsOf])
          have k0 := kb.cell 0
          clear kb
          go_wp2_with fail
          exact ⟨rfl, rfl, hJ.out.same (by rfl) (NR.out.keep hJ.out.held.keep)⟩
        simp only [Act.put, List.setIfInBounds_toArray, List.set_cons_zero, List.set_cons_succ, Nat.reduceAdd]
        refine Steps.held ?_ ?_
        · intro L v w' hJ
          have hv7 : v 7 = .bool true := hJ.out.fact 7 (by kernel_rfl)
          simp only [hv7]
          clear hv7
          go_wp2_with fail
          exact ⟨rfl, rfl, hJ.out.same (by rfl) (RR.out.keep hJ.out.held.keep)⟩
        simp only [Act.put, List.setIfInBounds_toArray, List.set_cons_zero, List.set_cons_succ, Nat.reduceAdd]
        refine Steps.held ?_ ?_
        · intro L v w' hJ
          have hv7 : v 7 = .bool true := hJ.out.fact 7 (by kernel_rfl)
          simp only [hv7]
          clear hv7
          have X0 := Lib.hid (show N64 w' (v 8) r from hJ.out.fact 8 (by kernel_rfl))
          have X1 := Lib.hid (show R256 w' (v 9) r from hJ.out.fact 9 (by kernel_rfl))
          go_wp2_with fail
          refine (HIR.out _ _ _ X0.out X1.out).mono ?_
          rintro e w1 ⟨rfl, hb⟩
          go_wp2_with fail
          exact ⟨rfl, rfl, hJ.out.call (by rfl) hb (rfl)⟩
        simp only [Act.put, List.setIfInBounds_toArray, List.set_cons_zero, List.set_cons_succ, Nat.reduceAdd]
        refine Steps.held ?_ ?_
        · intro L v w' hJ
          have hv7 : v 7 = .bool true := hJ.out.fact 7 (by kernel_rfl)
          simp only [hv7]
          clear hv7
          have hv10 : v 10 = .bool true := hJ.out.fact 10 (by kernel_rfl)
          simp only [hv10]
          clear hv10
          go_wp2_with fail
          exact ⟨rfl, rfl, hJ.out.same (by rfl) (rfl)⟩
        simp only [Act.put, List.setIfInBounds_toArray, List.set_cons_zero, List.set_cons_succ, Nat.reduceAdd]
        refine Steps.held ?_ ?_
        · intro L v w' hJ
          have hv11 : v 11 = .bool true := hJ.out.fact 11 (by kernel_rfl)
          simp only [hv11]
          clear hv11
          go_wp2_with fail
          exact ⟨rfl, rfl, hJ.out.same (by rfl) (rfl)⟩
        simp only [Act.put, List.setIfInBounds_toArray, List.set_cons_zero, List.set_cons_succ, Nat.reduceAdd]
        refine Steps.held ?_ ?_
        · intro L v w' hJ
          have hv12 : v 12 = .bool true := hJ.out.fact 12 (by kernel_rfl)
          simp only [hv12]
          clear hv12
          have kb := hJ.out.blk E3.out (by simp [oldsOf])
          have k0 := kb.cell 0
          clear kb
          go_wp2_with fail
          exact ⟨rfl, rfl, hJ.out.same (by rfl) (NQ.out.keep hJ.out.held.keep)⟩
        simp only [Act.put, List.setIfInBounds_toArray, List.set_cons_zero, List.set_cons_succ, Nat.reduceAdd]
        refine Steps.held ?_ ?_
        · intro L v w' hJ
          have hv12 : v 12 = .bool true := hJ.out.fact 12 (by kernel_rfl)
          simp only [hv12]
          clear hv12
          have kb := hJ.out.blk E2.out (by simp [oldsOf])
          have k0 := kb.cell 0
          clear kb
          go_wp2_with fail
          exact ⟨rfl, rfl, hJ.out.same (by rfl) (Ny.out.keep hJ.out.held.keep)⟩
        simp only [Act.put, List.setIfInBounds_toArray, List.set_cons_zero, List.set_cons_succ, Nat.reduceAdd]
        refine Steps.held ?_ ?_
        · intro L v w' hJ
          have hv12 : v 12 = .bool true := hJ.out.fact 12 (by kernel_rfl)
          simp only [hv12]
          clear hv12
          have X0 := Lib.hid (show N64 w' (v 13) q from hJ.out.fact 13 (by kernel_rfl))
          have X1 := Lib.hid (show N64 w' (v 14) y from hJ.out.fact 14 (by kernel_rfl))
          go_wp2_with fail
          refine (HMU.out _ _ _ X0.out X1.out).mono ?_
          rintro e w1 ⟨u, rfl, hu, hb⟩
          go_wp2_with fail
          exact ⟨rfl, rfl, hJ.out.call (by rfl) hb (hu)⟩
        simp only [Act.put, List.setIfInBounds_toArray, List.set_cons_zero, List.set_cons_succ, Nat.reduceAdd]
        refine Steps.held ?_ ?_
        · intro L v w' hJ
          have hv12 : v 12 = .bool true := hJ.out.fact 12 (by kernel_rfl)
          simp only [hv12]
          clear hv12
          have kb := hJ.out.blk E4.out (by simp [oldsOf])
          have k0 := kb.cell 0
          clear kb
          go_wp2_with fail
          exact ⟨rfl, rfl, hJ.out.same (by rfl) (NR.out.keep hJ.out.held.keep)⟩
        simp only [Act.put, List.setIfInBounds_toArray, List.set_cons_zero, List.set_cons_succ, Nat.reduceAdd]
        refine Steps.held ?_ ?_
        · intro L v w' hJ
          have hv12 : v 12 = .bool true := hJ.out.fact 12 (by kernel_rfl)
          simp only [hv12]
          clear hv12
          have X0 := Lib.hid (show N64 w' (v 15) (q * y) from hJ.out.fact 15 (by kernel_rfl))
          have X1 := Lib.hid (show N64 w' (v 16) r from hJ.out.fact 16 (by kernel_rfl))
          go_wp2_with fail
          refine (HAD.out _ _ _ X0.out X1.out).mono ?_
          rintro e w1 ⟨u, rfl, hu, hb⟩
          go_wp2_with fail
          exact ⟨rfl, rfl, hJ.out.call (by rfl) hb (hu)⟩
        simp only [Act.put, List.setIfInBounds_toArray, List.set_cons_zero, List.set_cons_succ, Nat.reduceAdd]
        refine Steps.held ?_ ?_
        · intro L v w' hJ
          have hv12 : v 12 = .bool true := hJ.out.fact 12 (by kernel_rfl)
          simp only [hv12]
          clear hv12
          have kb := hJ.out.blk E1.out (by simp [oldsOf])
          have k0 := kb.cell 0
          clear kb
          go_wp2_with fail
          exact ⟨rfl, rfl, hJ.out.same (by rfl) (Nx.out.keep hJ.out.held.keep)⟩
        simp only [Act.put, List.setIfInBounds_toArray, List.set_cons_zero, List.set_cons_succ, Nat.reduceAdd]
        refine Steps.held ?_ ?_
        · intro L v w' hJ
          have hv12 : v 12 = .bool true := hJ.out.fact 12 (by kernel_rfl)
          simp only [hv12]
          clear hv12
          have X0 := Lib.hid (show N64 w' (v 17) x from hJ.out.fact 17 (by kernel_rfl))
          have X1 := Lib.hid (show N64 w' (v 18) x from hJ.out.fact 18 (by kernel_rfl))
          go_wp2_with fail
          refine (HCE.out _ _ _ X0.out X1.out).mono ?_
          rintro e w1 ⟨rfl, hb⟩
          go_wp2_with fail
          exact ⟨rfl, rfl, hJ.out.call (by rfl) hb (rfl)⟩
        simp only [Act.put, List.setIfInBounds_toArray, List.set_cons_zero, List.set_cons_succ, Nat.reduceAdd]
        refine Steps.held ?_ ?_
        · intro L v w' hJ
          have hv19 : v 19 = .int .i64 0 := hJ.out.fact 19 (by kernel_rfl)
          simp only [hv19]
          clear hv19
          have hv12 : v 12 = .bool true := hJ.out.fact 12 (by kernel_rfl)
          simp only [hv12]
          clear hv12
          go_wp2_with fail
          exact ⟨rfl, rfl, hJ.out.same (by rfl) (rfl)⟩
        simp only [Act.put, List.setIfInBounds_toArray, List.set_cons_zero, List.set_cons_succ, Nat.reduceAdd]
        refine Steps.held ?_ ?_
        · intro L v w' hJ
          have hv12 : v 12 = .bool true := hJ.out.fact 12 (by kernel_rfl)
          simp only [hv12]
          clear hv12
          have hv20 : v 20 = .bool true := hJ.out.fact 20 (by kernel_rfl)
          simp only [hv20]
          clear hv20
          go_wp2_with fail
          exact ⟨rfl, rfl, hJ.out.same (by rfl) (rfl)⟩
        simp only [Act.put, List.setIfInBounds_toArray, List.set_cons_zero, List.set_cons_succ, Nat.reduceAdd]
        refine Steps.held ?_ ?_
        · intro L v w' hJ
          have hv21 : v 21 = .bool true := hJ.out.fact 21 (by kernel_rfl)
          simp only [hv21]
          clear hv21
          go_wp2_with fail
          exact ⟨rfl, rfl, hJ.out.same (by rfl) (rfl)⟩
        simp only [Act.put, List.setIfInBounds_toArray, List.set_cons_zero, List.set_cons_succ, Nat.reduceAdd]
        refine Steps.held ?_ ?_
        · intro L v w' hJ
          have hv22 : v 22 = .bool true := hJ.out.fact 22 (by kernel_rfl)
          simp only [hv22]
          clear hv22
          have kb := hJ.out.blk E4.out (by simp [oldsOf])
          have k0 := kb.cell 0
          clear kb
          go_wp2_with fail
          exact ⟨rfl, rfl, hJ.out.same (by rfl) (NR.out.keep hJ.out.held.keep)⟩
        simp only [Act.put, List.setIfInBounds_toArray, List.set_cons_zero, List.set_cons_succ, Nat.reduceAdd]
        refine Steps.held ?_ ?_
        · intro L v w' hJ
          have hv22 : v 22 = .bool true := hJ.out.fact 22 (by kernel_rfl)
          simp only [hv22]
          clear hv22
          have kb := hJ.out.blk E2.out (by simp [oldsOf])
          have k0 := kb.cell 0
          clear kb
          go_wp2_with fail
          exact ⟨rfl, rfl, hJ.out.same (by rfl) (Ny.out.keep hJ.out.held.keep)⟩
        simp only [Act.put, List.setIfInBounds_toArray, List.set_cons_zero, List.set_cons_succ, Nat.reduceAdd]
        refine Steps.held ?_ ?_
        · intro L v w' hJ
          have hv22 : v 22 = .bool true := hJ.out.fact 22 (by kernel_rfl)
          simp only [hv22]
          clear hv22
          have X0 := Lib.hid (show N64 w' (v 23) r from hJ.out.fact 23 (by kernel_rfl))
          have X1 := Lib.hid (show N64 w' (v 24) y from hJ.out.fact 24 (by kernel_rfl))
          go_wp2_with fail
          refine (HCL.out _ _ _ X0.out X1.out).mono ?_
          rintro e w1 ⟨rfl, hb⟩
          go_wp2_with fail
          exact ⟨rfl, rfl, hJ.out.call (by rfl) hb (rfl)⟩
        simp only [Act.put, List.setIfInBounds_toArray, List.set_cons_zero, List.set_cons_succ, Nat.reduceAdd]
        refine Steps.held ?_ ?_
        · intro L v w' hJ
          have hv25 : v 25 = .int .i64 (-1) := hJ.out.fact 25 (by kernel_rfl)
          simp only [hv25]
          clear hv25
          have hv22 : v 22 = .bool true := hJ.out.fact 22 (by kernel_rfl)
          simp only [hv22]
          clear hv22
          go_wp2_with fail
          exact ⟨rfl, rfl, hJ.out.same (by rfl) (rfl)⟩
        simp only [Act.put, List.setIfInBounds_toArray, List.set_cons_zero, List.set_cons_succ, Nat.reduceAdd]
        refine Steps.held ?_ ?_
        · intro L v w' hJ
          have hv22 : v 22 = .bool true := hJ.out.fact 22 (by kernel_rfl)
          simp only [hv22]
          clear hv22
          have hv26 : v 26 = .bool true := hJ.out.fact 26 (by kernel_rfl)
          simp only [hv26]
          clear hv26
          go_wp2_with fail
          exact ⟨rfl, rfl, hJ.out.same (by rfl) (rfl)⟩
        simp only [Act.put, List.setIfInBounds_toArray, List.set_cons_zero, List.set_cons_succ, Nat.reduceAdd]
        refine Steps.held ?_ ?_
        · intro L v w' hJ
          have hv27 : v 27 = .bool true := hJ.out.fact 27 (by kernel_rfl)
          simp only [hv27]
          clear hv27
          go_wp2_with fail
          exact ⟨rfl, rfl, hJ.out.same (by rfl) (rfl)⟩
        simp only [Act.put, List.setIfInBounds_toArray, List.set_cons_zero, List.set_cons_succ, Nat.reduceAdd]
        refine Steps.held ?_ ?_
        · intro L v w' hJ
          have hv28 : v 28 = .bool true := hJ.out.fact 28 (by kernel_rfl)
          simp only [hv28]
          clear hv28
          go_wp2_with fail
          refine (live_any _).mono ?_
          rintro e w1 ⟨rfl, hb⟩
          go_wp2_with fail
          exact ⟨rfl, rfl, hJ.out.call (by rfl) hb (rfl)⟩
        simp only [Act.put, List.setIfInBounds_toArray, List.set_cons_zero, List.set_cons_succ, Nat.reduceAdd]
        refine Steps.held ?_ ?_
        · intro L v w' hJ
          have hv28 : v 28 = .bool true := hJ.out.fact 28 (by kernel_rfl)
          simp only [hv28]
          clear hv28
          have hv29 : v 29 = .bool true := hJ.out.fact 29 (by kernel_rfl)
          simp only [hv29]
          clear hv29
          go_wp2_with fail
          exact ⟨rfl, rfl, hJ.out.same (by rfl) (rfl)⟩
        simp only [Act.put, List.setIfInBounds_toArray, List.set_cons_zero, List.set_cons_succ, Nat.reduceAdd]
        refine Steps.held ?_ ?_
        · intro L v w' hJ
          have hv30 : v 30 = .bool true := hJ.out.fact 30 (by kernel_rfl)
          simp only [hv30]
          clear hv30
          go_wp2_with fail
          exact ⟨rfl, rfl, hJ.out.same (by rfl) (rfl)⟩
        simp only [Act.put, List.setIfInBounds_toArray, List.set_cons_zero, List.set_cons_succ, Nat.reduceAdd]
        refine Steps.nil ?_
        intro v w' hJ
        have h31 : v 31 = .bool true := hJ.end_fact 31 (by decide)
        have HF := Lib.hid (cbt HB0.out hJ.but.below)
        clear hJ
        simp only [h31]
        clear h31
        go_wp2_with fail
        go_ret
        exact ⟨rfl, HF.out⟩
    · have dx : decide (60 < (nx : Int)) = false := decide_eq_false (by omega)
      have dy : decide (60 < (ny : Int)) = true := decide_eq_true (by omega)
      go_enter Try.func5, Try.ntmps5
      go_wp2_with fail
      refine (live_any _).mono ?_
      rintro e w1 ⟨rfl, hb1⟩
      go_wp2_with fail
      go_ret
      exact ⟨rfl, hb1⟩
  · have dx : decide (60 < (nx : Int)) = true := decide_eq_true (by omega)
    go_enter Try.func5, Try.ntmps5
    go_wp2_with fail
    refine (live_any _).mono ?_
    rintro e w1 ⟨rfl, hb1⟩
    go_wp2_with fail
    go_ret
    exact ⟨rfl, hb1⟩
set_option maxRecDepth 100000 in
set_option maxHeartbeats 4000000 in
theorem natSums_law (Ax : Option Addr) (nx cx : Nat) (lx : List Int) (Ay : Option Addr) (ny cy : Nat) (ly : List Int) (w : World) (hxl : lx.length = nx) (hx : ByS w (.slice Ax nx cx) lx) (hxb : Bys lx) (hyl : ly.length = ny) (hy : ByS w (.slice Ay ny cy) ly) (hyb : Bys ly) :
    Calls Try.prog 12 #[.slice Ax nx cx, .slice Ay ny cy] w fun e w' => e = .returned (.bool true) ∧ Below w.heap.size w w' := by
  have Hx := Lib.hid hx
  have HxB := Lib.hid hxb
  have HxL := Lib.hid hxl
  clear hx hxb hxl
  have Hy := Lib.hid hy
  have HyB := Lib.hid hyb
  have HyL := Lib.hid hyl
  clear hy hyb hyl
  by_cases hx : nx ≤ 200
  · by_cases hy : ny ≤ 200
    · have dx : decide (200 < (nx : Int)) = false := decide_eq_false (by omega)
      have dy : decide (200 < (ny : Int)) = false := decide_eq_false (by omega)
      have x64 := be_w64 HxB.out
      have x8 := be_wl HxB.out
      rw [HxL.out] at x64 x8
      have bdx : lx.length ≤ 1099511627776 := by rw [HxL.out]; omega
      obtain ⟨x, hx⟩ : ∃ x, be lx = x := ⟨_, rfl⟩
      have HRx := Lib.hid (fun W h => nread_any (.slice Ax nx cx) lx W h HxB.out bdx)
      have HOx := Lib.hid (fun W h => rof_any (.slice Ax nx cx) lx W h HxB.out bdx)
      rw [hx] at HRx HOx x64 x8
      have y64 := be_w64 HyB.out
      have y8 := be_wl HyB.out
      rw [HyL.out] at y64 y8
      have bdy : ly.length ≤ 1099511627776 := by rw [HyL.out]; omega
      obtain ⟨y, hy⟩ : ∃ y, be ly = y := ⟨_, rfl⟩
      have HRy := Lib.hid (fun W h => nread_any (.slice Ay ny cy) ly W h HyB.out bdy)
      have HOy := Lib.hid (fun W h => rof_any (.slice Ay ny cy) ly W h HyB.out bdy)
      rw [hy] at HRy HOy y64 y8
      have HB0 := Lib.hid (Below.refl w.heap.size w)
      have sxy : wl 64 (x + y) ≤ 201 := wl_add_le (by decide) (by omega) (by omega)
      have sxy8 : wl 8 (x + y) ≤ 201 := wl_add_le (by decide) (by omega) (by omega)
      have HRC := Lib.hid (fun W va vb (h1 : R256 W va x) (h2 : R256 W vb y) => rcmp_any h1 h2 (by omega))
      have HNC := Lib.hid (fun va vb W h1 h2 => ncmp_any va vb x y W h1 h2)
      have HAD := Lib.hid (fun va vb W h1 h2 => nadd_any va vb x y W h1 h2 (by omega) (by omega))
      have HRA := Lib.hid (fun W va vb (h1 : R256 W va x) (h2 : R256 W vb y) => radd_any h1 h2 (by omega) (by omega))
      have HIS := Lib.hid (fun va vb W h1 h2 => is_yes va vb (x + y) W h1 h2 (by omega) (by omega))
      by_cases hxy : x < y
      · have HSB := Lib.hid (fun va vb W h1 h2 => nsub_no va vb x y W h1 h2 hxy)
        have HZ0 := Lib.hid zero_yes
        rw [cmpN_lt hxy] at HRC HNC
        clear x64 x8 y64 y8 bdx bdy sxy sxy8 hx hy hxy
        go_enter Try.func12, Try.ntmps12
        go_wp2_with fail
        refine (HRx.out _ Hx.out).mono ?_
        rintro e w1 ⟨u, rfl, hu, hb⟩
        replace Hx := Lib.hid (Hx.out.below hb)
        replace Hy := Lib.hid (Hy.out.below hb)
        replace HB0 := Lib.hid (cbt HB0.out hb)
        have Nx := Lib.hid hu
        clear hb hu
        go_wp2_with fail
        refine (HRy.out _ Hy.out).mono ?_
        rintro e w1 ⟨u, rfl, hu, hb⟩
        replace Hx := Lib.hid (Hx.out.below hb)
        replace Hy := Lib.hid (Hy.out.below hb)
        replace Nx := Lib.hid (Nx.out.below hb)
        replace HB0 := Lib.hid (cbt HB0.out hb)
        have Ny := Lib.hid hu
        clear hb hu
        have Z0 := Nx.out
        obtain ⟨PS0, cpS0, rfl, _, _, _⟩ := Z0
        have Z1 := Ny.out
        obtain ⟨PS1, cpS1, rfl, _, _, _⟩ := Z1
        have e1 := (Blk.new w1 26 #[.slice PS0 (wl 64 (x)) cpS0]).alloc (.cells #[.slice PS1 (wl 64 (y)) cpS1] 26)
        have e2 := Blk.new (w1.alloc (.cells #[.slice PS0 (wl 64 (x)) cpS0] 26)) 26 #[.slice PS1 (wl 64 (y)) cpS1]
        have hb := cba (cba (Below.refl _ w1) (.cells #[.slice PS0 (wl 64 (x)) cpS0] 26)) (.cells #[.slice PS1 (wl 64 (y)) cpS1] 26)
        simp only [World.size_alloc] at e2
        go_upto_region 4 with (fail)
        obtain ⟨S, hS⟩ : ∃ S, ((w1.alloc (.cells #[.slice PS0 (wl 64 (x)) cpS0] 26)).alloc (.cells #[.slice PS1 (wl 64 (y)) cpS1] 26)) = S := ⟨_, rfl⟩
        rw [hS] at e1 e2 hb ⊢
        obtain ⟨g1, hg⟩ : ∃ g, w1.heap.size = g := ⟨_, rfl⟩
        rw [hg] at e1 e2
        simp only [hg]
        replace Nx := Lib.hid (Nx.out.below hb)
        replace Ny := Lib.hid (Ny.out.below hb)
        replace Hx := Lib.hid (Hx.out.below hb)
        replace Hy := Lib.hid (Hy.out.below hb)
        replace HB0 := Lib.hid (cbt HB0.out hb)
        have E1 := Lib.hid e1
        have E2 := Lib.hid e2
        clear hS hg hb e1 e2
        have k_E1_0 := E1.out.cell 0
        have k_E2_0 := E2.out.cell 0
        go_wp2_with fail
        refine (HOx.out _ Hx.out).mono ?_
        rintro e w2 ⟨v5, rfl, hu, hb⟩
        clear k_E1_0 k_E2_0
        replace Nx := Lib.hid (Nx.out.below hb)
        replace Ny := Lib.hid (Ny.out.below hb)
        replace Hx := Lib.hid (Hx.out.below hb)
        replace Hy := Lib.hid (Hy.out.below hb)
        replace E1 := Lib.hid (blk_below E1.out hb)
        replace E2 := Lib.hid (blk_below E2.out hb)
        replace HB0 := Lib.hid (cbt HB0.out hb)
        have RX := Lib.hid hu
        clear hb hu
        have k_E1_0 := E1.out.cell 0
        have k_E2_0 := E2.out.cell 0
        go_wp2_with fail
        refine (HOy.out _ Hy.out).mono ?_
        rintro e w3 ⟨v6, rfl, hu, hb⟩
        clear k_E1_0 k_E2_0
        replace Nx := Lib.hid (Nx.out.below hb)
        replace Ny := Lib.hid (Ny.out.below hb)
        replace Hx := Lib.hid (Hx.out.below hb)
        replace Hy := Lib.hid (Hy.out.below hb)
        replace RX := Lib.hid (RX.out.below hb)
        replace E1 := Lib.hid (blk_below E1.out hb)
        replace E2 := Lib.hid (blk_below E2.out hb)
        replace HB0 := Lib.hid (cbt HB0.out hb)
        have RY := Lib.hid hu
        clear hb hu
        have k_E1_0 := E1.out.cell 0
        have k_E2_0 := E2.out.cell 0
        clear Hx Hy HRx HRy HOx HOy
        go_wp2_with fail
        refine (HRC.out _ _ _ RX.out RY.out).mono ?_
        rintro e w4 ⟨rfl, hd⟩
        have hb := hd.below
        clear hd
        clear k_E1_0 k_E2_0
        replace Nx := Lib.hid (Nx.out.below hb)
        replace Ny := Lib.hid (Ny.out.below hb)
        replace RX := Lib.hid (RX.out.below hb)
        replace RY := Lib.hid (RY.out.below hb)
        replace E1 := Lib.hid (blk_below E1.out hb)
        replace E2 := Lib.hid (blk_below E2.out hb)
        replace HB0 := Lib.hid (cbt HB0.out hb)
        clear hb
        have k_E1_0 := E1.out.cell 0
        have k_E2_0 := E2.out.cell 0
        go_wp2_with fail
        refine (HSB.out _ _ _ Nx.out Ny.out).mono ?_
        rintro e w5 ⟨u, rfl, hu, hb⟩
        clear k_E1_0 k_E2_0
        replace Nx := Lib.hid (Nx.out.below hb)
        replace Ny := Lib.hid (Ny.out.below hb)
        replace RX := Lib.hid (RX.out.below hb)
        replace RY := Lib.hid (RY.out.below hb)
        replace E1 := Lib.hid (blk_below E1.out hb)
        replace E2 := Lib.hid (blk_below E2.out hb)
        replace HB0 := Lib.hid (cbt HB0.out hb)
        have ND := Lib.hid hu
        clear hb hu
        have k_E1_0 := E1.out.cell 0
        have k_E2_0 := E2.out.cell 0
        have Z0 := ND.out
        obtain ⟨PT0, cpT0, rfl, _, _, _⟩ := Z0
        have e3 := Blk.new w5 26 #[.slice PT0 (wl 64 (0)) cpT0]
        have hb := cba (Below.refl _ w5) (.cells #[.slice PT0 (wl 64 (0)) cpT0] 26)
        go_upto_region 7 with (fail)
        obtain ⟨T, hS⟩ : ∃ S, (w5.alloc (.cells #[.slice PT0 (wl 64 (0)) cpT0] 26)) = S := ⟨_, rfl⟩
        rw [hS] at e3 hb ⊢
        obtain ⟨g3, hg⟩ : ∃ g, w5.heap.size = g := ⟨_, rfl⟩
        rw [hg] at e3
        simp only [hg]
        replace Nx := Lib.hid (Nx.out.below hb)
        replace Ny := Lib.hid (Ny.out.below hb)
        replace RX := Lib.hid (RX.out.below hb)
        replace RY := Lib.hid (RY.out.below hb)
        replace ND := Lib.hid (ND.out.below hb)
        replace E1 := Lib.hid (blk_below E1.out hb)
        replace E2 := Lib.hid (blk_below E2.out hb)
        replace HB0 := Lib.hid (cbt HB0.out hb)
        have E3 := Lib.hid e3
        clear hS hg hb e3 k_E1_0 k_E2_0
        have k_E1_0 := E1.out.cell 0
        have k_E2_0 := E2.out.cell 0
        have k_E3_0 := E3.out.cell 0
        go_wp2_with fail
        refine (HNC.out _ _ _ Nx.out Ny.out).mono ?_
        rintro e w6 ⟨rfl, hb⟩
        clear k_E1_0 k_E2_0 k_E3_0
        replace Nx := Lib.hid (Nx.out.below hb)
        replace Ny := Lib.hid (Ny.out.below hb)
        replace RX := Lib.hid (RX.out.below hb)
        replace RY := Lib.hid (RY.out.below hb)
        replace ND := Lib.hid (ND.out.below hb)
        replace E1 := Lib.hid (blk_below E1.out hb)
        replace E2 := Lib.hid (blk_below E2.out hb)
        replace E3 := Lib.hid (blk_below E3.out hb)
        replace HB0 := Lib.hid (cbt HB0.out hb)
        clear hb
        have k_E1_0 := E1.out.cell 0
        have k_E2_0 := E2.out.cell 0
        have k_E3_0 := E3.out.cell 0
        go_wp2_with fail
        refine (HAD.out _ _ _ Nx.out Ny.out).mono ?_
        rintro e w7 ⟨u, rfl, hu, hb⟩
        clear k_E1_0 k_E2_0 k_E3_0
        replace Nx := Lib.hid (Nx.out.below hb)
        replace Ny := Lib.hid (Ny.out.below hb)
        replace RX := Lib.hid (RX.out.below hb)
        replace RY := Lib.hid (RY.out.below hb)
        replace ND := Lib.hid (ND.out.below hb)
        replace E1 := Lib.hid (blk_below E1.out hb)
        replace E2 := Lib.hid (blk_below E2.out hb)
        replace E3 := Lib.hid (blk_below E3.out hb)
        replace HB0 := Lib.hid (cbt HB0.out hb)
        have NS := Lib.hid hu
        clear hb hu
        have k_E1_0 := E1.out.cell 0
        have k_E2_0 := E2.out.cell 0
        have k_E3_0 := E3.out.cell 0
        go_wp2_with fail
        refine (HRA.out _ _ _ RX.out RY.out).mono ?_
        rintro e w8 ⟨u2, rfl, hu, hb⟩
        clear k_E1_0 k_E2_0 k_E3_0
        replace Nx := Lib.hid (Nx.out.below hb)
        replace Ny := Lib.hid (Ny.out.below hb)
        replace RX := Lib.hid (RX.out.below hb)
        replace RY := Lib.hid (RY.out.below hb)
        replace ND := Lib.hid (ND.out.below hb)
        replace NS := Lib.hid (NS.out.below hb)
        replace E1 := Lib.hid (blk_below E1.out hb)
        replace E2 := Lib.hid (blk_below E2.out hb)
        replace E3 := Lib.hid (blk_below E3.out hb)
        replace HB0 := Lib.hid (cbt HB0.out hb)
        have RS := Lib.hid hu
        clear hb hu
        have k_E1_0 := E1.out.cell 0
        have k_E2_0 := E2.out.cell 0
        have k_E3_0 := E3.out.cell 0
        go_wp2_with fail
        refine (HIS.out _ _ _ NS.out RS.out).mono ?_
        rintro e w9 ⟨rfl, hb⟩
        clear k_E1_0 k_E2_0 k_E3_0
        replace Nx := Lib.hid (Nx.out.below hb)
        replace Ny := Lib.hid (Ny.out.below hb)
        replace RX := Lib.hid (RX.out.below hb)
        replace RY := Lib.hid (RY.out.below hb)
        replace ND := Lib.hid (ND.out.below hb)
        replace NS := Lib.hid (NS.out.below hb)
        replace RS := Lib.hid (RS.out.below hb)
        replace E1 := Lib.hid (blk_below E1.out hb)
        replace E2 := Lib.hid (blk_below E2.out hb)
        replace E3 := Lib.hid (blk_below E3.out hb)
        replace HB0 := Lib.hid (cbt HB0.out hb)
        clear hb
        have k_E1_0 := E1.out.cell 0
        have k_E2_0 := E2.out.cell 0
        have k_E3_0 := E3.out.cell 0
        go_wp2_with fail
        refine (HZ0.out _ _ ND.out).mono ?_
        rintro e w1 ⟨rfl, hb⟩
        clear k_E1_0 k_E2_0 k_E3_0
        replace Nx := Lib.hid (Nx.out.below hb)
        replace Ny := Lib.hid (Ny.out.below hb)
        replace RX := Lib.hid (RX.out.below hb)
        replace RY := Lib.hid (RY.out.below hb)
        replace ND := Lib.hid (ND.out.below hb)
        replace NS := Lib.hid (NS.out.below hb)
        replace RS := Lib.hid (RS.out.below hb)
        replace E1 := Lib.hid (blk_below E1.out hb)
        replace E2 := Lib.hid (blk_below E2.out hb)
        replace E3 := Lib.hid (blk_below E3.out hb)
        replace HB0 := Lib.hid (cbt HB0.out hb)
        clear hb
        have k_E1_0 := E1.out.cell 0
        have k_E2_0 := E2.out.cell 0
        have k_E3_0 := E3.out.cell 0
        go_wp2_with fail
        refine (live_any _).mono ?_
        rintro e w1 ⟨rfl, hb⟩
        clear k_E1_0 k_E2_0 k_E3_0
        replace Nx := Lib.hid (Nx.out.below hb)
        replace Ny := Lib.hid (Ny.out.below hb)
        replace RX := Lib.hid (RX.out.below hb)
        replace RY := Lib.hid (RY.out.below hb)
        replace ND := Lib.hid (ND.out.below hb)
        replace NS := Lib.hid (NS.out.below hb)
        replace RS := Lib.hid (RS.out.below hb)
        replace E1 := Lib.hid (blk_below E1.out hb)
        replace E2 := Lib.hid (blk_below E2.out hb)
        replace E3 := Lib.hid (blk_below E3.out hb)
        replace HB0 := Lib.hid (cbt HB0.out hb)
        clear hb
        have k_E1_0 := E1.out.cell 0
        have k_E2_0 := E2.out.cell 0
        have k_E3_0 := E3.out.cell 0
        go_wp2_with fail
        go_ret
        exact ⟨rfl, HB0.out⟩
      · obtain ⟨z, hz⟩ : ∃ z, x = z + y := ⟨x - y, by omega⟩
        have z64 : wl 64 (z + y) ≤ 200 := by rw [← hz]; omega
        have HSB := Lib.hid (fun va vb W h1 h2 => nsub_any va vb z y W h1 h2 (by omega))
        have HRS := Lib.hid (fun W va vb (h1 : R256 W va x) (h2 : R256 W vb y) => rsub_any h1 h2 (by omega) (by omega))
        have zz64 : wl 64 z ≤ 200 := Nat.le_trans (wl_mono (by decide) (show z ≤ x by omega)) (by omega)
        have zz8 : wl 8 z ≤ 200 := Nat.le_trans (wl_mono (by decide) (show z ≤ x by omega)) (by omega)
        have HIZ := Lib.hid (fun va vb W h1 h2 => is_yes va vb z W h1 h2 (by omega) (by omega))
        rw [← hz] at HSB
        rw [show x - y = z by omega] at HRS
        have hc0 : decide (cmpN x y < 0) = false := decide_eq_false (by have := cmpN_ge (x := x) (y := y) (by omega); omega)
        obtain ⟨cc, hcc⟩ : ∃ c, cmpN x y = c := ⟨_, rfl⟩
        rw [hcc] at HRC HNC hc0
        clear x64 x8 y64 y8 bdx bdy sxy sxy8 hx hy hxy hz z64 zz64 zz8 hcc
        go_enter Try.func12, Try.ntmps12
        go_wp2_with fail
        refine (HRx.out _ Hx.out).mono ?_
        rintro e w1 ⟨u, rfl, hu, hb⟩
        replace Hx := Lib.hid (Hx.out.below hb)
        replace Hy := Lib.hid (Hy.out.below hb)
        replace HB0 := Lib.hid (cbt HB0.out hb)
        have Nx := Lib.hid hu
        clear hb hu
        go_wp2_with fail
        refine (HRy.out _ Hy.out).mono ?_
        rintro e w1 ⟨u, rfl, hu, hb⟩
        replace Hx := Lib.hid (Hx.out.below hb)
        replace Hy := Lib.hid (Hy.out.below hb)
        replace Nx := Lib.hid (Nx.out.below hb)
        replace HB0 := Lib.hid (cbt HB0.out hb)
        have Ny := Lib.hid hu
        clear hb hu
        have Z0 := Nx.out
        obtain ⟨PS0, cpS0, rfl, _, _, _⟩ := Z0
        have Z1 := Ny.out
        obtain ⟨PS1, cpS1, rfl, _, _, _⟩ := Z1
        have e1 := (Blk.new w1 26 #[.slice PS0 (wl 64 (x)) cpS0]).alloc (.cells #[.slice PS1 (wl 64 (y)) cpS1] 26)
        have e2 := Blk.new (w1.alloc (.cells #[.slice PS0 (wl 64 (x)) cpS0] 26)) 26 #[.slice PS1 (wl 64 (y)) cpS1]
        have hb := cba (cba (Below.refl _ w1) (.cells #[.slice PS0 (wl 64 (x)) cpS0] 26)) (.cells #[.slice PS1 (wl 64 (y)) cpS1] 26)
        simp only [World.size_alloc] at e2
        go_upto_region 4 with (fail)
        obtain ⟨S, hS⟩ : ∃ S, ((w1.alloc (.cells #[.slice PS0 (wl 64 (x)) cpS0] 26)).alloc (.cells #[.slice PS1 (wl 64 (y)) cpS1] 26)) = S := ⟨_, rfl⟩
        rw [hS] at e1 e2 hb ⊢
        obtain ⟨g1, hg⟩ : ∃ g, w1.heap.size = g := ⟨_, rfl⟩
        rw [hg] at e1 e2
        simp only [hg]
        replace Nx := Lib.hid (Nx.out.below hb)
        replace Ny := Lib.hid (Ny.out.below hb)
        replace Hx := Lib.hid (Hx.out.below hb)
        replace Hy := Lib.hid (Hy.out.below hb)
        replace HB0 := Lib.hid (cbt HB0.out hb)
        have E1 := Lib.hid e1
        have E2 := Lib.hid e2
        clear hS hg hb e1 e2
        have k_E1_0 := E1.out.cell 0
        have k_E2_0 := E2.out.cell 0
        go_wp2_with fail
        refine (HOx.out _ Hx.out).mono ?_
        rintro e w2 ⟨v5, rfl, hu, hb⟩
        clear k_E1_0 k_E2_0
        replace Nx := Lib.hid (Nx.out.below hb)
        replace Ny := Lib.hid (Ny.out.below hb)
        replace Hx := Lib.hid (Hx.out.below hb)
        replace Hy := Lib.hid (Hy.out.below hb)
        replace E1 := Lib.hid (blk_below E1.out hb)
        replace E2 := Lib.hid (blk_below E2.out hb)
        replace HB0 := Lib.hid (cbt HB0.out hb)
        have RX := Lib.hid hu
        clear hb hu
        have k_E1_0 := E1.out.cell 0
        have k_E2_0 := E2.out.cell 0
        go_wp2_with fail
        refine (HOy.out _ Hy.out).mono ?_
        rintro e w3 ⟨v6, rfl, hu, hb⟩
        clear k_E1_0 k_E2_0
        replace Nx := Lib.hid (Nx.out.below hb)
        replace Ny := Lib.hid (Ny.out.below hb)
        replace Hx := Lib.hid (Hx.out.below hb)
        replace Hy := Lib.hid (Hy.out.below hb)
        replace RX := Lib.hid (RX.out.below hb)
        replace E1 := Lib.hid (blk_below E1.out hb)
        replace E2 := Lib.hid (blk_below E2.out hb)
        replace HB0 := Lib.hid (cbt HB0.out hb)
        have RY := Lib.hid hu
        clear hb hu
        have k_E1_0 := E1.out.cell 0
        have k_E2_0 := E2.out.cell 0
        clear Hx Hy HRx HRy HOx HOy
        go_wp2_with fail
        refine (HRC.out _ _ _ RX.out RY.out).mono ?_
        rintro e w4 ⟨rfl, hd⟩
        have hb := hd.below
        clear hd
        clear k_E1_0 k_E2_0
        replace Nx := Lib.hid (Nx.out.below hb)
        replace Ny := Lib.hid (Ny.out.below hb)
        replace RX := Lib.hid (RX.out.below hb)
        replace RY := Lib.hid (RY.out.below hb)
        replace E1 := Lib.hid (blk_below E1.out hb)
        replace E2 := Lib.hid (blk_below E2.out hb)
        replace HB0 := Lib.hid (cbt HB0.out hb)
        clear hb
        have k_E1_0 := E1.out.cell 0
        have k_E2_0 := E2.out.cell 0
        go_wp2_with fail
        refine (HSB.out _ _ _ Nx.out Ny.out).mono ?_
        rintro e w5 ⟨u, rfl, hu, hb⟩
        clear k_E1_0 k_E2_0
        replace Nx := Lib.hid (Nx.out.below hb)
        replace Ny := Lib.hid (Ny.out.below hb)
        replace RX := Lib.hid (RX.out.below hb)
        replace RY := Lib.hid (RY.out.below hb)
        replace E1 := Lib.hid (blk_below E1.out hb)
        replace E2 := Lib.hid (blk_below E2.out hb)
        replace HB0 := Lib.hid (cbt HB0.out hb)
        have ND := Lib.hid hu
        clear hb hu
        have k_E1_0 := E1.out.cell 0
        have k_E2_0 := E2.out.cell 0
        have Z0 := ND.out
        obtain ⟨PT0, cpT0, rfl, _, _, _⟩ := Z0
        have e3 := Blk.new w5 26 #[.slice PT0 (wl 64 (z)) cpT0]
        have hb := cba (Below.refl _ w5) (.cells #[.slice PT0 (wl 64 (z)) cpT0] 26)
        go_upto_region 7 with (fail)
        obtain ⟨T, hS⟩ : ∃ S, (w5.alloc (.cells #[.slice PT0 (wl 64 (z)) cpT0] 26)) = S := ⟨_, rfl⟩
        rw [hS] at e3 hb ⊢
        obtain ⟨g3, hg⟩ : ∃ g, w5.heap.size = g := ⟨_, rfl⟩
        rw [hg] at e3
        simp only [hg]
        replace Nx := Lib.hid (Nx.out.below hb)
        replace Ny := Lib.hid (Ny.out.below hb)
        replace RX := Lib.hid (RX.out.below hb)
        replace RY := Lib.hid (RY.out.below hb)
        replace ND := Lib.hid (ND.out.below hb)
        replace E1 := Lib.hid (blk_below E1.out hb)
        replace E2 := Lib.hid (blk_below E2.out hb)
        replace HB0 := Lib.hid (cbt HB0.out hb)
        have E3 := Lib.hid e3
        clear hS hg hb e3 k_E1_0 k_E2_0
        have k_E1_0 := E1.out.cell 0
        have k_E2_0 := E2.out.cell 0
        have k_E3_0 := E3.out.cell 0
        go_wp2_with fail
        refine (HNC.out _ _ _ Nx.out Ny.out).mono ?_
        rintro e w6 ⟨rfl, hb⟩
        clear k_E1_0 k_E2_0 k_E3_0
        replace Nx := Lib.hid (Nx.out.below hb)
        replace Ny := Lib.hid (Ny.out.below hb)
        replace RX := Lib.hid (RX.out.below hb)
        replace RY := Lib.hid (RY.out.below hb)
        replace ND := Lib.hid (ND.out.below hb)
        replace E1 := Lib.hid (blk_below E1.out hb)
        replace E2 := Lib.hid (blk_below E2.out hb)
        replace E3 := Lib.hid (blk_below E3.out hb)
        replace HB0 := Lib.hid (cbt HB0.out hb)
        clear hb
        have k_E1_0 := E1.out.cell 0
        have k_E2_0 := E2.out.cell 0
        have k_E3_0 := E3.out.cell 0
        go_wp2_with fail
        refine (HAD.out _ _ _ Nx.out Ny.out).mono ?_
        rintro e w7 ⟨u, rfl, hu, hb⟩
        clear k_E1_0 k_E2_0 k_E3_0
        replace Nx := Lib.hid (Nx.out.below hb)
        replace Ny := Lib.hid (Ny.out.below hb)
        replace RX := Lib.hid (RX.out.below hb)
        replace RY := Lib.hid (RY.out.below hb)
        replace ND := Lib.hid (ND.out.below hb)
        replace E1 := Lib.hid (blk_below E1.out hb)
        replace E2 := Lib.hid (blk_below E2.out hb)
        replace E3 := Lib.hid (blk_below E3.out hb)
        replace HB0 := Lib.hid (cbt HB0.out hb)
        have NS := Lib.hid hu
        clear hb hu
        have k_E1_0 := E1.out.cell 0
        have k_E2_0 := E2.out.cell 0
        have k_E3_0 := E3.out.cell 0
        go_wp2_with fail
        refine (HRA.out _ _ _ RX.out RY.out).mono ?_
        rintro e w8 ⟨u2, rfl, hu, hb⟩
        clear k_E1_0 k_E2_0 k_E3_0
        replace Nx := Lib.hid (Nx.out.below hb)
        replace Ny := Lib.hid (Ny.out.below hb)
        replace RX := Lib.hid (RX.out.below hb)
        replace RY := Lib.hid (RY.out.below hb)
        replace ND := Lib.hid (ND.out.below hb)
        replace NS := Lib.hid (NS.out.below hb)
        replace E1 := Lib.hid (blk_below E1.out hb)
        replace E2 := Lib.hid (blk_below E2.out hb)
        replace E3 := Lib.hid (blk_below E3.out hb)
        replace HB0 := Lib.hid (cbt HB0.out hb)
        have RS := Lib.hid hu
        clear hb hu
        have k_E1_0 := E1.out.cell 0
        have k_E2_0 := E2.out.cell 0
        have k_E3_0 := E3.out.cell 0
        go_wp2_with fail
        refine (HIS.out _ _ _ NS.out RS.out).mono ?_
        rintro e w9 ⟨rfl, hb⟩
        clear k_E1_0 k_E2_0 k_E3_0
        replace Nx := Lib.hid (Nx.out.below hb)
        replace Ny := Lib.hid (Ny.out.below hb)
        replace RX := Lib.hid (RX.out.below hb)
        replace RY := Lib.hid (RY.out.below hb)
        replace ND := Lib.hid (ND.out.below hb)
        replace NS := Lib.hid (NS.out.below hb)
        replace RS := Lib.hid (RS.out.below hb)
        replace E1 := Lib.hid (blk_below E1.out hb)
        replace E2 := Lib.hid (blk_below E2.out hb)
        replace E3 := Lib.hid (blk_below E3.out hb)
        replace HB0 := Lib.hid (cbt HB0.out hb)
        clear hb
        have k_E1_0 := E1.out.cell 0
        have k_E2_0 := E2.out.cell 0
        have k_E3_0 := E3.out.cell 0
        go_wp2_with fail
        clear k_E1_0 k_E2_0 k_E3_0
        let FS : List Kept1 := [.eq (.int .i64 0), .eq (.bool true), .eq (.bool true), .n z, .r x, .r y, .r z, .eq (.bool true), .eq (.bool true), .eq (.bool true), .eq (.bool true), .eq (.bool true), .eq (.bool true)]
        refine region_mono (Held w9 (fun j => FS.getD j .any) []) (by kernel_rfl) (by kernel_rfl) (by kernel_rfl) (Held.start _ _ _ (by simp) (by simp)) ?_
        refine Steps.held ?_ ?_
        · intro L v w' hJ
          go_wp2_with fail
          exact ⟨rfl, rfl, hJ.out.same (by rfl) (rfl)⟩
        simp only [Act.put, List.setIfInBounds_toArray, List.set_cons_zero, List.set_cons_succ, Nat.reduceAdd]
        refine Steps.held ?_ ?_
        · intro L v w' hJ
          have hv0 : v 0 = .int .i64 0 := hJ.out.fact 0 (by kernel_rfl)
          simp only [hv0]
          clear hv0
          go_wp2_with fail
          exact ⟨rfl, rfl, hJ.out.same (by rfl) (rfl)⟩
        simp only [Act.put, List.setIfInBounds_toArray, List.set_cons_zero, List.set_cons_succ, Nat.reduceAdd]
        refine Steps.held ?_ ?_
        · intro L v w' hJ
          have hv1 : v 1 = .bool true := hJ.out.fact 1 (by kernel_rfl)
          simp only [hv1]
          clear hv1
          go_wp2_with fail
          exact ⟨rfl, rfl, hJ.out.same (by rfl) (rfl)⟩
        simp only [Act.put, List.setIfInBounds_toArray, List.set_cons_zero, List.set_cons_succ, Nat.reduceAdd]
        refine Steps.held ?_ ?_
        · intro L v w' hJ
          have hv2 : v 2 = .bool true := hJ.out.fact 2 (by kernel_rfl)
          simp only [hv2]
          clear hv2
          have kb := hJ.out.blk E3.out (by simp [oldsOf])
          have k0 := kb.cell 0
          clear kb
          go_wp2_with fail
          exact ⟨rfl, rfl, hJ.out.same (by rfl) (ND.out.keep hJ.out.held.keep)⟩
        simp only [Act.put, List.setIfInBounds_toArray, List.set_cons_zero, List.set_cons_succ, Nat.reduceAdd]
        refine Steps.held ?_ ?_
        · intro L v w' hJ
          have hv2 : v 2 = .bool true := hJ.out.fact 2 (by kernel_rfl)
          simp only [hv2]
          clear hv2
          go_wp2_with fail
          exact ⟨rfl, rfl, hJ.out.same (by rfl) (RX.out.keep hJ.out.held.keep)⟩
        simp only [Act.put, List.setIfInBounds_toArray, List.set_cons_zero, List.set_cons_succ, Nat.reduceAdd]
        refine Steps.held ?_ ?_
        · intro L v w' hJ
          have hv2 : v 2 = .bool true := hJ.out.fact 2 (by kernel_rfl)
          simp only [hv2]
          clear hv2
          go_wp2_with fail
          exact ⟨rfl, rfl, hJ.out.same (by rfl) (RY.out.keep hJ.out.held.keep)⟩
        simp only [Act.put, List.setIfInBounds_toArray, List.set_cons_zero, List.set_cons_succ, Nat.reduceAdd]
        refine Steps.held ?_ ?_
        · intro L v w' hJ
          have hv2 : v 2 = .bool true := hJ.out.fact 2 (by kernel_rfl)
          simp only [hv2]
          clear hv2
          have X0 := Lib.hid (show R256 w' (v 4) x from hJ.out.fact 4 (by kernel_rfl))
          have X1 := Lib.hid (show R256 w' (v 5) y from hJ.out.fact 5 (by kernel_rfl))
          go_wp2_with fail
          refine (HRS.out _ _ _ X0.out X1.out).mono ?_
          rintro e w1 ⟨u, rfl, hu, hb⟩
          go_wp2_with fail
          exact ⟨rfl, rfl, hJ.out.call (by rfl) hb (hu)⟩
        simp only [Act.put, List.setIfInBounds_toArray, List.set_cons_zero, List.set_cons_succ, Nat.reduceAdd]
        refine Steps.held ?_ ?_
        · intro L v w' hJ
          have hv2 : v 2 = .bool true := hJ.out.fact 2 (by kernel_rfl)
          simp only [hv2]
          clear hv2
          have X0 := Lib.hid (show N64 w' (v 3) z from hJ.out.fact 3 (by kernel_rfl))
          have X1 := Lib.hid (show R256 w' (v 6) z from hJ.out.fact 6 (by kernel_rfl))
          go_wp2_with fail
          refine (HIZ.out _ _ _ X0.out X1.out).mono ?_
          rintro e w1 ⟨rfl, hb⟩
          go_wp2_with fail
          exact ⟨rfl, rfl, hJ.out.call (by rfl) hb (rfl)⟩
        simp only [Act.put, List.setIfInBounds_toArray, List.set_cons_zero, List.set_cons_succ, Nat.reduceAdd]
        refine Steps.held ?_ ?_
        · intro L v w' hJ
          have hv2 : v 2 = .bool true := hJ.out.fact 2 (by kernel_rfl)
          simp only [hv2]
          clear hv2
          have hv7 : v 7 = .bool true := hJ.out.fact 7 (by kernel_rfl)
          simp only [hv7]
          clear hv7
          go_wp2_with fail
          exact ⟨rfl, rfl, hJ.out.same (by rfl) (rfl)⟩
        simp only [Act.put, List.setIfInBounds_toArray, List.set_cons_zero, List.set_cons_succ, Nat.reduceAdd]
        refine Steps.held ?_ ?_
        · intro L v w' hJ
          have hv8 : v 8 = .bool true := hJ.out.fact 8 (by kernel_rfl)
          simp only [hv8]
          clear hv8
          go_wp2_with fail
          exact ⟨rfl, rfl, hJ.out.same (by rfl) (rfl)⟩
        simp only [Act.put, List.setIfInBounds_toArray, List.set_cons_zero, List.set_cons_succ, Nat.reduceAdd]
        refine Steps.held ?_ ?_
        · intro L v w' hJ
          have hv9 : v 9 = .bool true := hJ.out.fact 9 (by kernel_rfl)
          simp only [hv9]
          clear hv9
          go_wp2_with fail
          refine (live_any _).mono ?_
          rintro e w1 ⟨rfl, hb⟩
          go_wp2_with fail
          exact ⟨rfl, rfl, hJ.out.call (by rfl) hb (rfl)⟩
        simp only [Act.put, List.setIfInBounds_toArray, List.set_cons_zero, List.set_cons_succ, Nat.reduceAdd]
        refine Steps.held ?_ ?_
        · intro L v w' hJ
          have hv9 : v 9 = .bool true := hJ.out.fact 9 (by kernel_rfl)
          simp only [hv9]
          clear hv9
          have hv10 : v 10 = .bool true := hJ.out.fact 10 (by kernel_rfl)
          simp only [hv10]
          clear hv10
          go_wp2_with fail
          exact ⟨rfl, rfl, hJ.out.same (by rfl) (rfl)⟩
        simp only [Act.put, List.setIfInBounds_toArray, List.set_cons_zero, List.set_cons_succ, Nat.reduceAdd]
        refine Steps.held ?_ ?_
        · intro L v w' hJ
          have hv11 : v 11 = .bool true := hJ.out.fact 11 (by kernel_rfl)
          simp only [hv11]
          clear hv11
          go_wp2_with fail
          exact ⟨rfl, rfl, hJ.out.same (by rfl) (rfl)⟩
        simp only [Act.put, List.setIfInBounds_toArray, List.set_cons_zero, List.set_cons_succ, Nat.reduceAdd]
        refine Steps.nil ?_
        intro v w' hJ
        have h12 : v 12 = .bool true := hJ.end_fact 12 (by decide)
        have HF := Lib.hid (cbt HB0.out hJ.but.below)
        clear hJ
        simp only [h12]
        clear h12
        go_wp2_with fail
        go_ret
        exact ⟨rfl, HF.out⟩
    · have dx : decide (200 < (nx : Int)) = false := decide_eq_false (by omega)
      have dy : decide (200 < (ny : Int)) = true := decide_eq_true (by omega)
      go_enter Try.func12, Try.ntmps12
      go_wp2_with fail
      refine (live_any _).mono ?_
      rintro e w1 ⟨rfl, hb1⟩
      go_wp2_with fail
      go_ret
      exact ⟨rfl, hb1⟩
  · have dx : decide (200 < (nx : Int)) = true := decide_eq_true (by omega)
    go_enter Try.func12, Try.ntmps12
    go_wp2_with fail
    refine (live_any _).mono ?_
    rintro e w1 ⟨rfl, hb1⟩
    go_wp2_with fail
    go_ret
    exact ⟨rfl, hb1⟩
end Go.Proofs.Yteikhnmmkanndaa
