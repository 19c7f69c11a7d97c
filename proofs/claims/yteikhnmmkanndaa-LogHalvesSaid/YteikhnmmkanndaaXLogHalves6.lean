/- Laid together by prune.py out of the texts that the row needs: the declarations that its theorem uses. -/
import Derived.Test.YteikhnmmkanndaaXLogHalves5
import Derived.WalkMore
import Derived.ChangeSlices
import Derived.ChangeSame
import Derived.OpenShut
import Derived.ChangeOld
namespace Go.Proofs.Yteikhnmmkanndaa
open Go.RowKit Go.Proofs.YteikhnmmkanndaaW.PrintWords
set_option linter.unusedSimpArgs false
set_option linter.unusedVariables false
theorem wl_bits {x m : Nat} (h : x < 2 ^ m) : wl 64 x ≤ m := Nat.le_trans (wl_le_bl (by decide) x) ((bl_le x m).2 h)
theorem wl_shl {x m j : Nat} (h : x < 2 ^ m) : wl 64 (x * 2 ^ j) ≤ m + j := wl_bits (by rw [Nat.pow_add]; exact Nat.mul_lt_mul_of_pos_right h (Nat.two_pow_pos j))
set_option maxRecDepth 100000 in
set_option maxHeartbeats 4000000 in
theorem lwhole_any (va : Value) (n d m : Nat) (w : World) (ha : F64 w va n d) (hn0 : 0 < n) (hd0 : 0 < d) (hn : n < 2 ^ m) (hd : d < 2 ^ m) (hm : m ≤ 20000) : Calls Try.prog 39 #[va] w fun x w' => x = .returned (.tuple #[.int .i64 (wholeN n d), .int .i64 0]) ∧ Below w.heap.size w w' := by
  have Ha := Lib.hid ha
  obtain ⟨Pa, pa, ca, Qa, qa, ea, xa, rfl, _, _, _⟩ := ha
  have HZ := Lib.hid (fun v W h => rzero_no v n d W h hn0)
  have HNU := Lib.hid num_any
  have HDE := Lib.hid den_any
  have hbn := (bl_le n m).2 hn
  have hbd := (bl_le d m).2 hd
  have hwn := wl_bits hn
  have hwd := wl_bits hd
  have HBN := Lib.hid (fun v W h => bits_any v n W h (by omega))
  have HBD := Lib.hid (fun v W h => bits_any v d W h (by omega))
  obtain ⟨kk, hkk⟩ : ∃ k : Int, (bl n : Int) - (bl d : Int) = k := ⟨_, rfl⟩
  have HWN : Hid (wholeN n d = if n * 2 ^ (-kk).toNat < d * 2 ^ kk.toNat then kk - 1 else kk) := Lib.hid (by unfold wholeN; rw [hkk])
  have hs1 := wl_shl (j := (-kk).toNat) hn
  have hs2 := wl_shl (j := kk.toNat) hd
  have HU1 := Lib.hid (fun v W h => nup_any v n W h (by omega) (-kk) (by omega))
  have HU2 := Lib.hid (fun v W h => nup_any v d W h (by omega) kk (by omega))
  have HCM := Lib.hid (fun va vb W h1 h2 => ncmp_any va vb (n * 2 ^ (-kk).toNat) (d * 2 ^ kk.toNat) W h1 h2)
  obtain ⟨p, hp⟩ : ∃ p, bl n = p := ⟨_, rfl⟩
  obtain ⟨q, hq⟩ : ∃ p, bl d = p := ⟨_, rfl⟩
  rw [hp] at HBN hbn hkk
  rw [hq] at HBD hbd hkk
  have hk1 : -1000000 ≤ kk := by omega
  have hk2 : kk ≤ 1000000 := by omega
  obtain ⟨N', hN'⟩ : ∃ p, n * 2 ^ (-kk).toNat = p := ⟨_, rfl⟩
  obtain ⟨D', hD'⟩ : ∃ p, d * 2 ^ kk.toNat = p := ⟨_, rfl⟩
  rw [hN'] at HU1 HCM HWN
  rw [hD'] at HU2 HCM HWN
  clear hn0 hd0 hn hd hm hwn hwd hs1 hs2 hp hq hN' hD'
  by_cases hlt : N' < D'
  · have HW2 := Lib.hid (show wholeN n d = kk - 1 by rw [HWN.out, if_pos hlt])
    rw [cmpN_lt hlt] at HCM
    clear hlt HWN
    have e0 := Blk.new (w) 47 #[(.slice Pa pa ca), (.slice Qa qa ea)]
    have hb := cba (Below.refl _ w) (.cells #[(.slice Pa pa ca), (.slice Qa qa ea)] 47)
    have hsz : w.heap.size ≤ w.heap.size := Nat.le_refl _
    go_enter Try.func39, Try.ntmps39
    go_upto_region 1 with (fail)
    obtain ⟨S, hS⟩ : ∃ S, (w).alloc (.cells #[(.slice Pa pa ca), (.slice Qa qa ea)] 47) = S := ⟨_, rfl⟩
    rw [hS] at e0 hb ⊢
    replace Ha := Lib.hid (Ha.out.below hb)
    have HB0 := Lib.hid hb
    have E0 := Lib.hid e0
    clear hS hb hsz e0
    have k_E0_0 := E0.out.cell 0
    have k_E0_1 := E0.out.cell 1
    go_wp2_with fail
    with_reducible refine (HZ.out _ _ Ha.out).mono ?_
    rintro e w1 ⟨rfl, hb⟩
    clear k_E0_0 k_E0_1
    replace Ha := Lib.hid (Ha.out.below hb)
    replace E0 := Lib.hid (blk_below E0.out hb)
    replace HB0 := Lib.hid (cbt HB0.out hb)
    clear hb
    have k_E0_0 := E0.out.cell 0
    have k_E0_1 := E0.out.cell 1
    go_wp2_with fail
    clear k_E0_0 k_E0_1
    let FS : List Kept1 := [.f (n) (d), .n (n), .eq (.int .i64 (p : Int)), .f (n) (d), .n (d), .eq (.int .i64 (q : Int)), .eq (.int .i64 kk), .eq (.int .i64 kk)]
    refine region_mono (Held w1 (fun j => FS.getD j .any) []) (by kernel_rfl) (by kernel_rfl) (by kernel_rfl) (Held.start _ _ _ (by simp) (by simp)) ?_
    refine Steps.held ?_ ?_
    · intro L v w' hJ
      have kb := hJ.out.blk E0.out (by simp [oldsOf])
      have k0 := kb.cell 0
      have k1 := kb.cell 1
      clear kb
      go_wp2_with fail
      exact ⟨rfl, rfl, hJ.out.same (by rfl) (Ha.out.keep hJ.out.held.keep)⟩
    simp only [Act.put, List.setIfInBounds_toArray, List.set_cons_zero, List.set_cons_succ, Nat.reduceAdd]
    refine Steps.held ?_ ?_
    · intro L v w' hJ
      have X0 := Lib.hid (show F64 w' (v 0) (n) (d) from hJ.out.fact 0 (by kernel_rfl))
      go_wp2_with fail
      with_reducible refine (HNU.out _ _ _ _ X0.out).mono ?_
      rintro e w1 ⟨u, rfl, hu, hb⟩
      go_wp2_with fail
      exact ⟨rfl, rfl, hJ.out.call (by rfl) hb (hu)⟩
    simp only [Act.put, List.setIfInBounds_toArray, List.set_cons_zero, List.set_cons_succ, Nat.reduceAdd]
    refine Steps.held ?_ ?_
    · intro L v w' hJ
      have X0 := Lib.hid (show N64 w' (v 1) (n) from hJ.out.fact 1 (by kernel_rfl))
      go_wp2_with fail
      with_reducible refine (HBN.out _ _ X0.out).mono ?_
      rintro e w1 ⟨rfl, hb⟩
      go_wp2_with fail
      exact ⟨rfl, rfl, hJ.out.call (by rfl) hb (rfl)⟩
    simp only [Act.put, List.setIfInBounds_toArray, List.set_cons_zero, List.set_cons_succ, Nat.reduceAdd]
    refine Steps.held ?_ ?_
    · intro L v w' hJ
      have kb := hJ.out.blk E0.out (by simp [oldsOf])
      have k0 := kb.cell 0
      have k1 := kb.cell 1
      clear kb
      go_wp2_with fail
      exact ⟨rfl, rfl, hJ.out.same (by rfl) (Ha.out.keep hJ.out.held.keep)⟩
    simp only [Act.put, List.setIfInBounds_toArray, List.set_cons_zero, List.set_cons_succ, Nat.reduceAdd]
    refine Steps.held ?_ ?_
    · intro L v w' hJ
      have X0 := Lib.hid (show F64 w' (v 3) (n) (d) from hJ.out.fact 3 (by kernel_rfl))
      go_wp2_with fail
      with_reducible refine (HDE.out _ _ _ _ X0.out).mono ?_
      rintro e w1 ⟨u, rfl, hu, hb⟩
      go_wp2_with fail
      exact ⟨rfl, rfl, hJ.out.call (by rfl) hb (hu)⟩
    simp only [Act.put, List.setIfInBounds_toArray, List.set_cons_zero, List.set_cons_succ, Nat.reduceAdd]
    refine Steps.held ?_ ?_
    · intro L v w' hJ
      have X0 := Lib.hid (show N64 w' (v 4) (d) from hJ.out.fact 4 (by kernel_rfl))
      go_wp2_with fail
      with_reducible refine (HBD.out _ _ X0.out).mono ?_
      rintro e w1 ⟨rfl, hb⟩
      go_wp2_with fail
      exact ⟨rfl, rfl, hJ.out.call (by rfl) hb (rfl)⟩
    simp only [Act.put, List.setIfInBounds_toArray, List.set_cons_zero, List.set_cons_succ, Nat.reduceAdd]
    refine Steps.held ?_ ?_
    · intro L v w' hJ
      have hv2 : v 2 = .int .i64 (p : Int) := hJ.out.fact 2 (by kernel_rfl)
      simp only [hv2]
      clear hv2
      have hv5 : v 5 = .int .i64 (q : Int) := hJ.out.fact 5 (by kernel_rfl)
      simp only [hv5]
      clear hv5
      go_wp2_with fail
      exact ⟨rfl, rfl, hJ.out.same (by rfl) (rfl)⟩
    simp only [Act.put, List.setIfInBounds_toArray, List.set_cons_zero, List.set_cons_succ, Nat.reduceAdd]
    refine Steps.held ?_ ?_
    · intro L v w' hJ
      have hv6 : v 6 = .int .i64 kk := hJ.out.fact 6 (by kernel_rfl)
      simp only [hv6]
      clear hv6
      go_wp2_with fail
      exact ⟨rfl, rfl, hJ.out.same (by rfl) (rfl)⟩
    simp only [Act.put, List.setIfInBounds_toArray, List.set_cons_zero, List.set_cons_succ, Nat.reduceAdd]
    refine Steps.nil ?_
    intro v w' hJ
    have h7 : v 7 = .int .i64 kk := hJ.end_fact 7 (by decide)
    simp only [h7]
    clear h7
    have hbr := hJ.but.below
    replace Ha := Lib.hid (Ha.out.below hbr)
    replace E0 := Lib.hid (blk_below E0.out hbr)
    replace HB0 := Lib.hid (cbt HB0.out hbr)
    clear hJ hbr
    clear hkk hbn hbd
    go_wp2_with fail
    let FS : List Kept1 := [.f (n) (d), .n (n), .eq (.int .i64 kk), .eq (.int .i64 (-kk)), .n (N'), .f (n) (d), .n (d), .eq (.int .i64 kk), .n (D'), .eq (.int .i64 (-1)), .eq (.bool true)]
    refine region_mono (Held w' (fun j => FS.getD j .any) []) (by kernel_rfl) (by kernel_rfl) (by kernel_rfl) (Held.start _ _ _ (by simp) (by simp)) ?_
    refine Steps.held ?_ ?_
    · intro L v w' hJ
      have kb := hJ.out.blk E0.out (by simp [oldsOf])
      have k0 := kb.cell 0
      have k1 := kb.cell 1
      clear kb
      go_wp2_with fail
      exact ⟨rfl, rfl, hJ.out.same (by rfl) (Ha.out.keep hJ.out.held.keep)⟩
    simp only [Act.put, List.setIfInBounds_toArray, List.set_cons_zero, List.set_cons_succ, Nat.reduceAdd]
    refine Steps.held ?_ ?_
    · intro L v w' hJ
      have X0 := Lib.hid (show F64 w' (v 0) (n) (d) from hJ.out.fact 0 (by kernel_rfl))
      go_wp2_with fail
      with_reducible refine (HNU.out _ _ _ _ X0.out).mono ?_
      rintro e w1 ⟨u, rfl, hu, hb⟩
      go_wp2_with fail
      exact ⟨rfl, rfl, hJ.out.call (by rfl) hb (hu)⟩
    simp only [Act.put, List.setIfInBounds_toArray, List.set_cons_zero, List.set_cons_succ, Nat.reduceAdd]
    refine Steps.held ?_ ?_
    · intro L v w' hJ
      go_wp2_with fail
      exact ⟨rfl, rfl, hJ.out.same (by rfl) (rfl)⟩
    simp only [Act.put, List.setIfInBounds_toArray, List.set_cons_zero, List.set_cons_succ, Nat.reduceAdd]
    refine Steps.held ?_ ?_
    · intro L v w' hJ
      have hv2 : v 2 = .int .i64 kk := hJ.out.fact 2 (by kernel_rfl)
      simp only [hv2]
      clear hv2
      go_wp2_with fail
      exact ⟨rfl, rfl, hJ.out.same (by rfl) (rfl)⟩
    simp only [Act.put, List.setIfInBounds_toArray, List.set_cons_zero, List.set_cons_succ, Nat.reduceAdd]
    refine Steps.held ?_ ?_
    · intro L v w' hJ
      have hv3 : v 3 = .int .i64 (-kk) := hJ.out.fact 3 (by kernel_rfl)
      simp only [hv3]
      clear hv3
      have X0 := Lib.hid (show N64 w' (v 1) (n) from hJ.out.fact 1 (by kernel_rfl))
      go_wp2_with fail
      with_reducible refine (HU1.out _ _ X0.out).mono ?_
      rintro e w1 ⟨u, rfl, hu, hb⟩
      go_wp2_with fail
      exact ⟨rfl, rfl, hJ.out.call (by rfl) hb (hu)⟩
    simp only [Act.put, List.setIfInBounds_toArray, List.set_cons_zero, List.set_cons_succ, Nat.reduceAdd]
    refine Steps.held ?_ ?_
    · intro L v w' hJ
      have kb := hJ.out.blk E0.out (by simp [oldsOf])
      have k0 := kb.cell 0
      have k1 := kb.cell 1
      clear kb
      go_wp2_with fail
      exact ⟨rfl, rfl, hJ.out.same (by rfl) (Ha.out.keep hJ.out.held.keep)⟩
    simp only [Act.put, List.setIfInBounds_toArray, List.set_cons_zero, List.set_cons_succ, Nat.reduceAdd]
    refine Steps.held ?_ ?_
    · intro L v w' hJ
      have X0 := Lib.hid (show F64 w' (v 5) (n) (d) from hJ.out.fact 5 (by kernel_rfl))
      go_wp2_with fail
      with_reducible refine (HDE.out _ _ _ _ X0.out).mono ?_
      rintro e w1 ⟨u, rfl, hu, hb⟩
      go_wp2_with fail
      exact ⟨rfl, rfl, hJ.out.call (by rfl) hb (hu)⟩
    simp only [Act.put, List.setIfInBounds_toArray, List.set_cons_zero, List.set_cons_succ, Nat.reduceAdd]
    refine Steps.held ?_ ?_
    · intro L v w' hJ
      go_wp2_with fail
      exact ⟨rfl, rfl, hJ.out.same (by rfl) (rfl)⟩
    simp only [Act.put, List.setIfInBounds_toArray, List.set_cons_zero, List.set_cons_succ, Nat.reduceAdd]
    refine Steps.held ?_ ?_
    · intro L v w' hJ
      have hv7 : v 7 = .int .i64 kk := hJ.out.fact 7 (by kernel_rfl)
      simp only [hv7]
      clear hv7
      have X0 := Lib.hid (show N64 w' (v 6) (d) from hJ.out.fact 6 (by kernel_rfl))
      go_wp2_with fail
      with_reducible refine (HU2.out _ _ X0.out).mono ?_
      rintro e w1 ⟨u, rfl, hu, hb⟩
      go_wp2_with fail
      exact ⟨rfl, rfl, hJ.out.call (by rfl) hb (hu)⟩
    simp only [Act.put, List.setIfInBounds_toArray, List.set_cons_zero, List.set_cons_succ, Nat.reduceAdd]
    refine Steps.held ?_ ?_
    · intro L v w' hJ
      have X0 := Lib.hid (show N64 w' (v 4) (N') from hJ.out.fact 4 (by kernel_rfl))
      have X1 := Lib.hid (show N64 w' (v 8) (D') from hJ.out.fact 8 (by kernel_rfl))
      go_wp2_with fail
      with_reducible refine (HCM.out _ _ _ X0.out X1.out).mono ?_
      rintro e w1 ⟨rfl, hb⟩
      go_wp2_with fail
      exact ⟨rfl, rfl, hJ.out.call (by rfl) hb (rfl)⟩
    simp only [Act.put, List.setIfInBounds_toArray, List.set_cons_zero, List.set_cons_succ, Nat.reduceAdd]
    refine Steps.held ?_ ?_
    · intro L v w' hJ
      have hv9 : v 9 = .int .i64 (-1) := hJ.out.fact 9 (by kernel_rfl)
      simp only [hv9]
      clear hv9
      go_wp2_with fail
      exact ⟨rfl, rfl, hJ.out.same (by rfl) (rfl)⟩
    simp only [Act.put, List.setIfInBounds_toArray, List.set_cons_zero, List.set_cons_succ, Nat.reduceAdd]
    refine Steps.nil ?_
    intro v w' hJ
    have h10 : v 10 = .bool true := hJ.end_fact 10 (by decide)
    simp only [h10]
    clear h10
    have hbr := hJ.but.below
    replace Ha := Lib.hid (Ha.out.below hbr)
    replace E0 := Lib.hid (blk_below E0.out hbr)
    replace HB0 := Lib.hid (cbt HB0.out hbr)
    clear hJ hbr
    go_wp2_with fail
    exact bodyPost_ret (v := .tuple #[.int .i64 (kk - 1), .int .i64 0]) (by simp [results, Try.results39, go_sem]) rfl ⟨by rw [HW2.out], HB0.out⟩
  · have HW2 := Lib.hid (show wholeN n d = kk by rw [HWN.out, if_neg hlt])
    have hcc : decide (cmpN N' D' < 0) = false := decide_eq_false (by have := cmpN_ge (x := N') (y := D') (by omega); omega)
    obtain ⟨cc, hce⟩ : ∃ c, cmpN N' D' = c := ⟨_, rfl⟩
    rw [hce] at HCM hcc
    clear hce
    clear hlt HWN
    have e0 := Blk.new (w) 47 #[(.slice Pa pa ca), (.slice Qa qa ea)]
    have hb := cba (Below.refl _ w) (.cells #[(.slice Pa pa ca), (.slice Qa qa ea)] 47)
    have hsz : w.heap.size ≤ w.heap.size := Nat.le_refl _
    go_enter Try.func39, Try.ntmps39
    go_upto_region 1 with (fail)
    obtain ⟨S, hS⟩ : ∃ S, (w).alloc (.cells #[(.slice Pa pa ca), (.slice Qa qa ea)] 47) = S := ⟨_, rfl⟩
    rw [hS] at e0 hb ⊢
    replace Ha := Lib.hid (Ha.out.below hb)
    have HB0 := Lib.hid hb
    have E0 := Lib.hid e0
    clear hS hb hsz e0
    have k_E0_0 := E0.out.cell 0
    have k_E0_1 := E0.out.cell 1
    go_wp2_with fail
    with_reducible refine (HZ.out _ _ Ha.out).mono ?_
    rintro e w1 ⟨rfl, hb⟩
    clear k_E0_0 k_E0_1
    replace Ha := Lib.hid (Ha.out.below hb)
    replace E0 := Lib.hid (blk_below E0.out hb)
    replace HB0 := Lib.hid (cbt HB0.out hb)
    clear hb
    have k_E0_0 := E0.out.cell 0
    have k_E0_1 := E0.out.cell 1
    go_wp2_with fail
    clear k_E0_0 k_E0_1
    let FS : List Kept1 := [.f (n) (d), .n (n), .eq (.int .i64 (p : Int)), .f (n) (d), .n (d), .eq (.int .i64 (q : Int)), .eq (.int .i64 kk), .eq (.int .i64 kk)]
    refine region_mono (Held w1 (fun j => FS.getD j .any) []) (by kernel_rfl) (by kernel_rfl) (by kernel_rfl) (Held.start _ _ _ (by simp) (by simp)) ?_
    refine Steps.held ?_ ?_
    · intro L v w' hJ
      have kb := hJ.out.blk E0.out (by simp [oldsOf])
      have k0 := kb.cell 0
      have k1 := kb.cell 1
      clear kb
      go_wp2_with fail
      exact ⟨rfl, rfl, hJ.out.same (by rfl) (Ha.out.keep hJ.out.held.keep)⟩
    simp only [Act.put, List.setIfInBounds_toArray, List.set_cons_zero, List.set_cons_succ, Nat.reduceAdd]
    refine Steps.held ?_ ?_
    · intro L v w' hJ
      have X0 := Lib.hid (show F64 w' (v 0) (n) (d) from hJ.out.fact 0 (by kernel_rfl))
      go_wp2_with fail
      with_reducible refine (HNU.out _ _ _ _ X0.out).mono ?_
      rintro e w1 ⟨u, rfl, hu, hb⟩
      go_wp2_with fail
      exact ⟨rfl, rfl, hJ.out.call (by rfl) hb (hu)⟩
    simp only [Act.put, List.setIfInBounds_toArray, List.set_cons_zero, List.set_cons_succ, Nat.reduceAdd]
    refine Steps.held ?_ ?_
    · intro L v w' hJ
      have X0 := Lib.hid (show N64 w' (v 1) (n) from hJ.out.fact 1 (by kernel_rfl))
      go_wp2_with fail
      with_reducible refine (HBN.out _ _ X0.out).mono ?_
      rintro e w1 ⟨rfl, hb⟩
      go_wp2_with fail
      exact ⟨rfl, rfl, hJ.out.call (by rfl) hb (rfl)⟩
    simp only [Act.put, List.setIfInBounds_toArray, List.set_cons_zero, List.set_cons_succ, Nat.reduceAdd]
    refine Steps.held ?_ ?_
    · intro L v w' hJ
      have kb := hJ.out.blk E0.out (by simp [oldsOf])
      have k0 := kb.cell 0
      have k1 := kb.cell 1
      clear kb
      go_wp2_with fail
      exact ⟨rfl, rfl, hJ.out.same (by rfl) (Ha.out.keep hJ.out.held.keep)⟩
    simp only [Act.put, List.setIfInBounds_toArray, List.set_cons_zero, List.set_cons_succ, Nat.reduceAdd]
    refine Steps.held ?_ ?_
    · intro L v w' hJ
      have X0 := Lib.hid (show F64 w' (v 3) (n) (d) from hJ.out.fact 3 (by kernel_rfl))
      go_wp2_with fail
      with_reducible refine (HDE.out _ _ _ _ X0.out).mono ?_
      rintro e w1 ⟨u, rfl, hu, hb⟩
      go_wp2_with fail
      exact ⟨rfl, rfl, hJ.out.call (by rfl) hb (hu)⟩
    simp only [Act.put, List.setIfInBounds_toArray, List.set_cons_zero, List.set_cons_succ, Nat.reduceAdd]
    refine Steps.held ?_ ?_
    · intro L v w' hJ
      have X0 := Lib.hid (show N64 w' (v 4) (d) from hJ.out.fact 4 (by kernel_rfl))
      go_wp2_with fail
      with_reducible refine (HBD.out _ _ X0.out).mono ?_
      rintro e w1 ⟨rfl, hb⟩
      go_wp2_with fail
      exact ⟨rfl, rfl, hJ.out.call (by rfl) hb (rfl)⟩
    simp only [Act.put, List.setIfInBounds_toArray, List.set_cons_zero, List.set_cons_succ, Nat.reduceAdd]
    refine Steps.held ?_ ?_
    · intro L v w' hJ
      have hv2 : v 2 = .int .i64 (p : Int) := hJ.out.fact 2 (by kernel_rfl)
      simp only [hv2]
      clear hv2
      have hv5 : v 5 = .int .i64 (q : Int) := hJ.out.fact 5 (by kernel_rfl)
      simp only [hv5]
      clear hv5
      go_wp2_with fail
      exact ⟨rfl, rfl, hJ.out.same (by rfl) (rfl)⟩
    simp only [Act.put, List.setIfInBounds_toArray, List.set_cons_zero, List.set_cons_succ, Nat.reduceAdd]
    refine Steps.held ?_ ?_
    · intro L v w' hJ
      have hv6 : v 6 = .int .i64 kk := hJ.out.fact 6 (by kernel_rfl)
      simp only [hv6]
      clear hv6
      go_wp2_with fail
      exact ⟨rfl, rfl, hJ.out.same (by rfl) (rfl)⟩
    simp only [Act.put, List.setIfInBounds_toArray, List.set_cons_zero, List.set_cons_succ, Nat.reduceAdd]
    refine Steps.nil ?_
    intro v w' hJ
    have h7 : v 7 = .int .i64 kk := hJ.end_fact 7 (by decide)
    simp only [h7]
    clear h7
    have hbr := hJ.but.below
    replace Ha := Lib.hid (Ha.out.below hbr)
    replace E0 := Lib.hid (blk_below E0.out hbr)
    replace HB0 := Lib.hid (cbt HB0.out hbr)
    clear hJ hbr
    clear hkk hbn hbd
    go_wp2_with fail
    let FS : List Kept1 := [.f (n) (d), .n (n), .eq (.int .i64 kk), .eq (.int .i64 (-kk)), .n (N'), .f (n) (d), .n (d), .eq (.int .i64 kk), .n (D'), .eq (.int .i64 (cc)), .eq (.bool false)]
    refine region_mono (Held w' (fun j => FS.getD j .any) []) (by kernel_rfl) (by kernel_rfl) (by kernel_rfl) (Held.start _ _ _ (by simp) (by simp)) ?_
    refine Steps.held ?_ ?_
    · intro L v w' hJ
      have kb := hJ.out.blk E0.out (by simp [oldsOf])
      have k0 := kb.cell 0
      have k1 := kb.cell 1
      clear kb
      go_wp2_with fail
      exact ⟨rfl, rfl, hJ.out.same (by rfl) (Ha.out.keep hJ.out.held.keep)⟩
    simp only [Act.put, List.setIfInBounds_toArray, List.set_cons_zero, List.set_cons_succ, Nat.reduceAdd]
    refine Steps.held ?_ ?_
    · intro L v w' hJ
      have X0 := Lib.hid (show F64 w' (v 0) (n) (d) from hJ.out.fact 0 (by kernel_rfl))
      go_wp2_with fail
      with_reducible refine (HNU.out _ _ _ _ X0.out).mono ?_
      rintro e w1 ⟨u, rfl, hu, hb⟩
      go_wp2_with fail
      exact ⟨rfl, rfl, hJ.out.call (by rfl) hb (hu)⟩
    simp only [Act.put, List.setIfInBounds_toArray, List.set_cons_zero, List.set_cons_succ, Nat.reduceAdd]
    refine Steps.held ?_ ?_
    · intro L v w' hJ
      go_wp2_with fail
      exact ⟨rfl, rfl, hJ.out.same (by rfl) (rfl)⟩
    simp only [Act.put, List.setIfInBounds_toArray, List.set_cons_zero, List.set_cons_succ, Nat.reduceAdd]
    refine Steps.held ?_ ?_
    · intro L v w' hJ
      have hv2 : v 2 = .int .i64 kk := hJ.out.fact 2 (by kernel_rfl)
      simp only [hv2]
      clear hv2
      go_wp2_with fail
      exact ⟨rfl, rfl, hJ.out.same (by rfl) (rfl)⟩
    simp only [Act.put, List.setIfInBounds_toArray, List.set_cons_zero, List.set_cons_succ, Nat.reduceAdd]
    refine Steps.held ?_ ?_
    · intro L v w' hJ
      have hv3 : v 3 = .int .i64 (-kk) := hJ.out.fact 3 (by kernel_rfl)
      simp only [hv3]
      clear hv3
      have X0 := Lib.hid (show N64 w' (v 1) (n) from hJ.out.fact 1 (by kernel_rfl))
      go_wp2_with fail
      with_reducible refine (HU1.out _ _ X0.out).mono ?_
      rintro e w1 ⟨u, rfl, hu, hb⟩
      go_wp2_with fail
      exact ⟨rfl, rfl, hJ.out.call (by rfl) hb (hu)⟩
    simp only [Act.put, List.setIfInBounds_toArray, List.set_cons_zero, List.set_cons_succ, Nat.reduceAdd]
    refine Steps.held ?_ ?_
    · intro L v w' hJ
      have kb := hJ.out.blk E0.out (by simp [oldsOf])
      have k0 := kb.cell 0
      have k1 := kb.cell 1
      clear kb
      go_wp2_with fail
      exact ⟨rfl, rfl, hJ.out.same (by rfl) (Ha.out.keep hJ.out.held.keep)⟩
    simp only [Act.put, List.setIfInBounds_toArray, List.set_cons_zero, List.set_cons_succ, Nat.reduceAdd]
    refine Steps.held ?_ ?_
    · intro L v w' hJ
      have X0 := Lib.hid (show F64 w' (v 5) (n) (d) from hJ.out.fact 5 (by kernel_rfl))
      go_wp2_with fail
      with_reducible refine (HDE.out _ _ _ _ X0.out).mono ?_
      rintro e w1 ⟨u, rfl, hu, hb⟩
      go_wp2_with fail
      exact ⟨rfl, rfl, hJ.out.call (by rfl) hb (hu)⟩
    simp only [Act.put, List.setIfInBounds_toArray, List.set_cons_zero, List.set_cons_succ, Nat.reduceAdd]
    refine Steps.held ?_ ?_
    · intro L v w' hJ
      go_wp2_with fail
      exact ⟨rfl, rfl, hJ.out.same (by rfl) (rfl)⟩
    simp only [Act.put, List.setIfInBounds_toArray, List.set_cons_zero, List.set_cons_succ, Nat.reduceAdd]
    refine Steps.held ?_ ?_
    · intro L v w' hJ
      have hv7 : v 7 = .int .i64 kk := hJ.out.fact 7 (by kernel_rfl)
      simp only [hv7]
      clear hv7
      have X0 := Lib.hid (show N64 w' (v 6) (d) from hJ.out.fact 6 (by kernel_rfl))
      go_wp2_with fail
      with_reducible refine (HU2.out _ _ X0.out).mono ?_
      rintro e w1 ⟨u, rfl, hu, hb⟩
      go_wp2_with fail
      exact ⟨rfl, rfl, hJ.out.call (by rfl) hb (hu)⟩
    simp only [Act.put, List.setIfInBounds_toArray, List.set_cons_zero, List.set_cons_succ, Nat.reduceAdd]
    refine Steps.held ?_ ?_
    · intro L v w' hJ
      have X0 := Lib.hid (show N64 w' (v 4) (N') from hJ.out.fact 4 (by kernel_rfl))
      have X1 := Lib.hid (show N64 w' (v 8) (D') from hJ.out.fact 8 (by kernel_rfl))
      go_wp2_with fail
      with_reducible refine (HCM.out _ _ _ X0.out X1.out).mono ?_
      rintro e w1 ⟨rfl, hb⟩
      go_wp2_with fail
      exact ⟨rfl, rfl, hJ.out.call (by rfl) hb (rfl)⟩
    simp only [Act.put, List.setIfInBounds_toArray, List.set_cons_zero, List.set_cons_succ, Nat.reduceAdd]
    refine Steps.held ?_ ?_
    · intro L v w' hJ
      have hv9 : v 9 = .int .i64 (cc) := hJ.out.fact 9 (by kernel_rfl)
      simp only [hv9]
      clear hv9
      go_wp2_with fail
      exact ⟨rfl, rfl, hJ.out.same (by rfl) (rfl)⟩
    simp only [Act.put, List.setIfInBounds_toArray, List.set_cons_zero, List.set_cons_succ, Nat.reduceAdd]
    refine Steps.nil ?_
    intro v w' hJ
    have h10 : v 10 = .bool false := hJ.end_fact 10 (by decide)
    simp only [h10]
    clear h10
    have hbr := hJ.but.below
    replace Ha := Lib.hid (Ha.out.below hbr)
    replace E0 := Lib.hid (blk_below E0.out hbr)
    replace HB0 := Lib.hid (cbt HB0.out hbr)
    clear hJ hbr
    go_wp2_with fail
    exact bodyPost_ret (v := .tuple #[.int .i64 kk, .int .i64 0]) (by simp [results, Try.results39, go_sem]) rfl ⟨by rw [HW2.out], HB0.out⟩
set_option maxRecDepth 100000 in
set_option maxHeartbeats 4000000 in
theorem lscaled_any (va : Value) (n d m : Nat) (k : Int) (D : Nat) (w : World) (ha : F64 w va n d) (hd0 : 0 < d) (hn : n < 2 ^ m) (hd : d < 2 ^ m) (hm : m ≤ 20000) (hk1 : -20000 ≤ k) (hk2 : k ≤ 20000) (hD : D ≤ 200000000) :
    Calls Try.prog 110 #[va, .int .i64 k, .int .i64 (D : Nat)] w fun x w' => ∃ v, x = .returned (.tuple #[v, .bool (!decide (n * 2 ^ (-k).toNat * 2 ^ D % (d * 2 ^ k.toNat) = 0))]) ∧ N64 w' v (n * 2 ^ (-k).toNat * 2 ^ D / (d * 2 ^ k.toNat)) ∧ Below w.heap.size w w' := by
  have Ha := Lib.hid ha
  obtain ⟨Pa, pa, ca, Qa, qa, ea, xa, rfl, _, _, _⟩ := ha
  have HNU := Lib.hid num_any
  have HDE := Lib.hid den_any
  obtain ⟨j1, hj1⟩ : ∃ j, (-k).toNat + D = j := ⟨_, rfl⟩
  obtain ⟨j2, hj2⟩ : ∃ j, k.toNat = j := ⟨_, rfl⟩
  obtain ⟨kmn, hmn⟩ : ∃ j, min k 0 = j := ⟨_, rfl⟩
  have hmx : max k 0 = (j2 : Int) := by omega
  have hsub : (D : Int) - kmn = (j1 : Int) := by omega
  have hb1 : -20000 ≤ kmn := by omega
  have hb2 : kmn ≤ 0 := by omega
  have hP : n * 2 ^ (-k).toNat * 2 ^ D = n * 2 ^ j1 := by rw [Nat.mul_assoc, ← Nat.pow_add, hj1]
  rw [hP, hj2]
  have hs1 := wl_shl (j := j1) hn
  have hs2 := wl_shl (j := j2) hd
  have hwn := wl_bits hn
  have hwd := wl_bits hd
  have HU1 := Lib.hid (fun v W h => nup_any v n W h (by omega) (j1 : Int) (by omega))
  have HU2 := Lib.hid (fun v W h => nup_any v d W h (by omega) (j2 : Int) (by omega))
  rw [Int.toNat_natCast] at HU1 HU2
  have hq0 : 0 < d * 2 ^ j2 := Nat.mul_pos hd0 (Nat.two_pow_pos _)
  have HDV := Lib.hid (fun va vb W h1 h2 => ndiv_any va vb (n * 2 ^ j1) (d * 2 ^ j2) W h1 h2 (by omega) hq0)
  obtain ⟨X, hX⟩ : ∃ p, n * 2 ^ j1 = p := ⟨_, rfl⟩
  obtain ⟨Y, hY⟩ : ∃ p, d * 2 ^ j2 = p := ⟨_, rfl⟩
  rw [hX] at HU1 HDV ⊢
  rw [hY] at HU2 HDV ⊢
  obtain ⟨q, hq⟩ : ∃ p, X / Y = p := ⟨_, rfl⟩
  obtain ⟨r, hr⟩ : ∃ p, X % Y = p := ⟨_, rfl⟩
  rw [hq, hr] at HDV ⊢
  clear hP hs1 hs2 hwn hwd hq0 hX hY hq hr hn hd hm hd0 hj2
  by_cases hr0 : r = 0
  · have HZ := Lib.hid (fun v W h => zero_eq v r W h hr0)
    rw [decide_eq_true hr0]
    clear hr0
    have e0 := (Blk.new (w) 47 #[(.slice Pa pa ca), (.slice Qa qa ea)]).alloc (.cells #[(.slice none 0 0)] 26)
    have e1 := Blk.new ((w).alloc (.cells #[(.slice Pa pa ca), (.slice Qa qa ea)] 47)) 26 #[(.slice none 0 0)]
    have hb := cba (cba (Below.refl _ w) (.cells #[(.slice Pa pa ca), (.slice Qa qa ea)] 47)) (.cells #[(.slice none 0 0)] 26)
    simp only [World.size_alloc] at e1
    have hsz : w.heap.size ≤ w.heap.size := Nat.le_refl _
    go_enter Try.func110, Try.ntmps110
    go_upto_region 1 with (fail)
    obtain ⟨S, hS⟩ : ∃ S, ((w).alloc (.cells #[(.slice Pa pa ca), (.slice Qa qa ea)] 47)).alloc (.cells #[(.slice none 0 0)] 26) = S := ⟨_, rfl⟩
    rw [hS] at e0 e1 hb ⊢
    replace Ha := Lib.hid (Ha.out.below hb)
    have HB0 := Lib.hid hb
    have E0 := Lib.hid e0
    have E1 := Lib.hid e1
    clear hS hb hsz e0 e1
    go_wp2_with fail
    let FS : List Kept1 := [.f (n) (d), .n (n), .eq (.int .i64 (D : Int)), .eq (.int .i64 k), .eq (.int .i64 kmn), .eq (.int .i64 (j1 : Int)), .n (X), .f (n) (d), .n (d), .eq (.int .i64 k), .eq (.int .i64 (j2 : Int)), .n (Y), .three (.n (q)) (.n (r)) (.eq (.int .i64 0)), .three (.n (q)) (.n (r)) (.eq (.int .i64 0)), .n (q), .n (r), .eq (.int .i64 0), .any, .any, .any, .any, .eq (.int .i64 0)]
    let BS : List Bx := [Bx.nat (.inl 17) 19 #[.slice none 0 0] (q), Bx.nat (.inl 18) 20 #[.slice none 0 0] (r)]
    refine region_mono (Held S (fun j => FS.getD j .any) BS) (by kernel_rfl) (by kernel_rfl) (by kernel_rfl) (Held.start _ _ _ (by simp [BS, Bx.nat, Bx.rat, Bx.ref]) (by simp [BS, Bx.nat, Bx.rat, Bx.ref])) ?_
    refine Steps.held ?_ ?_
    · intro L v w' hJ
      have kb := hJ.out.blk E0.out (by simp [oldsOf, BS, Bx.nat, Bx.rat, Bx.ref])
      have k0 := kb.cell 0
      have k1 := kb.cell 1
      clear kb
      go_wp2_with fail
      exact ⟨rfl, rfl, hJ.out.same (by rfl) (Ha.out.keep hJ.out.held.keep)⟩
    simp only [Act.put, List.setIfInBounds_toArray, List.set_cons_zero, List.set_cons_succ, Nat.reduceAdd]
    refine Steps.held ?_ ?_
    · intro L v w' hJ
      have X0 := Lib.hid (show F64 w' (v 0) (n) (d) from hJ.out.fact 0 (by kernel_rfl))
      go_wp2_with fail
      with_reducible refine (HNU.out _ _ _ _ X0.out).mono ?_
      rintro e w1 ⟨u, rfl, hu, hb⟩
      go_wp2_with fail
      exact ⟨rfl, rfl, hJ.out.call (by rfl) hb (hu)⟩
    simp only [Act.put, List.setIfInBounds_toArray, List.set_cons_zero, List.set_cons_succ, Nat.reduceAdd]
    refine Steps.held ?_ ?_
    · intro L v w' hJ
      go_wp2_with fail
      exact ⟨rfl, rfl, hJ.out.same (by rfl) (rfl)⟩
    simp only [Act.put, List.setIfInBounds_toArray, List.set_cons_zero, List.set_cons_succ, Nat.reduceAdd]
    refine Steps.held ?_ ?_
    · intro L v w' hJ
      go_wp2_with fail
      exact ⟨rfl, rfl, hJ.out.same (by rfl) (rfl)⟩
    simp only [Act.put, List.setIfInBounds_toArray, List.set_cons_zero, List.set_cons_succ, Nat.reduceAdd]
    refine Steps.held ?_ ?_
    · intro L v w' hJ
      have hv3 : v 3 = .int .i64 k := hJ.out.fact 3 (by kernel_rfl)
      simp only [hv3]
      clear hv3
      go_wp2_with fail
      exact ⟨rfl, rfl, hJ.out.same (by rfl) (rfl)⟩
    simp only [Act.put, List.setIfInBounds_toArray, List.set_cons_zero, List.set_cons_succ, Nat.reduceAdd]
    refine Steps.held ?_ ?_
    · intro L v w' hJ
      have hv2 : v 2 = .int .i64 (D : Int) := hJ.out.fact 2 (by kernel_rfl)
      simp only [hv2]
      clear hv2
      have hv4 : v 4 = .int .i64 kmn := hJ.out.fact 4 (by kernel_rfl)
      simp only [hv4]
      clear hv4
      go_wp2_with fail
      exact ⟨rfl, rfl, hJ.out.same (by rfl) (rfl)⟩
    simp only [Act.put, List.setIfInBounds_toArray, List.set_cons_zero, List.set_cons_succ, Nat.reduceAdd]
    refine Steps.held ?_ ?_
    · intro L v w' hJ
      have hv5 : v 5 = .int .i64 (j1 : Int) := hJ.out.fact 5 (by kernel_rfl)
      simp only [hv5]
      clear hv5
      have X0 := Lib.hid (show N64 w' (v 1) (n) from hJ.out.fact 1 (by kernel_rfl))
      go_wp2_with fail
      with_reducible refine (HU1.out _ _ X0.out).mono ?_
      rintro e w1 ⟨u, rfl, hu, hb⟩
      go_wp2_with fail
      exact ⟨rfl, rfl, hJ.out.call (by rfl) hb (hu)⟩
    simp only [Act.put, List.setIfInBounds_toArray, List.set_cons_zero, List.set_cons_succ, Nat.reduceAdd]
    refine Steps.held ?_ ?_
    · intro L v w' hJ
      have kb := hJ.out.blk E0.out (by simp [oldsOf, BS, Bx.nat, Bx.rat, Bx.ref])
      have k0 := kb.cell 0
      have k1 := kb.cell 1
      clear kb
      go_wp2_with fail
      exact ⟨rfl, rfl, hJ.out.same (by rfl) (Ha.out.keep hJ.out.held.keep)⟩
    simp only [Act.put, List.setIfInBounds_toArray, List.set_cons_zero, List.set_cons_succ, Nat.reduceAdd]
    refine Steps.held ?_ ?_
    · intro L v w' hJ
      have X0 := Lib.hid (show F64 w' (v 7) (n) (d) from hJ.out.fact 7 (by kernel_rfl))
      go_wp2_with fail
      with_reducible refine (HDE.out _ _ _ _ X0.out).mono ?_
      rintro e w1 ⟨u, rfl, hu, hb⟩
      go_wp2_with fail
      exact ⟨rfl, rfl, hJ.out.call (by rfl) hb (hu)⟩
    simp only [Act.put, List.setIfInBounds_toArray, List.set_cons_zero, List.set_cons_succ, Nat.reduceAdd]
    refine Steps.held ?_ ?_
    · intro L v w' hJ
      go_wp2_with fail
      exact ⟨rfl, rfl, hJ.out.same (by rfl) (rfl)⟩
    simp only [Act.put, List.setIfInBounds_toArray, List.set_cons_zero, List.set_cons_succ, Nat.reduceAdd]
    refine Steps.held ?_ ?_
    · intro L v w' hJ
      have hv9 : v 9 = .int .i64 k := hJ.out.fact 9 (by kernel_rfl)
      simp only [hv9]
      clear hv9
      go_wp2_with fail
      exact ⟨rfl, rfl, hJ.out.same (by rfl) (rfl)⟩
    simp only [Act.put, List.setIfInBounds_toArray, List.set_cons_zero, List.set_cons_succ, Nat.reduceAdd]
    refine Steps.held ?_ ?_
    · intro L v w' hJ
      have hv10 : v 10 = .int .i64 (j2 : Int) := hJ.out.fact 10 (by kernel_rfl)
      simp only [hv10]
      clear hv10
      have X0 := Lib.hid (show N64 w' (v 8) (d) from hJ.out.fact 8 (by kernel_rfl))
      go_wp2_with fail
      with_reducible refine (HU2.out _ _ X0.out).mono ?_
      rintro e w1 ⟨u, rfl, hu, hb⟩
      go_wp2_with fail
      exact ⟨rfl, rfl, hJ.out.call (by rfl) hb (hu)⟩
    simp only [Act.put, List.setIfInBounds_toArray, List.set_cons_zero, List.set_cons_succ, Nat.reduceAdd]
    refine Steps.held ?_ ?_
    · intro L v w' hJ
      have X0 := Lib.hid (show N64 w' (v 6) (X) from hJ.out.fact 6 (by kernel_rfl))
      have X1 := Lib.hid (show N64 w' (v 11) (Y) from hJ.out.fact 11 (by kernel_rfl))
      go_wp2_with fail
      with_reducible refine (HDV.out _ _ _ X0.out X1.out).mono ?_
      rintro e w1 ⟨q, r, rfl, hq, hr, hb⟩
      go_wp2_with fail
      exact ⟨rfl, rfl, hJ.out.call (by rfl) hb (⟨_, _, _, rfl, hq, hr, rfl⟩)⟩
    simp only [Act.put, List.setIfInBounds_toArray, List.set_cons_zero, List.set_cons_succ, Nat.reduceAdd]
    refine Steps.held ?_ ?_
    · intro L v w' hJ
      go_wp2_with fail
      exact ⟨rfl, rfl, hJ.out.same (by rfl) (hJ.out.fact 12 (by kernel_rfl))⟩
    simp only [Act.put, List.setIfInBounds_toArray, List.set_cons_zero, List.set_cons_succ, Nat.reduceAdd]
    refine Steps.held ?_ ?_
    · intro L v w' hJ
      obtain ⟨x0, x1, x2, hv, h0, h1, h2⟩ := hJ.out.fact 13 (by kernel_rfl)
      simp only [hv]
      clear hv
      go_wp2_with fail
      exact ⟨rfl, rfl, hJ.out.same (by rfl) (h0)⟩
    simp only [Act.put, List.setIfInBounds_toArray, List.set_cons_zero, List.set_cons_succ, Nat.reduceAdd]
    refine Steps.held ?_ ?_
    · intro L v w' hJ
      obtain ⟨x0, x1, x2, hv, h0, h1, h2⟩ := hJ.out.fact 13 (by kernel_rfl)
      simp only [hv]
      clear hv
      go_wp2_with fail
      exact ⟨rfl, rfl, hJ.out.same (by rfl) (h1)⟩
    simp only [Act.put, List.setIfInBounds_toArray, List.set_cons_zero, List.set_cons_succ, Nat.reduceAdd]
    refine Steps.held ?_ ?_
    · intro L v w' hJ
      obtain ⟨x0, x1, x2, hv, h0, h1, h2⟩ := hJ.out.fact 13 (by kernel_rfl)
      simp only [hv]
      clear hv
      go_wp2_with fail
      exact ⟨rfl, rfl, hJ.out.same (by rfl) (h2)⟩
    simp only [Act.put, List.setIfInBounds_toArray, List.set_cons_zero, List.set_cons_succ, Nat.reduceAdd]
    refine Steps.held ?_ ?_
    · intro L v w' hJ
      go_wp2_with fail
      exact ⟨rfl, rfl, hJ.out.made 0 _ rfl rfl (by rfl) trivial⟩
    simp only [Act.put, List.setIfInBounds_toArray, List.set_cons_zero, List.set_cons_succ, Nat.reduceAdd]
    refine Steps.held ?_ ?_
    · intro L v w' hJ
      go_wp2_with fail
      exact ⟨rfl, rfl, hJ.out.made 1 _ rfl rfl (by rfl) trivial⟩
    simp only [Act.put, List.setIfInBounds_toArray, List.set_cons_zero, List.set_cons_succ, Nat.reduceAdd]
    refine Steps.held ?_ ?_
    · intro L v w' hJ
      obtain ⟨g, hg, hge, hown, hst⟩ := hJ.out.newbox 0 _ rfl 17 rfl (by kernel_rfl)
      have hN : N64 w' (v 14) (q) := hJ.out.fact 14 (by kernel_rfl)
      obtain ⟨P, c, hv, h1, h2, h3⟩ := hN
      have HN := Lib.hid (show N64 w' (.agg #[.slice P (wl 64 (q)) c]) (q) from ⟨P, c, rfl, h1, h2, h3⟩)
      have kb := hJ.out.box 0 _ rfl rfl g hown
      have k0 : w'.cell? ⟨g, 0, none⟩ = some (.slice none 0 0) := kb.cell 0
      have f0 := kb.frozen 0
      have HO := Lib.hid hown
      have HS := Lib.hid hst
      clear kb h1 h2 h3 hown hst
      simp only [hg, hv]
      clear hg hv
      go_wp2_with fail
      exact ⟨rfl, rfl, hJ.out.fill1 0 _ rfl rfl (by rfl) g HO.out HS.out _ rfl rfl (fun W k => ⟨P, c, rfl, HN.out.keep k⟩) (fun _ => trivial)⟩
    simp only [Act.put, List.setIfInBounds_toArray, List.set_cons_zero, List.set_cons_succ, Nat.reduceAdd]
    refine Steps.held ?_ ?_
    · intro L v w' hJ
      obtain ⟨g, hg, hge, hown, hst⟩ := hJ.out.newbox 1 _ rfl 18 rfl (by kernel_rfl)
      have hN : N64 w' (v 15) (r) := hJ.out.fact 15 (by kernel_rfl)
      obtain ⟨P, c, hv, h1, h2, h3⟩ := hN
      have HN := Lib.hid (show N64 w' (.agg #[.slice P (wl 64 (r)) c]) (r) from ⟨P, c, rfl, h1, h2, h3⟩)
      have kb := hJ.out.box 1 _ rfl rfl g hown
      have k0 : w'.cell? ⟨g, 0, none⟩ = some (.slice none 0 0) := kb.cell 0
      have f0 := kb.frozen 0
      have HO := Lib.hid hown
      have HS := Lib.hid hst
      clear kb h1 h2 h3 hown hst
      simp only [hg, hv]
      clear hg hv
      go_wp2_with fail
      exact ⟨rfl, rfl, hJ.out.fill1 1 _ rfl rfl (by rfl) g HO.out HS.out _ rfl rfl (fun W k => ⟨P, c, rfl, HN.out.keep k⟩) (fun _ => trivial)⟩
    simp only [Act.put, List.setIfInBounds_toArray, List.set_cons_zero, List.set_cons_succ, Nat.reduceAdd]
    refine Steps.held ?_ ?_
    · intro L v w' hJ
      have hv16 : v 16 = .int .i64 0 := hJ.out.fact 16 (by kernel_rfl)
      simp only [hv16]
      clear hv16
      go_wp2_with fail
      exact ⟨rfl, rfl, hJ.out.same (by rfl) (rfl)⟩
    simp only [Act.put, List.setIfInBounds_toArray, List.set_cons_zero, List.set_cons_succ, Nat.reduceAdd]
    refine Steps.nil ?_
    intro v w' hJ
    obtain ⟨g8, cs17, hv17, hge17, hb17, A17, c17, rfl, hn17⟩ := hJ.end_new 0 _ rfl 17 rfl (by decide) (Nat.le_of_ble_eq_true rfl)
    simp only [hv17]
    have E8 := Lib.hid (show Blk _ _ 26 _ from hb17)
    have NE8 := Lib.hid hn17
    clear hv17 hb17 hn17
    obtain ⟨g9, cs18, hv18, hge18, hb18, A18, c18, rfl, hn18⟩ := hJ.end_new 1 _ rfl 18 rfl (by decide) (Nat.le_of_ble_eq_true rfl)
    simp only [hv18]
    have E9 := Lib.hid (show Blk _ _ 26 _ from hb18)
    have NE9 := Lib.hid hn18
    clear hv18 hb18 hn18
    have h21 : v 21 = .int .i64 0 := hJ.end_fact 21 (by decide)
    simp only [h21]
    clear h21
    have hlt1 := E1.out.lt
    have hbr := hJ.but.below
    replace Ha := Lib.hid (Ha.out.below hbr)
    replace E0 := Lib.hid (blk_below E0.out hbr)
    replace E1 := Lib.hid (blk_below E1.out hbr)
    replace HB0 := Lib.hid (cbt HB0.out hbr)
    clear hJ hbr
    clear hmn hmx hsub hb1 hb2 hk1 hk2 hD hj1
    go_wp2_with fail
    let FS : List Kept1 := [.n (q), .n (r), .eq (.bool true), .eq (.bool false), .any, .eq (.bool false)]
    let BS : List Bx := [Bx.nat (.inr (w.heap.size + 1)) 4 #[(.slice none 0 0)] (q)]
    refine region_mono (Held w' (fun j => FS.getD j .any) BS) (by kernel_rfl) (by kernel_rfl) (by kernel_rfl) (Held.start _ _ _ (by simp [BS, Bx.nat, Bx.rat, Bx.ref] <;> exact E1.out) (by simp [BS, Bx.nat, Bx.rat, Bx.ref])) ?_
    refine Steps.held ?_ ?_
    · intro L v w' hJ
      have kb := hJ.out.blk E8.out (by simp [oldsOf, BS, Bx.nat, Bx.rat, Bx.ref] <;> omega)
      have k0 := kb.cell 0
      clear kb
      go_wp2_with fail
      exact ⟨rfl, rfl, hJ.out.same (by rfl) (NE8.out.keep hJ.out.held.keep)⟩
    simp only [Act.put, List.setIfInBounds_toArray, List.set_cons_zero, List.set_cons_succ, Nat.reduceAdd]
    refine Steps.held ?_ ?_
    · intro L v w' hJ
      have kb := hJ.out.blk E9.out (by simp [oldsOf, BS, Bx.nat, Bx.rat, Bx.ref] <;> omega)
      have k0 := kb.cell 0
      clear kb
      go_wp2_with fail
      exact ⟨rfl, rfl, hJ.out.same (by rfl) (NE9.out.keep hJ.out.held.keep)⟩
    simp only [Act.put, List.setIfInBounds_toArray, List.set_cons_zero, List.set_cons_succ, Nat.reduceAdd]
    refine Steps.held ?_ ?_
    · intro L v w' hJ
      have X0 := Lib.hid (show N64 w' (v 1) (r) from hJ.out.fact 1 (by kernel_rfl))
      go_wp2_with fail
      with_reducible refine (HZ.out _ _ X0.out).mono ?_
      rintro e w1 ⟨rfl, hb⟩
      go_wp2_with fail
      exact ⟨rfl, rfl, hJ.out.call (by rfl) hb (rfl)⟩
    simp only [Act.put, List.setIfInBounds_toArray, List.set_cons_zero, List.set_cons_succ, Nat.reduceAdd]
    refine Steps.held ?_ ?_
    · intro L v w' hJ
      have hv2 : v 2 = .bool true := hJ.out.fact 2 (by kernel_rfl)
      simp only [hv2]
      clear hv2
      go_wp2_with fail
      exact ⟨rfl, rfl, hJ.out.same (by rfl) (rfl)⟩
    simp only [Act.put, List.setIfInBounds_toArray, List.set_cons_zero, List.set_cons_succ, Nat.reduceAdd]
    refine Steps.held ?_ ?_
    · intro L v w' hJ
      obtain ⟨hown, hst⟩ := hJ.out.oldbox 0 _ rfl (w.heap.size + 1) rfl
      have hN : N64 w' (v 0) (q) := hJ.out.fact 0 (by kernel_rfl)
      obtain ⟨P, c, hv, h1, h2, h3⟩ := hN
      have HN := Lib.hid (show N64 w' (.agg #[.slice P (wl 64 (q)) c]) (q) from ⟨P, c, rfl, h1, h2, h3⟩)
      have kb := hJ.out.box 0 _ rfl rfl (w.heap.size + 1) hown
      have k0 : w'.cell? ⟨(w.heap.size + 1), 0, none⟩ = some ((.slice none 0 0)) := kb.cell 0
      have f0 := kb.frozen 0
      have HO := Lib.hid hown
      have HS := Lib.hid hst
      clear kb h1 h2 h3 hown hst
      simp only [hv]
      clear hv
      go_wp2_with fail
      exact ⟨rfl, rfl, hJ.out.fill1 0 _ rfl rfl (by rfl) (w.heap.size + 1) HO.out HS.out _ rfl rfl (fun W k => ⟨P, c, rfl, HN.out.keep k⟩) (fun _ => trivial)⟩
    simp only [Act.put, List.setIfInBounds_toArray, List.set_cons_zero, List.set_cons_succ, Nat.reduceAdd]
    refine Steps.held ?_ ?_
    · intro L v w' hJ
      have hv3 : v 3 = .bool false := hJ.out.fact 3 (by kernel_rfl)
      simp only [hv3]
      clear hv3
      go_wp2_with fail
      exact ⟨rfl, rfl, hJ.out.same (by rfl) (rfl)⟩
    simp only [Act.put, List.setIfInBounds_toArray, List.set_cons_zero, List.set_cons_succ, Nat.reduceAdd]
    refine Steps.nil ?_
    intro v w' hJ
    obtain ⟨cs, hblk, hf⟩ := hJ.end_old 0 _ rfl (w.heap.size + 1) rfl (Nat.le_of_ble_eq_true rfl)
    obtain ⟨A1, c1, rfl, hN⟩ := hf
    have k0 := hblk.cell 0
    have h5 : v 5 = .bool false := hJ.end_fact 5 (by decide)
    simp only [h5]
    have hbw : Below w.heap.size w w' := hJ.but.to_below HB0.out HB0.out.size (by intro g hg; simp [oldsOf, BS, Bx.nat, Bx.rat, Bx.ref] at hg; subst hg; omega)
    have HX := Lib.hid (show ∃ v, Ending.returned (.tuple #[.agg #[.slice A1 (wl 64 q) c1], .bool false]) = .returned (.tuple #[v, .bool (!true)]) ∧ N64 w' v q ∧ Below w.heap.size w w' from ⟨_, rfl, hN, hbw⟩)
    clear hJ hbw hblk h5 hN
    go_wp2_with fail
    exact bodyPost_ret (v := .tuple #[.agg #[.slice A1 (wl 64 q) c1], .bool false]) (by simp [results, Try.results110, go_sem, k0]) rfl HX.out
  · have HZ := Lib.hid (fun v W h => zero_no v r W h (Nat.pos_of_ne_zero hr0))
    rw [decide_eq_false hr0]
    clear hr0
    have e0 := (Blk.new (w) 47 #[(.slice Pa pa ca), (.slice Qa qa ea)]).alloc (.cells #[(.slice none 0 0)] 26)
    have e1 := Blk.new ((w).alloc (.cells #[(.slice Pa pa ca), (.slice Qa qa ea)] 47)) 26 #[(.slice none 0 0)]
    have hb := cba (cba (Below.refl _ w) (.cells #[(.slice Pa pa ca), (.slice Qa qa ea)] 47)) (.cells #[(.slice none 0 0)] 26)
    simp only [World.size_alloc] at e1
    have hsz : w.heap.size ≤ w.heap.size := Nat.le_refl _
    go_enter Try.func110, Try.ntmps110
    go_upto_region 1 with (fail)
    obtain ⟨S, hS⟩ : ∃ S, ((w).alloc (.cells #[(.slice Pa pa ca), (.slice Qa qa ea)] 47)).alloc (.cells #[(.slice none 0 0)] 26) = S := ⟨_, rfl⟩
    rw [hS] at e0 e1 hb ⊢
    replace Ha := Lib.hid (Ha.out.below hb)
    have HB0 := Lib.hid hb
    have E0 := Lib.hid e0
    have E1 := Lib.hid e1
    clear hS hb hsz e0 e1
    go_wp2_with fail
    let FS : List Kept1 := [.f (n) (d), .n (n), .eq (.int .i64 (D : Int)), .eq (.int .i64 k), .eq (.int .i64 kmn), .eq (.int .i64 (j1 : Int)), .n (X), .f (n) (d), .n (d), .eq (.int .i64 k), .eq (.int .i64 (j2 : Int)), .n (Y), .three (.n (q)) (.n (r)) (.eq (.int .i64 0)), .three (.n (q)) (.n (r)) (.eq (.int .i64 0)), .n (q), .n (r), .eq (.int .i64 0), .any, .any, .any, .any, .eq (.int .i64 0)]
    let BS : List Bx := [Bx.nat (.inl 17) 19 #[.slice none 0 0] (q), Bx.nat (.inl 18) 20 #[.slice none 0 0] (r)]
    refine region_mono (Held S (fun j => FS.getD j .any) BS) (by kernel_rfl) (by kernel_rfl) (by kernel_rfl) (Held.start _ _ _ (by simp [BS, Bx.nat, Bx.rat, Bx.ref]) (by simp [BS, Bx.nat, Bx.rat, Bx.ref])) ?_
    refine Steps.held ?_ ?_
    · intro L v w' hJ
      have kb := hJ.out.blk E0.out (by simp [oldsOf, BS, Bx.nat, Bx.rat, Bx.ref])
      have k0 := kb.cell 0
      have k1 := kb.cell 1
      clear kb
      go_wp2_with fail
      exact ⟨rfl, rfl, hJ.out.same (by rfl) (Ha.out.keep hJ.out.held.keep)⟩
    simp only [Act.put, List.setIfInBounds_toArray, List.set_cons_zero, List.set_cons_succ, Nat.reduceAdd]
    refine Steps.held ?_ ?_
    · intro L v w' hJ
      have X0 := Lib.hid (show F64 w' (v 0) (n) (d) from hJ.out.fact 0 (by kernel_rfl))
      go_wp2_with fail
      with_reducible refine (HNU.out _ _ _ _ X0.out).mono ?_
      rintro e w1 ⟨u, rfl, hu, hb⟩
      go_wp2_with fail
      exact ⟨rfl, rfl, hJ.out.call (by rfl) hb (hu)⟩
    simp only [Act.put, List.setIfInBounds_toArray, List.set_cons_zero, List.set_cons_succ, Nat.reduceAdd]
    refine Steps.held ?_ ?_
    · intro L v w' hJ
      go_wp2_with fail
      exact ⟨rfl, rfl, hJ.out.same (by rfl) (rfl)⟩
    simp only [Act.put, List.setIfInBounds_toArray, List.set_cons_zero, List.set_cons_succ, Nat.reduceAdd]
    refine Steps.held ?_ ?_
    · intro L v w' hJ
      go_wp2_with fail
      exact ⟨rfl, rfl, hJ.out.same (by rfl) (rfl)⟩
    simp only [Act.put, List.setIfInBounds_toArray, List.set_cons_zero, List.set_cons_succ, Nat.reduceAdd]
    refine Steps.held ?_ ?_
    · intro L v w' hJ
      have hv3 : v 3 = .int .i64 k := hJ.out.fact 3 (by kernel_rfl)
      simp only [hv3]
      clear hv3
      go_wp2_with fail
      exact ⟨rfl, rfl, hJ.out.same (by rfl) (rfl)⟩
    simp only [Act.put, List.setIfInBounds_toArray, List.set_cons_zero, List.set_cons_succ, Nat.reduceAdd]
    refine Steps.held ?_ ?_
    · intro L v w' hJ
      have hv2 : v 2 = .int .i64 (D : Int) := hJ.out.fact 2 (by kernel_rfl)
      simp only [hv2]
      clear hv2
      have hv4 : v 4 = .int .i64 kmn := hJ.out.fact 4 (by kernel_rfl)
      simp only [hv4]
      clear hv4
      go_wp2_with fail
      exact ⟨rfl, rfl, hJ.out.same (by rfl) (rfl)⟩
    simp only [Act.put, List.setIfInBounds_toArray, List.set_cons_zero, List.set_cons_succ, Nat.reduceAdd]
    refine Steps.held ?_ ?_
    · intro L v w' hJ
      have hv5 : v 5 = .int .i64 (j1 : Int) := hJ.out.fact 5 (by kernel_rfl)
      simp only [hv5]
      clear hv5
      have X0 := Lib.hid (show N64 w' (v 1) (n) from hJ.out.fact 1 (by kernel_rfl))
      go_wp2_with fail
      with_reducible refine (HU1.out _ _ X0.out).mono ?_
      rintro e w1 ⟨u, rfl, hu, hb⟩
      go_wp2_with fail
      exact ⟨rfl, rfl, hJ.out.call (by rfl) hb (hu)⟩
    simp only [Act.put, List.setIfInBounds_toArray, List.set_cons_zero, List.set_cons_succ, Nat.reduceAdd]
    refine Steps.held ?_ ?_
    · intro L v w' hJ
      have kb := hJ.out.blk E0.out (by simp [oldsOf, BS, Bx.nat, Bx.rat, Bx.ref])
      have k0 := kb.cell 0
      have k1 := kb.cell 1
      clear kb
      go_wp2_with fail
      exact ⟨rfl, rfl, hJ.out.same (by rfl) (Ha.out.keep hJ.out.held.keep)⟩
    simp only [Act.put, List.setIfInBounds_toArray, List.set_cons_zero, List.set_cons_succ, Nat.reduceAdd]
    refine Steps.held ?_ ?_
    · intro L v w' hJ
      have X0 := Lib.hid (show F64 w' (v 7) (n) (d) from hJ.out.fact 7 (by kernel_rfl))
      go_wp2_with fail
      with_reducible refine (HDE.out _ _ _ _ X0.out).mono ?_
      rintro e w1 ⟨u, rfl, hu, hb⟩
      go_wp2_with fail
      exact ⟨rfl, rfl, hJ.out.call (by rfl) hb (hu)⟩
    simp only [Act.put, List.setIfInBounds_toArray, List.set_cons_zero, List.set_cons_succ, Nat.reduceAdd]
    refine Steps.held ?_ ?_
    · intro L v w' hJ
      go_wp2_with fail
      exact ⟨rfl, rfl, hJ.out.same (by rfl) (rfl)⟩
    simp only [Act.put, List.setIfInBounds_toArray, List.set_cons_zero, List.set_cons_succ, Nat.reduceAdd]
    refine Steps.held ?_ ?_
    · intro L v w' hJ
      have hv9 : v 9 = .int .i64 k := hJ.out.fact 9 (by kernel_rfl)
      simp only [hv9]
      clear hv9
      go_wp2_with fail
      exact ⟨rfl, rfl, hJ.out.same (by rfl) (rfl)⟩
    simp only [Act.put, List.setIfInBounds_toArray, List.set_cons_zero, List.set_cons_succ, Nat.reduceAdd]
    refine Steps.held ?_ ?_
    · intro L v w' hJ
      have hv10 : v 10 = .int .i64 (j2 : Int) := hJ.out.fact 10 (by kernel_rfl)
      simp only [hv10]
      clear hv10
      have X0 := Lib.hid (show N64 w' (v 8) (d) from hJ.out.fact 8 (by kernel_rfl))
      go_wp2_with fail
      with_reducible refine (HU2.out _ _ X0.out).mono ?_
      rintro e w1 ⟨u, rfl, hu, hb⟩
      go_wp2_with fail
      exact ⟨rfl, rfl, hJ.out.call (by rfl) hb (hu)⟩
    simp only [Act.put, List.setIfInBounds_toArray, List.set_cons_zero, List.set_cons_succ, Nat.reduceAdd]
    refine Steps.held ?_ ?_
    · intro L v w' hJ
      have X0 := Lib.hid (show N64 w' (v 6) (X) from hJ.out.fact 6 (by kernel_rfl))
      have X1 := Lib.hid (show N64 w' (v 11) (Y) from hJ.out.fact 11 (by kernel_rfl))
      go_wp2_with fail
      with_reducible refine (HDV.out _ _ _ X0.out X1.out).mono ?_
      rintro e w1 ⟨q, r, rfl, hq, hr, hb⟩
      go_wp2_with fail
      exact ⟨rfl, rfl, hJ.out.call (by rfl) hb (⟨_, _, _, rfl, hq, hr, rfl⟩)⟩
    simp only [Act.put, List.setIfInBounds_toArray, List.set_cons_zero, List.set_cons_succ, Nat.reduceAdd]
    refine Steps.held ?_ ?_
    · intro L v w' hJ
      go_wp2_with fail
      exact ⟨rfl, rfl, hJ.out.same (by rfl) (hJ.out.fact 12 (by kernel_rfl))⟩
    simp only [Act.put, List.setIfInBounds_toArray, List.set_cons_zero, List.set_cons_succ, Nat.reduceAdd]
    refine Steps.held ?_ ?_
    · intro L v w' hJ
      obtain ⟨x0, x1, x2, hv, h0, h1, h2⟩ := hJ.out.fact 13 (by kernel_rfl)
      simp only [hv]
      clear hv
      go_wp2_with fail
      exact ⟨rfl, rfl, hJ.out.same (by rfl) (h0)⟩
    simp only [Act.put, List.setIfInBounds_toArray, List.set_cons_zero, List.set_cons_succ, Nat.reduceAdd]
    refine Steps.held ?_ ?_
    · intro L v w' hJ
      obtain ⟨x0, x1, x2, hv, h0, h1, h2⟩ := hJ.out.fact 13 (by kernel_rfl)
      simp only [hv]
      clear hv
      go_wp2_with fail
      exact ⟨rfl, rfl, hJ.out.same (by rfl) (h1)⟩
    simp only [Act.put, List.setIfInBounds_toArray, List.set_cons_zero, List.set_cons_succ, Nat.reduceAdd]
    refine Steps.held ?_ ?_
    · intro L v w' hJ
      obtain ⟨x0, x1, x2, hv, h0, h1, h2⟩ := hJ.out.fact 13 (by kernel_rfl)
      simp only [hv]
      clear hv
      go_wp2_with fail
      exact ⟨rfl, rfl, hJ.out.same (by rfl) (h2)⟩
    simp only [Act.put, List.setIfInBounds_toArray, List.set_cons_zero, List.set_cons_succ, Nat.reduceAdd]
    refine Steps.held ?_ ?_
    · intro L v w' hJ
      go_wp2_with fail
      exact ⟨rfl, rfl, hJ.out.made 0 _ rfl rfl (by rfl) trivial⟩
    simp only [Act.put, List.setIfInBounds_toArray, List.set_cons_zero, List.set_cons_succ, Nat.reduceAdd]
    refine Steps.held ?_ ?_
    · intro L v w' hJ
      go_wp2_with fail
      exact ⟨rfl, rfl, hJ.out.made 1 _ rfl rfl (by rfl) trivial⟩
    simp only [Act.put, List.setIfInBounds_toArray, List.set_cons_zero, List.set_cons_succ, Nat.reduceAdd]
    refine Steps.held ?_ ?_
    · intro L v w' hJ
      obtain ⟨g, hg, hge, hown, hst⟩ := hJ.out.newbox 0 _ rfl 17 rfl (by kernel_rfl)
      have hN : N64 w' (v 14) (q) := hJ.out.fact 14 (by kernel_rfl)
      obtain ⟨P, c, hv, h1, h2, h3⟩ := hN
      have HN := Lib.hid (show N64 w' (.agg #[.slice P (wl 64 (q)) c]) (q) from ⟨P, c, rfl, h1, h2, h3⟩)
      have kb := hJ.out.box 0 _ rfl rfl g hown
      have k0 : w'.cell? ⟨g, 0, none⟩ = some (.slice none 0 0) := kb.cell 0
      have f0 := kb.frozen 0
      have HO := Lib.hid hown
      have HS := Lib.hid hst
      clear kb h1 h2 h3 hown hst
      simp only [hg, hv]
      clear hg hv
      go_wp2_with fail
      exact ⟨rfl, rfl, hJ.out.fill1 0 _ rfl rfl (by rfl) g HO.out HS.out _ rfl rfl (fun W k => ⟨P, c, rfl, HN.out.keep k⟩) (fun _ => trivial)⟩
    simp only [Act.put, List.setIfInBounds_toArray, List.set_cons_zero, List.set_cons_succ, Nat.reduceAdd]
    refine Steps.held ?_ ?_
    · intro L v w' hJ
      obtain ⟨g, hg, hge, hown, hst⟩ := hJ.out.newbox 1 _ rfl 18 rfl (by kernel_rfl)
      have hN : N64 w' (v 15) (r) := hJ.out.fact 15 (by kernel_rfl)
      obtain ⟨P, c, hv, h1, h2, h3⟩ := hN
      have HN := Lib.hid (show N64 w' (.agg #[.slice P (wl 64 (r)) c]) (r) from ⟨P, c, rfl, h1, h2, h3⟩)
      have kb := hJ.out.box 1 _ rfl rfl g hown
      have k0 : w'.cell? ⟨g, 0, none⟩ = some (.slice none 0 0) := kb.cell 0
      have f0 := kb.frozen 0
      have HO := Lib.hid hown
      have HS := Lib.hid hst
      clear kb h1 h2 h3 hown hst
      simp only [hg, hv]
      clear hg hv
      go_wp2_with fail
      exact ⟨rfl, rfl, hJ.out.fill1 1 _ rfl rfl (by rfl) g HO.out HS.out _ rfl rfl (fun W k => ⟨P, c, rfl, HN.out.keep k⟩) (fun _ => trivial)⟩
    simp only [Act.put, List.setIfInBounds_toArray, List.set_cons_zero, List.set_cons_succ, Nat.reduceAdd]
    refine Steps.held ?_ ?_
    · intro L v w' hJ
      have hv16 : v 16 = .int .i64 0 := hJ.out.fact 16 (by kernel_rfl)
      simp only [hv16]
      clear hv16
      go_wp2_with fail
      exact ⟨rfl, rfl, hJ.out.same (by rfl) (rfl)⟩
    simp only [Act.put, List.setIfInBounds_toArray, List.set_cons_zero, List.set_cons_succ, Nat.reduceAdd]
    refine Steps.nil ?_
    intro v w' hJ
    obtain ⟨g8, cs17, hv17, hge17, hb17, A17, c17, rfl, hn17⟩ := hJ.end_new 0 _ rfl 17 rfl (by decide) (Nat.le_of_ble_eq_true rfl)
    simp only [hv17]
    have E8 := Lib.hid (show Blk _ _ 26 _ from hb17)
    have NE8 := Lib.hid hn17
    clear hv17 hb17 hn17
    obtain ⟨g9, cs18, hv18, hge18, hb18, A18, c18, rfl, hn18⟩ := hJ.end_new 1 _ rfl 18 rfl (by decide) (Nat.le_of_ble_eq_true rfl)
    simp only [hv18]
    have E9 := Lib.hid (show Blk _ _ 26 _ from hb18)
    have NE9 := Lib.hid hn18
    clear hv18 hb18 hn18
    have h21 : v 21 = .int .i64 0 := hJ.end_fact 21 (by decide)
    simp only [h21]
    clear h21
    have hlt1 := E1.out.lt
    have hbr := hJ.but.below
    replace Ha := Lib.hid (Ha.out.below hbr)
    replace E0 := Lib.hid (blk_below E0.out hbr)
    replace E1 := Lib.hid (blk_below E1.out hbr)
    replace HB0 := Lib.hid (cbt HB0.out hbr)
    clear hJ hbr
    clear hmn hmx hsub hb1 hb2 hk1 hk2 hD hj1
    go_wp2_with fail
    let FS : List Kept1 := [.n (q), .n (r), .eq (.bool false), .eq (.bool true), .any, .eq (.bool true)]
    let BS : List Bx := [Bx.nat (.inr (w.heap.size + 1)) 4 #[(.slice none 0 0)] (q)]
    refine region_mono (Held w' (fun j => FS.getD j .any) BS) (by kernel_rfl) (by kernel_rfl) (by kernel_rfl) (Held.start _ _ _ (by simp [BS, Bx.nat, Bx.rat, Bx.ref] <;> exact E1.out) (by simp [BS, Bx.nat, Bx.rat, Bx.ref])) ?_
    refine Steps.held ?_ ?_
    · intro L v w' hJ
      have kb := hJ.out.blk E8.out (by simp [oldsOf, BS, Bx.nat, Bx.rat, Bx.ref] <;> omega)
      have k0 := kb.cell 0
      clear kb
      go_wp2_with fail
      exact ⟨rfl, rfl, hJ.out.same (by rfl) (NE8.out.keep hJ.out.held.keep)⟩
    simp only [Act.put, List.setIfInBounds_toArray, List.set_cons_zero, List.set_cons_succ, Nat.reduceAdd]
    refine Steps.held ?_ ?_
    · intro L v w' hJ
      have kb := hJ.out.blk E9.out (by simp [oldsOf, BS, Bx.nat, Bx.rat, Bx.ref] <;> omega)
      have k0 := kb.cell 0
      clear kb
      go_wp2_with fail
      exact ⟨rfl, rfl, hJ.out.same (by rfl) (NE9.out.keep hJ.out.held.keep)⟩
    simp only [Act.put, List.setIfInBounds_toArray, List.set_cons_zero, List.set_cons_succ, Nat.reduceAdd]
    refine Steps.held ?_ ?_
    · intro L v w' hJ
      have X0 := Lib.hid (show N64 w' (v 1) (r) from hJ.out.fact 1 (by kernel_rfl))
      go_wp2_with fail
      with_reducible refine (HZ.out _ _ X0.out).mono ?_
      rintro e w1 ⟨rfl, hb⟩
      go_wp2_with fail
      exact ⟨rfl, rfl, hJ.out.call (by rfl) hb (rfl)⟩
    simp only [Act.put, List.setIfInBounds_toArray, List.set_cons_zero, List.set_cons_succ, Nat.reduceAdd]
    refine Steps.held ?_ ?_
    · intro L v w' hJ
      have hv2 : v 2 = .bool false := hJ.out.fact 2 (by kernel_rfl)
      simp only [hv2]
      clear hv2
      go_wp2_with fail
      exact ⟨rfl, rfl, hJ.out.same (by rfl) (rfl)⟩
    simp only [Act.put, List.setIfInBounds_toArray, List.set_cons_zero, List.set_cons_succ, Nat.reduceAdd]
    refine Steps.held ?_ ?_
    · intro L v w' hJ
      obtain ⟨hown, hst⟩ := hJ.out.oldbox 0 _ rfl (w.heap.size + 1) rfl
      have hN : N64 w' (v 0) (q) := hJ.out.fact 0 (by kernel_rfl)
      obtain ⟨P, c, hv, h1, h2, h3⟩ := hN
      have HN := Lib.hid (show N64 w' (.agg #[.slice P (wl 64 (q)) c]) (q) from ⟨P, c, rfl, h1, h2, h3⟩)
      have kb := hJ.out.box 0 _ rfl rfl (w.heap.size + 1) hown
      have k0 : w'.cell? ⟨(w.heap.size + 1), 0, none⟩ = some ((.slice none 0 0)) := kb.cell 0
      have f0 := kb.frozen 0
      have HO := Lib.hid hown
      have HS := Lib.hid hst
      clear kb h1 h2 h3 hown hst
      simp only [hv]
      clear hv
      go_wp2_with fail
      exact ⟨rfl, rfl, hJ.out.fill1 0 _ rfl rfl (by rfl) (w.heap.size + 1) HO.out HS.out _ rfl rfl (fun W k => ⟨P, c, rfl, HN.out.keep k⟩) (fun _ => trivial)⟩
    simp only [Act.put, List.setIfInBounds_toArray, List.set_cons_zero, List.set_cons_succ, Nat.reduceAdd]
    refine Steps.held ?_ ?_
    · intro L v w' hJ
      have hv3 : v 3 = .bool true := hJ.out.fact 3 (by kernel_rfl)
      simp only [hv3]
      clear hv3
      go_wp2_with fail
      exact ⟨rfl, rfl, hJ.out.same (by rfl) (rfl)⟩
    simp only [Act.put, List.setIfInBounds_toArray, List.set_cons_zero, List.set_cons_succ, Nat.reduceAdd]
    refine Steps.nil ?_
    intro v w' hJ
    obtain ⟨cs, hblk, hf⟩ := hJ.end_old 0 _ rfl (w.heap.size + 1) rfl (Nat.le_of_ble_eq_true rfl)
    obtain ⟨A1, c1, rfl, hN⟩ := hf
    have k0 := hblk.cell 0
    have h5 : v 5 = .bool true := hJ.end_fact 5 (by decide)
    simp only [h5]
    have hbw : Below w.heap.size w w' := hJ.but.to_below HB0.out HB0.out.size (by intro g hg; simp [oldsOf, BS, Bx.nat, Bx.rat, Bx.ref] at hg; subst hg; omega)
    have HX := Lib.hid (show ∃ v, Ending.returned (.tuple #[.agg #[.slice A1 (wl 64 q) c1], .bool true]) = .returned (.tuple #[v, .bool (!false)]) ∧ N64 w' v q ∧ Below w.heap.size w w' from ⟨_, rfl, hN, hbw⟩)
    clear hJ hbw hblk h5 hN
    go_wp2_with fail
    exact bodyPost_ret (v := .tuple #[.agg #[.slice A1 (wl 64 q) c1], .bool true]) (by simp [results, Try.results110, go_sem, k0]) rfl HX.out
set_option maxRecDepth 100000 in
set_option maxHeartbeats 4000000 in
theorem lhalf_any (va : Value) (a j : Nat) (w : World) (ha : N64 w va a) (hwa : wl 64 a ≤ 500000000) (hj : j ≤ 300000000) : Calls Try.prog 111 #[va, .int .i64 (j : Nat)] w (Mk64 w (ceilD a j)) := by
  have HA := Lib.hid ha
  obtain ⟨A, ca, rfl, _, _, _⟩ := ha
  have HDN := Lib.hid (fun v W h => ndown_any v a W h (by omega) (j : Int) (by omega))
  rw [Int.toNat_natCast] at HDN
  have hqw : wl 64 (a / 2 ^ j) ≤ 500000000 := wl_div_le (by decide) hwa
  have hle := Nat.div_mul_le_self a (2 ^ j)
  have hqw2 : wl 64 (a / 2 ^ j * 2 ^ j) ≤ 500000000 := Nat.le_trans (wl_mono (by decide) hle) hwa
  have HUP := Lib.hid (fun v W h => nup_any v (a / 2 ^ j) W h (by omega) (j : Int) (by omega))
  rw [Int.toNat_natCast] at HUP
  have HCM := Lib.hid (fun va vb W h1 h2 => ncmp_any va vb (a / 2 ^ j * 2 ^ j) a W h1 h2)
  have w1l : wl 64 1 ≤ 1 := w64_lit (by decide)
  have HAD := Lib.hid (fun va vb W h1 h2 => nadd_any va vb (a / 2 ^ j) 1 W h1 h2 (by omega) (by omega))
  have HON : Hid (∀ W, Calls Try.prog 50 #[.int .u64 1] W (fun e w' => ∃ v, e = .returned v ∧ N64 w' v 1 ∧ Below W.heap.size W w')) := Lib.hid (fun W => of_any 1 (by decide) W)
  have HCE : Hid (ceilD a j = if a / 2 ^ j * 2 ^ j < a then a / 2 ^ j + 1 else a / 2 ^ j) := Lib.hid rfl
  obtain ⟨q, hq⟩ : ∃ q, a / 2 ^ j = q := ⟨_, rfl⟩
  rw [hq] at HDN HUP HCM HAD HCE
  obtain ⟨u, hu0⟩ : ∃ u, q * 2 ^ j = u := ⟨_, rfl⟩
  rw [hu0] at HUP HCM HCE
  clear hwa hqw hle hqw2 w1l hq hu0
  by_cases hlt : u < a
  · have HC2 := Lib.hid (show ceilD a j = q + 1 by rw [HCE.out, if_pos hlt])
    rw [HC2.out]
    rw [cmpN_lt hlt] at HCM
    clear hlt HCE HC2
    have e0 := (Blk.new (w) 26 #[(.slice A (wl 64 a) ca)]).alloc (.cells #[(.slice none 0 0)] 26)
    have e1 := Blk.new ((w).alloc (.cells #[(.slice A (wl 64 a) ca)] 26)) 26 #[(.slice none 0 0)]
    have hb := cba (cba (Below.refl _ w) (.cells #[(.slice A (wl 64 a) ca)] 26)) (.cells #[(.slice none 0 0)] 26)
    simp only [World.size_alloc] at e1
    have hsz : w.heap.size ≤ w.heap.size := Nat.le_refl _
    go_enter Try.func111, Try.ntmps111
    go_upto_region 1 with (fail)
    obtain ⟨S, hS⟩ : ∃ S, ((w).alloc (.cells #[(.slice A (wl 64 a) ca)] 26)).alloc (.cells #[(.slice none 0 0)] 26) = S := ⟨_, rfl⟩
    rw [hS] at e0 e1 hb ⊢
    replace HA := Lib.hid (HA.out.below hb)
    have HB0 := Lib.hid hb
    have E0 := Lib.hid e0
    have E1 := Lib.hid e1
    clear hS hb hsz e0 e1
    have k_E0_0 := E0.out.cell 0
    have k_E1_0 := E1.out.cell 0
    go_wp2_with fail
    with_reducible refine (HDN.out _ _ HA.out).mono ?_
    rintro e w1 ⟨u5, rfl, hu, hb⟩
    clear k_E0_0 k_E1_0
    replace HA := Lib.hid (HA.out.below hb)
    replace E0 := Lib.hid (blk_below E0.out hb)
    replace E1 := Lib.hid (blk_below E1.out hb)
    replace HB0 := Lib.hid (cbt HB0.out hb)
    have NQ := Lib.hid hu
    clear hb hu
    have k_E0_0 := E0.out.cell 0
    have k_E1_0 := E1.out.cell 0
    have hlt1 := E1.out.lt
    have Z0 := NQ.out
    obtain ⟨PT0, cpT0, rfl, _, _, _⟩ := Z0
    have e5 := Blk.new w1 26 #[.slice PT0 (wl 64 (q)) cpT0]
    have hb := cba (Below.refl _ w1) (.cells #[.slice PT0 (wl 64 (q)) cpT0] 26)
    go_upto_region 2 with (fail)
    obtain ⟨T, hS⟩ : ∃ S, (w1.alloc (.cells #[.slice PT0 (wl 64 (q)) cpT0] 26)) = S := ⟨_, rfl⟩
    rw [hS] at e5 hb ⊢
    obtain ⟨g5, hg⟩ : ∃ g, w1.heap.size = g := ⟨_, rfl⟩
    rw [hg] at e5 hlt1
    simp only [hg]
    replace HA := Lib.hid (HA.out.below hb)
    replace NQ := Lib.hid (NQ.out.below hb)
    replace E0 := Lib.hid (blk_below E0.out hb)
    replace E1 := Lib.hid (blk_below E1.out hb)
    replace HB0 := Lib.hid (cbt HB0.out hb)
    have E5 := Lib.hid e5
    clear hS hg hb e5 k_E0_0 k_E1_0
    let FS : List Kept1 := [.n (q), .eq (.int .i64 (j : Int)), .n (u), .n (a), .eq (.int .i64 (-1)), .eq (.bool true)]
    refine region_mono (Held T (fun j => FS.getD j .any) []) (by kernel_rfl) (by kernel_rfl) (by kernel_rfl) (Held.start _ _ _ (by simp) (by simp)) ?_
    refine Steps.held ?_ ?_
    · intro L v w' hJ
      have kb := hJ.out.blk E5.out (by simp [oldsOf])
      have k0 := kb.cell 0
      clear kb
      go_wp2_with fail
      exact ⟨rfl, rfl, hJ.out.same (by rfl) (NQ.out.keep hJ.out.held.keep)⟩
    simp only [Act.put, List.setIfInBounds_toArray, List.set_cons_zero, List.set_cons_succ, Nat.reduceAdd]
    refine Steps.held ?_ ?_
    · intro L v w' hJ
      go_wp2_with fail
      exact ⟨rfl, rfl, hJ.out.same (by rfl) (rfl)⟩
    simp only [Act.put, List.setIfInBounds_toArray, List.set_cons_zero, List.set_cons_succ, Nat.reduceAdd]
    refine Steps.held ?_ ?_
    · intro L v w' hJ
      have hv1 : v 1 = .int .i64 (j : Int) := hJ.out.fact 1 (by kernel_rfl)
      simp only [hv1]
      clear hv1
      have X0 := Lib.hid (show N64 w' (v 0) (q) from hJ.out.fact 0 (by kernel_rfl))
      go_wp2_with fail
      with_reducible refine (HUP.out _ _ X0.out).mono ?_
      rintro e w1 ⟨u, rfl, hu, hb⟩
      go_wp2_with fail
      exact ⟨rfl, rfl, hJ.out.call (by rfl) hb (hu)⟩
    simp only [Act.put, List.setIfInBounds_toArray, List.set_cons_zero, List.set_cons_succ, Nat.reduceAdd]
    refine Steps.held ?_ ?_
    · intro L v w' hJ
      have kb := hJ.out.blk E0.out (by simp [oldsOf])
      have k0 := kb.cell 0
      clear kb
      go_wp2_with fail
      exact ⟨rfl, rfl, hJ.out.same (by rfl) (HA.out.keep hJ.out.held.keep)⟩
    simp only [Act.put, List.setIfInBounds_toArray, List.set_cons_zero, List.set_cons_succ, Nat.reduceAdd]
    refine Steps.held ?_ ?_
    · intro L v w' hJ
      have X0 := Lib.hid (show N64 w' (v 2) (u) from hJ.out.fact 2 (by kernel_rfl))
      have X1 := Lib.hid (show N64 w' (v 3) (a) from hJ.out.fact 3 (by kernel_rfl))
      go_wp2_with fail
      with_reducible refine (HCM.out _ _ _ X0.out X1.out).mono ?_
      rintro e w1 ⟨rfl, hb⟩
      go_wp2_with fail
      exact ⟨rfl, rfl, hJ.out.call (by rfl) hb (rfl)⟩
    simp only [Act.put, List.setIfInBounds_toArray, List.set_cons_zero, List.set_cons_succ, Nat.reduceAdd]
    refine Steps.held ?_ ?_
    · intro L v w' hJ
      have hv4 : v 4 = .int .i64 (-1) := hJ.out.fact 4 (by kernel_rfl)
      simp only [hv4]
      clear hv4
      go_wp2_with fail
      exact ⟨rfl, rfl, hJ.out.same (by rfl) (rfl)⟩
    simp only [Act.put, List.setIfInBounds_toArray, List.set_cons_zero, List.set_cons_succ, Nat.reduceAdd]
    refine Steps.nil ?_
    intro v w' hJ
    have h5 : v 5 = .bool true := hJ.end_fact 5 (by decide)
    simp only [h5]
    clear h5
    have hbr := hJ.but.below
    replace NQ := Lib.hid (NQ.out.below hbr)
    replace E1 := Lib.hid (blk_below E1.out hbr)
    replace E5 := Lib.hid (blk_below E5.out hbr)
    replace HB0 := Lib.hid (cbt HB0.out hbr)
    clear hJ hbr
    go_wp2_with fail
    let FS : List Kept1 := [.n (q), .n (1), .n (q + 1), .any]
    let BS : List Bx := [Bx.nat (.inr (w.heap.size + 1)) 3 #[(.slice none 0 0)] (q + 1)]
    refine region_mono (Held w' (fun j => FS.getD j .any) BS) (by kernel_rfl) (by kernel_rfl) (by kernel_rfl) (Held.start _ _ _ (by simp [BS, Bx.nat, Bx.rat, Bx.ref] <;> exact E1.out) (by simp [BS, Bx.nat, Bx.rat, Bx.ref])) ?_
    refine Steps.held ?_ ?_
    · intro L v w' hJ
      have kb := hJ.out.blk E5.out (by simp [oldsOf, BS, Bx.nat, Bx.rat, Bx.ref] <;> omega)
      have k0 := kb.cell 0
      clear kb
      go_wp2_with fail
      exact ⟨rfl, rfl, hJ.out.same (by rfl) (NQ.out.keep hJ.out.held.keep)⟩
    simp only [Act.put, List.setIfInBounds_toArray, List.set_cons_zero, List.set_cons_succ, Nat.reduceAdd]
    refine Steps.held ?_ ?_
    · intro L v w' hJ
      go_wp2_with fail
      with_reducible refine (HON.out _).mono ?_
      rintro e w1 ⟨u, rfl, hu, hb⟩
      go_wp2_with fail
      exact ⟨rfl, rfl, hJ.out.call (by rfl) hb (hu)⟩
    simp only [Act.put, List.setIfInBounds_toArray, List.set_cons_zero, List.set_cons_succ, Nat.reduceAdd]
    refine Steps.held ?_ ?_
    · intro L v w' hJ
      have X0 := Lib.hid (show N64 w' (v 0) (q) from hJ.out.fact 0 (by kernel_rfl))
      have X1 := Lib.hid (show N64 w' (v 1) (1) from hJ.out.fact 1 (by kernel_rfl))
      go_wp2_with fail
      with_reducible refine (HAD.out _ _ _ X0.out X1.out).mono ?_
      rintro e w1 ⟨u, rfl, hu, hb⟩
      go_wp2_with fail
      exact ⟨rfl, rfl, hJ.out.call (by rfl) hb (hu)⟩
    simp only [Act.put, List.setIfInBounds_toArray, List.set_cons_zero, List.set_cons_succ, Nat.reduceAdd]
    refine Steps.held ?_ ?_
    · intro L v w' hJ
      obtain ⟨hown, hst⟩ := hJ.out.oldbox 0 _ rfl (w.heap.size + 1) rfl
      have hN : N64 w' (v 2) (q + 1) := hJ.out.fact 2 (by kernel_rfl)
      obtain ⟨P, c, hv, h1, h2, h3⟩ := hN
      have HN := Lib.hid (show N64 w' (.agg #[.slice P (wl 64 (q + 1)) c]) (q + 1) from ⟨P, c, rfl, h1, h2, h3⟩)
      have kb := hJ.out.box 0 _ rfl rfl (w.heap.size + 1) hown
      have k0 : w'.cell? ⟨(w.heap.size + 1), 0, none⟩ = some ((.slice none 0 0)) := kb.cell 0
      have f0 := kb.frozen 0
      have HO := Lib.hid hown
      have HS := Lib.hid hst
      clear kb h1 h2 h3 hown hst
      simp only [hv]
      clear hv
      go_wp2_with fail
      exact ⟨rfl, rfl, hJ.out.fill1 0 _ rfl rfl (by rfl) (w.heap.size + 1) HO.out HS.out _ rfl rfl (fun W k => ⟨P, c, rfl, HN.out.keep k⟩) (fun _ => trivial)⟩
    simp only [Act.put, List.setIfInBounds_toArray, List.set_cons_zero, List.set_cons_succ, Nat.reduceAdd]
    refine Steps.nil ?_
    intro v w' hJ
    obtain ⟨cs, hblk, hf⟩ := hJ.end_old 0 _ rfl (w.heap.size + 1) rfl (Nat.le_of_ble_eq_true rfl)
    obtain ⟨A1, c1, rfl, hN⟩ := hf
    have k0 := hblk.cell 0
    have hbw : Below w.heap.size w w' := hJ.but.to_below HB0.out HB0.out.size (by intro g hg; simp [oldsOf, BS, Bx.nat, Bx.rat, Bx.ref] at hg; subst hg; omega)
    have HX := Lib.hid (show Mk64 w (q + 1) (.returned (.agg #[.slice A1 (wl 64 (q + 1)) c1])) w' from ⟨_, rfl, hN, hbw⟩)
    clear hJ hbw hblk hN
    go_wp2_with fail
    exact bodyPost_ret (v := .agg #[.slice A1 (wl 64 (q + 1)) c1]) (by simp [results, Try.results111, go_sem, k0]) rfl HX.out
  · have HC2 := Lib.hid (show ceilD a j = q by rw [HCE.out, if_neg hlt])
    rw [HC2.out]
    have hcc : decide (cmpN u a < 0) = false := decide_eq_false (by have := cmpN_ge (x := u) (y := a) (by omega); omega)
    obtain ⟨cc, hce⟩ : ∃ c, cmpN u a = c := ⟨_, rfl⟩
    rw [hce] at HCM hcc
    clear hce
    clear hlt HCE HC2
    have e0 := (Blk.new (w) 26 #[(.slice A (wl 64 a) ca)]).alloc (.cells #[(.slice none 0 0)] 26)
    have e1 := Blk.new ((w).alloc (.cells #[(.slice A (wl 64 a) ca)] 26)) 26 #[(.slice none 0 0)]
    have hb := cba (cba (Below.refl _ w) (.cells #[(.slice A (wl 64 a) ca)] 26)) (.cells #[(.slice none 0 0)] 26)
    simp only [World.size_alloc] at e1
    have hsz : w.heap.size ≤ w.heap.size := Nat.le_refl _
    go_enter Try.func111, Try.ntmps111
    go_upto_region 1 with (fail)
    obtain ⟨S, hS⟩ : ∃ S, ((w).alloc (.cells #[(.slice A (wl 64 a) ca)] 26)).alloc (.cells #[(.slice none 0 0)] 26) = S := ⟨_, rfl⟩
    rw [hS] at e0 e1 hb ⊢
    replace HA := Lib.hid (HA.out.below hb)
    have HB0 := Lib.hid hb
    have E0 := Lib.hid e0
    have E1 := Lib.hid e1
    clear hS hb hsz e0 e1
    have k_E0_0 := E0.out.cell 0
    have k_E1_0 := E1.out.cell 0
    go_wp2_with fail
    with_reducible refine (HDN.out _ _ HA.out).mono ?_
    rintro e w1 ⟨u5, rfl, hu, hb⟩
    clear k_E0_0 k_E1_0
    replace HA := Lib.hid (HA.out.below hb)
    replace E0 := Lib.hid (blk_below E0.out hb)
    replace E1 := Lib.hid (blk_below E1.out hb)
    replace HB0 := Lib.hid (cbt HB0.out hb)
    have NQ := Lib.hid hu
    clear hb hu
    have k_E0_0 := E0.out.cell 0
    have k_E1_0 := E1.out.cell 0
    have hlt1 := E1.out.lt
    have Z0 := NQ.out
    obtain ⟨PT0, cpT0, rfl, _, _, _⟩ := Z0
    have e5 := Blk.new w1 26 #[.slice PT0 (wl 64 (q)) cpT0]
    have hb := cba (Below.refl _ w1) (.cells #[.slice PT0 (wl 64 (q)) cpT0] 26)
    go_upto_region 2 with (fail)
    obtain ⟨T, hS⟩ : ∃ S, (w1.alloc (.cells #[.slice PT0 (wl 64 (q)) cpT0] 26)) = S := ⟨_, rfl⟩
    rw [hS] at e5 hb ⊢
    obtain ⟨g5, hg⟩ : ∃ g, w1.heap.size = g := ⟨_, rfl⟩
    rw [hg] at e5 hlt1
    simp only [hg]
    replace HA := Lib.hid (HA.out.below hb)
    replace NQ := Lib.hid (NQ.out.below hb)
    replace E0 := Lib.hid (blk_below E0.out hb)
    replace E1 := Lib.hid (blk_below E1.out hb)
    replace HB0 := Lib.hid (cbt HB0.out hb)
    have E5 := Lib.hid e5
    clear hS hg hb e5 k_E0_0 k_E1_0
    let FS : List Kept1 := [.n (q), .eq (.int .i64 (j : Int)), .n (u), .n (a), .eq (.int .i64 (cc)), .eq (.bool false)]
    refine region_mono (Held T (fun j => FS.getD j .any) []) (by kernel_rfl) (by kernel_rfl) (by kernel_rfl) (Held.start _ _ _ (by simp) (by simp)) ?_
    refine Steps.held ?_ ?_
    · intro L v w' hJ
      have kb := hJ.out.blk E5.out (by simp [oldsOf])
      have k0 := kb.cell 0
      clear kb
      go_wp2_with fail
      exact ⟨rfl, rfl, hJ.out.same (by rfl) (NQ.out.keep hJ.out.held.keep)⟩
    simp only [Act.put, List.setIfInBounds_toArray, List.set_cons_zero, List.set_cons_succ, Nat.reduceAdd]
    refine Steps.held ?_ ?_
    · intro L v w' hJ
      go_wp2_with fail
      exact ⟨rfl, rfl, hJ.out.same (by rfl) (rfl)⟩
    simp only [Act.put, List.setIfInBounds_toArray, List.set_cons_zero, List.set_cons_succ, Nat.reduceAdd]
    refine Steps.held ?_ ?_
    · intro L v w' hJ
      have hv1 : v 1 = .int .i64 (j : Int) := hJ.out.fact 1 (by kernel_rfl)
      simp only [hv1]
      clear hv1
      have X0 := Lib.hid (show N64 w' (v 0) (q) from hJ.out.fact 0 (by kernel_rfl))
      go_wp2_with fail
      with_reducible refine (HUP.out _ _ X0.out).mono ?_
      rintro e w1 ⟨u, rfl, hu, hb⟩
      go_wp2_with fail
      exact ⟨rfl, rfl, hJ.out.call (by rfl) hb (hu)⟩
    simp only [Act.put, List.setIfInBounds_toArray, List.set_cons_zero, List.set_cons_succ, Nat.reduceAdd]
    refine Steps.held ?_ ?_
    · intro L v w' hJ
      have kb := hJ.out.blk E0.out (by simp [oldsOf])
      have k0 := kb.cell 0
      clear kb
      go_wp2_with fail
      exact ⟨rfl, rfl, hJ.out.same (by rfl) (HA.out.keep hJ.out.held.keep)⟩
    simp only [Act.put, List.setIfInBounds_toArray, List.set_cons_zero, List.set_cons_succ, Nat.reduceAdd]
    refine Steps.held ?_ ?_
    · intro L v w' hJ
      have X0 := Lib.hid (show N64 w' (v 2) (u) from hJ.out.fact 2 (by kernel_rfl))
      have X1 := Lib.hid (show N64 w' (v 3) (a) from hJ.out.fact 3 (by kernel_rfl))
      go_wp2_with fail
      with_reducible refine (HCM.out _ _ _ X0.out X1.out).mono ?_
      rintro e w1 ⟨rfl, hb⟩
      go_wp2_with fail
      exact ⟨rfl, rfl, hJ.out.call (by rfl) hb (rfl)⟩
    simp only [Act.put, List.setIfInBounds_toArray, List.set_cons_zero, List.set_cons_succ, Nat.reduceAdd]
    refine Steps.held ?_ ?_
    · intro L v w' hJ
      have hv4 : v 4 = .int .i64 (cc) := hJ.out.fact 4 (by kernel_rfl)
      simp only [hv4]
      clear hv4
      go_wp2_with fail
      exact ⟨rfl, rfl, hJ.out.same (by rfl) (rfl)⟩
    simp only [Act.put, List.setIfInBounds_toArray, List.set_cons_zero, List.set_cons_succ, Nat.reduceAdd]
    refine Steps.nil ?_
    intro v w' hJ
    have h5 : v 5 = .bool false := hJ.end_fact 5 (by decide)
    simp only [h5]
    clear h5
    have hbr := hJ.but.below
    replace NQ := Lib.hid (NQ.out.below hbr)
    replace E1 := Lib.hid (blk_below E1.out hbr)
    replace E5 := Lib.hid (blk_below E5.out hbr)
    replace HB0 := Lib.hid (cbt HB0.out hbr)
    clear hJ hbr
    have k5 := E5.out.cell 0
    have k1 := E1.out.cell 0
    have f1 := E1.out.frozen 0
    have HX := Lib.hid (show Mk64 w q (.returned (.agg #[.slice PT0 (wl 64 q) cpT0])) (w'.setCell ⟨w.heap.size + 1, 0, none⟩ (.slice PT0 (wl 64 q) cpT0)) from
      ⟨_, rfl, NQ.out.keep (Keep.set E1.out 0 rfl _), HB0.out.setCell (p := ⟨w.heap.size + 1, 0, none⟩) (by simp only []; omega) _⟩)
    go_wp2
    exact bodyPost_ret (v := .agg #[.slice PT0 (wl 64 q) cpT0]) (by simp [results, Try.results111, go_sem, k1]) rfl HX.out
end Go.Proofs.Yteikhnmmkanndaa
namespace Go.Proofs.Yteikhnmmkanndaa
open Go.RowKit Go.Proofs.YteikhnmmkanndaaW.PrintWords
set_option linter.unusedSimpArgs false
set_option linter.unusedVariables false
theorem two_le12 {b : Nat} (h : b ≤ 12) : (0 : Int) < 2 ^ b ∧ (2 : Int) ^ b ≤ 4096 := by
  have h1 : (2 : Nat) ^ b ≤ 2 ^ 12 := Nat.pow_le_pow_right (by decide) h
  have h2 := Nat.two_pow_pos b
  have e : ((2 ^ b : Nat) : Int) = (2 : Int) ^ b := by simp
  omega
theorem mul_bound {k P : Int} (h1 : -20000 ≤ k) (h2 : k ≤ 20000) (h3 : 0 ≤ P) (h4 : P ≤ 4096) : -81920000 ≤ k * P ∧ k * P ≤ 81920000 := by
  have a := Int.mul_le_mul_of_nonneg_right h1 h3
  have b := Int.mul_le_mul_of_nonneg_right h2 h3
  omega
theorem pw_pos {n : Nat} (h : 0 < n) (i : Nat) : 0 < n ^ 2 ^ i := Nat.pow_pos h
theorem NoPow.pw {n d : Nat} (hn : 0 < n) (hd : 0 < d) (h : NoPow n d) : ∀ i, NoPow (n ^ 2 ^ i) (d ^ 2 ^ i)
  | 0 => by rw [Nat.pow_zero, Nat.pow_one, Nat.pow_one]; exact h
  | i + 1 => by
    rw [← pow_sq, ← pow_sq]
    exact (NoPow.pw hn hd h i).sq (pw_pos hn i) (pw_pos hd i)
theorem LogW.exact {n d : Nat} {k : Int} (hd : 0 < d) (h : n * 2 ^ (-k).toNat = d * 2 ^ k.toNat) : ∀ i, n ^ 2 ^ i * 2 ^ (-(k * 2 ^ i)).toNat = d ^ 2 ^ i * 2 ^ (k * 2 ^ i).toNat
  | 0 => by rw [Nat.pow_zero, Nat.pow_one, Nat.pow_one, Int.pow_zero, Int.mul_one]; exact h
  | i + 1 => by
    have ih := LogW.exact hd h i
    rw [← pow_sq, ← pow_sq, Int.pow_succ, show k * (2 ^ i * 2) = 2 * (k * 2 ^ i) by rw [← Int.mul_assoc, Int.mul_comm]]
    rw [two_toNat, show -(2 * (k * 2 ^ i)) = 2 * -(k * 2 ^ i) by omega, two_toNat, Nat.pow_add, Nat.pow_add]
    rw [Nat.mul_mul_mul_comm, ih, Nat.mul_mul_mul_comm]
theorem LogW.of_eq {n d : Nat} {k : Int} (hd : 0 < d) (h : n * 2 ^ (-k).toNat = d * 2 ^ k.toNat) : LogW n d k := by
  have := Nat.mul_pos hd (Nat.two_pow_pos k.toNat)
  exact ⟨by omega, by omega⟩
theorem NoPow.of_ne {n d : Nat} {k : Int} (hd : 0 < d) (hw : LogW n d k) (h : n * 2 ^ (-k).toNat ≠ d * 2 ^ k.toNat) : NoPow n d := by
  intro j hj
  have := (LogW.of_eq hd hj).unique hw
  subst this
  exact h hj
theorem LogW.bound {n d m : Nat} {k : Int} (hn : 0 < n) (hd : 0 < d) (h1 : n < 2 ^ m) (h2 : d < 2 ^ m) (hw : LogW n d k) : -(m : Int) ≤ k ∧ k ≤ (m : Int) := by
  have := (wholeN_W hn hd).unique hw
  rw [← this]
  exact wholeN_le hn hd h1 h2
theorem pw_lt {n m : Nat} (h : n < 2 ^ m) (i : Nat) : n ^ 2 ^ i < 2 ^ (m * 2 ^ i) := by
  rw [Nat.pow_mul]
  exact Nat.pow_lt_pow_left h (Nat.ne_of_gt (Nat.two_pow_pos i))
theorem two_out1 (out : Int) : out * 2 + 1 = 2 * out + 1 := by omega
theorem two_D (D : Nat) : (D : Int) * 2 = ((2 * D : Nat) : Int) := by omega
theorem two_pos_D {D : Nat} (h : 1 ≤ D) : 1 ≤ 2 * D := by omega
theorem less_i {i b : Nat} (h : i < b) : b - (intOf (.int .i64 ((i + 1 : Nat) : Int))).toNat < b - (intOf (.int .i64 (i : Int))).toNat := by simp [intOf]; omega
theorem less_D {D M : Nat} (h : 1 ≤ D) (h2 : 2 * D ≤ M) : M - (intOf (.int .i64 ((D : Int) * 2))).toNat < M - (intOf (.int .i64 (D : Int))).toNat := by simp [intOf]; omega
theorem wrap_D {D M : Nat} (h : D ≤ M) (h2 : M ≤ 200000000) : wrap64 ((D : Int) * 2) = ((2 * D : Nat) : Int) := by rw [Go.IntWalk.wrap64_in _ (by omega)]; omega
theorem few_D {D i m b M : Nat} (h : D ≤ 2 * i + 4 + (m + 1) * 2 ^ (i + 1)) (hi : i < b) (hb : b ≤ 12) (hM : 2 * (26 + (m + 1) * 4096) = M) : 2 * D ≤ M := by
  have : (m + 1) * 2 ^ (i + 1) ≤ (m + 1) * 4096 := Nat.mul_le_mul_left _ (show 2 ^ (i + 1) ≤ 2 ^ 12 from Nat.pow_le_pow_right (by decide) (by omega))
  omega
theorem LogI.wls {n d D m i low high P Q : Nat} {out : Int} (h : LogI n d D m i low high out P Q) : wl 64 low ≤ D + 2 ∧ wl 64 high ≤ D + 2 ∧ wl 64 (low * low) ≤ 2 * D + 4 ∧ wl 64 (high * high) ≤ 2 * D + 4 ∧ wl 64 (low * low / 2 ^ D) ≤ 2 * D + 4 ∧ wl 64 (ceilD (high * high) D) ≤ D + 3 := by
  have hh : high < 2 ^ (D + 2) := Nat.lt_of_le_of_lt h.top (Nat.pow_lt_pow_right (by decide) (by omega))
  have hl : low < 2 ^ (D + 2) := Nat.lt_of_le_of_lt h.lohi hh
  have e : 2 ^ (D + 2) * 2 ^ (D + 2) = 2 ^ (2 * D + 4) := by rw [← Nat.pow_add]; congr 1; omega
  have h1 : low * low < 2 ^ (2 * D + 4) := e ▸ Nat.mul_lt_mul'' hl hl
  have h2 : high * high < 2 ^ (2 * D + 4) := e ▸ Nat.mul_lt_mul'' hh hh
  exact ⟨wl_bits hl, wl_bits hh, wl_bits h1, wl_bits h2, wl_bits (Nat.lt_of_le_of_lt (Nat.div_le_self _ _) h1), wl_bits (Nat.lt_of_le_of_lt h.top2 (Nat.pow_lt_pow_right (by decide) (by omega)))⟩
theorem LogI.bound {n d D m i low high P Q : Nat} {out : Int} (h : LogI n d D m i low high out P Q) (hn : 0 < n) (hd : 0 < d) (h1 : n < 2 ^ m) (h2 : d < 2 ^ m) (hm : m ≤ 20000) (hi : i ≤ 12) : -81920000 ≤ out ∧ out ≤ 81920000 := by
  have hw := h.e.w h.pos h.le h.lt (pw_pos hd i)
  have hb := hw.bound (pw_pos hn i) (pw_pos hd i) (pw_lt h1 i) (pw_lt h2 i)
  have h3 : 2 ^ i ≤ 2 ^ 12 := Nat.pow_le_pow_right (by decide) hi
  have h4 : m * 2 ^ i ≤ 20000 * 2 ^ 12 := Nat.mul_le_mul hm h3
  omega
set_option maxRecDepth 100000 in
set_option maxHeartbeats 4000000 in
theorem llog_any (va : Value) (n d m b : Nat) (w : World) (ha : F64 w va n d) (hn0 : 0 < n) (hd0 : 0 < d) (hn : n < 2 ^ m) (hd : d < 2 ^ m) (hm : m ≤ 20000) (hb : b ≤ 12) :
    Calls Try.prog 37 #[va, .int .i64 (b : Nat)] w fun x w' => ∃ v, x = .returned (.tuple #[.int .i64 v, .int .i64 0]) ∧ LogW (n ^ 2 ^ b) (d ^ 2 ^ b) v ∧ Below w.heap.size w w' := by
  have Ha := Lib.hid ha
  obtain ⟨Pa, pa, ca, Qa, qa, ea, xa, rfl, _, _, _⟩ := ha
  have HNU := Lib.hid num_any
  have HDE := Lib.hid den_any
  have d1 : decide ((b : Int) < 0) = false := decide_eq_false (by omega)
  have d2 : decide (12 < (b : Int)) = false := decide_eq_false (by omega)
  have HWH := Lib.hid (fun v W h => lwhole_any v n d m W h hn0 hd0 hn hd hm)
  have hwk := wholeN_W hn0 hd0
  have hkb := wholeN_le hn0 hd0 hn hd
  obtain ⟨kk, hkk⟩ : ∃ k, wholeN n d = k := ⟨_, rfl⟩
  rw [hkk] at HWH hwk hkb
  have hk1 : -20000 ≤ kk := by omega
  have hk2 : kk ≤ 20000 := by omega
  have hs1 := wl_shl (j := (-kk).toNat) hn
  have hs2 := wl_shl (j := kk.toNat) hd
  have hwn := wl_bits hn
  have hwd := wl_bits hd
  have HU1 := Lib.hid (fun v W h => nup_any v n W h (by omega) (-kk) (by omega))
  have HU2 := Lib.hid (fun v W h => nup_any v d W h (by omega) kk (by omega))
  have HCM := Lib.hid (fun va vb W h1 h2 => ncmp_any va vb (n * 2 ^ (-kk).toNat) (d * 2 ^ kk.toNat) W h1 h2)
  obtain ⟨N', hN'⟩ : ∃ p, n * 2 ^ (-kk).toNat = p := ⟨_, rfl⟩
  obtain ⟨D', hD'⟩ : ∃ p, d * 2 ^ kk.toNat = p := ⟨_, rfl⟩
  rw [hN'] at HU1 HCM
  rw [hD'] at HU2 HCM
  clear hkk hs1 hs2 hwn hwd hkb
  by_cases heq : N' = D'
  · have heq2 : n * 2 ^ (-kk).toNat = d * 2 ^ kk.toNat := hN'.trans (heq.trans hD'.symm)
    have hc : cmpN N' D' = 0 := by rw [heq, cmpN_self]
    rw [hc] at HCM
    have hex := LogW.exact hd0 heq2 b
    have HEX := Lib.hid (LogW.of_eq (pw_pos hd0 b) hex)
    have HBB := Lib.hid hb
    clear heq2 hex hwk hn0 hd0 hn hd hm hN' hD' hb hc heq
    have e0 := Blk.new (w) 47 #[(.slice Pa pa ca), (.slice Qa qa ea)]
    have hb := cba (Below.refl _ w) (.cells #[(.slice Pa pa ca), (.slice Qa qa ea)] 47)
    have hsz : w.heap.size ≤ w.heap.size := Nat.le_refl _
    go_enter Try.func37, Try.ntmps37
    go_upto_region 1 with (fail)
    obtain ⟨S, hS⟩ : ∃ S, (w).alloc (.cells #[(.slice Pa pa ca), (.slice Qa qa ea)] 47) = S := ⟨_, rfl⟩
    rw [hS] at e0 hb ⊢
    replace Ha := Lib.hid (Ha.out.below hb)
    have HB0 := Lib.hid hb
    have E0 := Lib.hid e0
    clear hS hb hsz e0
    go_step3
    have k_E0_0 := E0.out.cell 0
    have k_E0_1 := E0.out.cell 1
    go_wp2_with fail
    with_reducible refine (HWH.out _ _ Ha.out).mono ?_
    rintro e w1 ⟨rfl, hb⟩
    clear k_E0_0 k_E0_1
    replace Ha := Lib.hid (Ha.out.below hb)
    replace E0 := Lib.hid (blk_below E0.out hb)
    replace HB0 := Lib.hid (cbt HB0.out hb)
    clear hb
    have k_E0_0 := E0.out.cell 0
    have k_E0_1 := E0.out.cell 1
    go_wp2_with fail
    clear k_E0_0 k_E0_1
    let FS : List Kept1 := [.f (n) (d), .n (n), .eq (.int .i64 kk), .eq (.int .i64 (-kk)), .n (N'), .f (n) (d), .n (d), .eq (.int .i64 kk), .n (D'), .eq (.int .i64 0), .eq (.bool true)]
    refine region_mono (Held w1 (fun j => FS.getD j .any) []) (by kernel_rfl) (by kernel_rfl) (by kernel_rfl) (Held.start _ _ _ (by simp) (by simp)) ?_
    refine Steps.held ?_ ?_
    · intro L v w' hJ
      have kb := hJ.out.blk E0.out (by simp [oldsOf])
      have k0 := kb.cell 0
      have k1 := kb.cell 1
      clear kb
      go_wp2_with fail
      exact ⟨rfl, rfl, hJ.out.same (by rfl) (Ha.out.keep hJ.out.held.keep)⟩
    simp only [Act.put, List.setIfInBounds_toArray, List.set_cons_zero, List.set_cons_succ, Nat.reduceAdd]
    refine Steps.held ?_ ?_
    · intro L v w' hJ
      have X0 := Lib.hid (show F64 w' (v 0) (n) (d) from hJ.out.fact 0 (by kernel_rfl))
      go_wp2_with fail
      with_reducible refine (HNU.out _ _ _ _ X0.out).mono ?_
      rintro e w1 ⟨u, rfl, hu, hb⟩
      go_wp2_with fail
      exact ⟨rfl, rfl, hJ.out.call (by rfl) hb (hu)⟩
    simp only [Act.put, List.setIfInBounds_toArray, List.set_cons_zero, List.set_cons_succ, Nat.reduceAdd]
    refine Steps.held ?_ ?_
    · intro L v w' hJ
      go_wp2_with fail
      exact ⟨rfl, rfl, hJ.out.same (by rfl) (rfl)⟩
    simp only [Act.put, List.setIfInBounds_toArray, List.set_cons_zero, List.set_cons_succ, Nat.reduceAdd]
    refine Steps.held ?_ ?_
    · intro L v w' hJ
      have hv2 : v 2 = .int .i64 kk := hJ.out.fact 2 (by kernel_rfl)
      simp only [hv2]
      clear hv2
      go_wp2_with fail
      exact ⟨rfl, rfl, hJ.out.same (by rfl) (rfl)⟩
    simp only [Act.put, List.setIfInBounds_toArray, List.set_cons_zero, List.set_cons_succ, Nat.reduceAdd]
    refine Steps.held ?_ ?_
    · intro L v w' hJ
      have hv3 : v 3 = .int .i64 (-kk) := hJ.out.fact 3 (by kernel_rfl)
      simp only [hv3]
      clear hv3
      have X0 := Lib.hid (show N64 w' (v 1) (n) from hJ.out.fact 1 (by kernel_rfl))
      go_wp2_with fail
      with_reducible refine (HU1.out _ _ X0.out).mono ?_
      rintro e w1 ⟨u, rfl, hu, hb⟩
      go_wp2_with fail
      exact ⟨rfl, rfl, hJ.out.call (by rfl) hb (hu)⟩
    simp only [Act.put, List.setIfInBounds_toArray, List.set_cons_zero, List.set_cons_succ, Nat.reduceAdd]
    refine Steps.held ?_ ?_
    · intro L v w' hJ
      have kb := hJ.out.blk E0.out (by simp [oldsOf])
      have k0 := kb.cell 0
      have k1 := kb.cell 1
      clear kb
      go_wp2_with fail
      exact ⟨rfl, rfl, hJ.out.same (by rfl) (Ha.out.keep hJ.out.held.keep)⟩
    simp only [Act.put, List.setIfInBounds_toArray, List.set_cons_zero, List.set_cons_succ, Nat.reduceAdd]
    refine Steps.held ?_ ?_
    · intro L v w' hJ
      have X0 := Lib.hid (show F64 w' (v 5) (n) (d) from hJ.out.fact 5 (by kernel_rfl))
      go_wp2_with fail
      with_reducible refine (HDE.out _ _ _ _ X0.out).mono ?_
      rintro e w1 ⟨u, rfl, hu, hb⟩
      go_wp2_with fail
      exact ⟨rfl, rfl, hJ.out.call (by rfl) hb (hu)⟩
    simp only [Act.put, List.setIfInBounds_toArray, List.set_cons_zero, List.set_cons_succ, Nat.reduceAdd]
    refine Steps.held ?_ ?_
    · intro L v w' hJ
      go_wp2_with fail
      exact ⟨rfl, rfl, hJ.out.same (by rfl) (rfl)⟩
    simp only [Act.put, List.setIfInBounds_toArray, List.set_cons_zero, List.set_cons_succ, Nat.reduceAdd]
    refine Steps.held ?_ ?_
    · intro L v w' hJ
      have hv7 : v 7 = .int .i64 kk := hJ.out.fact 7 (by kernel_rfl)
      simp only [hv7]
      clear hv7
      have X0 := Lib.hid (show N64 w' (v 6) (d) from hJ.out.fact 6 (by kernel_rfl))
      go_wp2_with fail
      with_reducible refine (HU2.out _ _ X0.out).mono ?_
      rintro e w1 ⟨u, rfl, hu, hb⟩
      go_wp2_with fail
      exact ⟨rfl, rfl, hJ.out.call (by rfl) hb (hu)⟩
    simp only [Act.put, List.setIfInBounds_toArray, List.set_cons_zero, List.set_cons_succ, Nat.reduceAdd]
    refine Steps.held ?_ ?_
    · intro L v w' hJ
      have X0 := Lib.hid (show N64 w' (v 4) (N') from hJ.out.fact 4 (by kernel_rfl))
      have X1 := Lib.hid (show N64 w' (v 8) (D') from hJ.out.fact 8 (by kernel_rfl))
      go_wp2_with fail
      with_reducible refine (HCM.out _ _ _ X0.out X1.out).mono ?_
      rintro e w1 ⟨rfl, hb⟩
      go_wp2_with fail
      exact ⟨rfl, rfl, hJ.out.call (by rfl) hb (rfl)⟩
    simp only [Act.put, List.setIfInBounds_toArray, List.set_cons_zero, List.set_cons_succ, Nat.reduceAdd]
    refine Steps.held ?_ ?_
    · intro L v w' hJ
      have hv9 : v 9 = .int .i64 0 := hJ.out.fact 9 (by kernel_rfl)
      simp only [hv9]
      clear hv9
      go_wp2_with fail
      exact ⟨rfl, rfl, hJ.out.same (by rfl) (rfl)⟩
    simp only [Act.put, List.setIfInBounds_toArray, List.set_cons_zero, List.set_cons_succ, Nat.reduceAdd]
    refine Steps.nil ?_
    intro v w' hJ
    have h10 : v 10 = .bool true := hJ.end_fact 10 (by decide)
    simp only [h10]
    clear h10
    have hbr := hJ.but.below
    replace Ha := Lib.hid (Ha.out.below hbr)
    replace E0 := Lib.hid (blk_below E0.out hbr)
    replace HB0 := Lib.hid (cbt HB0.out hbr)
    clear hJ hbr
    have hb := HBB.out
    go_wp2_with fail
    have hv : wrap64 (kk * wrap64 (2 ^ b)) = kk * 2 ^ b := by
      have hp := two_le12 hb
      have hm := mul_bound hk1 hk2 (Int.le_of_lt hp.1) hp.2
      rw [Go.IntWalk.wrap64_in (2 ^ b) (by omega), Go.IntWalk.wrap64_in _ (by omega)]
    simp only [hv]
    rw [Exit.noGoto_ret]
    exact bodyPost_ret (v := .tuple #[.int .i64 (kk * 2 ^ b), .int .i64 0]) (by simp [results, Try.results37, go_sem]) rfl ⟨_, rfl, HEX.out, HB0.out⟩
  · have hNP := Lib.hid ((NoPow.of_ne hd0 hwk (fun h => heq (hN'.symm.trans (h.trans hD')))).pw hn0 hd0)
    have hcc : (cmpN N' D' == 0) = false := beq_eq_false_iff_ne.2 (by unfold cmpN; split; decide; split; decide; omega)
    obtain ⟨cc, hce⟩ : ∃ c, cmpN N' D' = c := ⟨_, rfl⟩
    rw [hce] at HCM hcc
    have HWK := Lib.hid hwk
    have HD0 := Lib.hid hd0
    have HN0 := Lib.hid hn0
    have HNM := Lib.hid hn
    have HDM' := Lib.hid hd
    have HMM := Lib.hid hm
    have HBB := Lib.hid hb
    have HSC := Lib.hid (fun v W D h hD => lscaled_any v n d m kk D W h hd0 hn hd hm hk1 hk2 hD)
    clear hce heq hwk hn0 hd0 hn hd hm hN' hD' hb
    have e0 := Blk.new (w) 47 #[(.slice Pa pa ca), (.slice Qa qa ea)]
    have hb := cba (Below.refl _ w) (.cells #[(.slice Pa pa ca), (.slice Qa qa ea)] 47)
    have hsz : w.heap.size ≤ w.heap.size := Nat.le_refl _
    go_enter Try.func37, Try.ntmps37
    go_upto_region 1 with (fail)
    obtain ⟨S, hS⟩ : ∃ S, (w).alloc (.cells #[(.slice Pa pa ca), (.slice Qa qa ea)] 47) = S := ⟨_, rfl⟩
    rw [hS] at e0 hb ⊢
    replace Ha := Lib.hid (Ha.out.below hb)
    have HB0 := Lib.hid hb
    have E0 := Lib.hid e0
    clear hS hb hsz e0
    go_step3
    have k_E0_0 := E0.out.cell 0
    have k_E0_1 := E0.out.cell 1
    go_wp2_with fail
    with_reducible refine (HWH.out _ _ Ha.out).mono ?_
    rintro e w1 ⟨rfl, hb⟩
    clear k_E0_0 k_E0_1
    replace Ha := Lib.hid (Ha.out.below hb)
    replace E0 := Lib.hid (blk_below E0.out hb)
    replace HB0 := Lib.hid (cbt HB0.out hb)
    clear hb
    have k_E0_0 := E0.out.cell 0
    have k_E0_1 := E0.out.cell 1
    go_wp2_with fail
    clear k_E0_0 k_E0_1
    let FS : List Kept1 := [.f (n) (d), .n (n), .eq (.int .i64 kk), .eq (.int .i64 (-kk)), .n (N'), .f (n) (d), .n (d), .eq (.int .i64 kk), .n (D'), .eq (.int .i64 cc), .eq (.bool false)]
    refine region_mono (Held w1 (fun j => FS.getD j .any) []) (by kernel_rfl) (by kernel_rfl) (by kernel_rfl) (Held.start _ _ _ (by simp) (by simp)) ?_
    refine Steps.held ?_ ?_
    · intro L v w' hJ
      have kb := hJ.out.blk E0.out (by simp [oldsOf])
      have k0 := kb.cell 0
      have k1 := kb.cell 1
      clear kb
      go_wp2_with fail
      exact ⟨rfl, rfl, hJ.out.same (by rfl) (Ha.out.keep hJ.out.held.keep)⟩
    simp only [Act.put, List.setIfInBounds_toArray, List.set_cons_zero, List.set_cons_succ, Nat.reduceAdd]
    refine Steps.held ?_ ?_
    · intro L v w' hJ
      have X0 := Lib.hid (show F64 w' (v 0) (n) (d) from hJ.out.fact 0 (by kernel_rfl))
      go_wp2_with fail
      with_reducible refine (HNU.out _ _ _ _ X0.out).mono ?_
      rintro e w1 ⟨u, rfl, hu, hb⟩
      go_wp2_with fail
      exact ⟨rfl, rfl, hJ.out.call (by rfl) hb (hu)⟩
    simp only [Act.put, List.setIfInBounds_toArray, List.set_cons_zero, List.set_cons_succ, Nat.reduceAdd]
    refine Steps.held ?_ ?_
    · intro L v w' hJ
      go_wp2_with fail
      exact ⟨rfl, rfl, hJ.out.same (by rfl) (rfl)⟩
    simp only [Act.put, List.setIfInBounds_toArray, List.set_cons_zero, List.set_cons_succ, Nat.reduceAdd]
    refine Steps.held ?_ ?_
    · intro L v w' hJ
      have hv2 : v 2 = .int .i64 kk := hJ.out.fact 2 (by kernel_rfl)
      simp only [hv2]
      clear hv2
      go_wp2_with fail
      exact ⟨rfl, rfl, hJ.out.same (by rfl) (rfl)⟩
    simp only [Act.put, List.setIfInBounds_toArray, List.set_cons_zero, List.set_cons_succ, Nat.reduceAdd]
    refine Steps.held ?_ ?_
    · intro L v w' hJ
      have hv3 : v 3 = .int .i64 (-kk) := hJ.out.fact 3 (by kernel_rfl)
      simp only [hv3]
      clear hv3
      have X0 := Lib.hid (show N64 w' (v 1) (n) from hJ.out.fact 1 (by kernel_rfl))
      go_wp2_with fail
      with_reducible refine (HU1.out _ _ X0.out).mono ?_
      rintro e w1 ⟨u, rfl, hu, hb⟩
      go_wp2_with fail
      exact ⟨rfl, rfl, hJ.out.call (by rfl) hb (hu)⟩
    simp only [Act.put, List.setIfInBounds_toArray, List.set_cons_zero, List.set_cons_succ, Nat.reduceAdd]
    refine Steps.held ?_ ?_
    · intro L v w' hJ
      have kb := hJ.out.blk E0.out (by simp [oldsOf])
      have k0 := kb.cell 0
      have k1 := kb.cell 1
      clear kb
      go_wp2_with fail
      exact ⟨rfl, rfl, hJ.out.same (by rfl) (Ha.out.keep hJ.out.held.keep)⟩
    simp only [Act.put, List.setIfInBounds_toArray, List.set_cons_zero, List.set_cons_succ, Nat.reduceAdd]
    refine Steps.held ?_ ?_
    · intro L v w' hJ
      have X0 := Lib.hid (show F64 w' (v 5) (n) (d) from hJ.out.fact 5 (by kernel_rfl))
      go_wp2_with fail
      with_reducible refine (HDE.out _ _ _ _ X0.out).mono ?_
      rintro e w1 ⟨u, rfl, hu, hb⟩
      go_wp2_with fail
      exact ⟨rfl, rfl, hJ.out.call (by rfl) hb (hu)⟩
    simp only [Act.put, List.setIfInBounds_toArray, List.set_cons_zero, List.set_cons_succ, Nat.reduceAdd]
    refine Steps.held ?_ ?_
    · intro L v w' hJ
      go_wp2_with fail
      exact ⟨rfl, rfl, hJ.out.same (by rfl) (rfl)⟩
    simp only [Act.put, List.setIfInBounds_toArray, List.set_cons_zero, List.set_cons_succ, Nat.reduceAdd]
    refine Steps.held ?_ ?_
    · intro L v w' hJ
      have hv7 : v 7 = .int .i64 kk := hJ.out.fact 7 (by kernel_rfl)
      simp only [hv7]
      clear hv7
      have X0 := Lib.hid (show N64 w' (v 6) (d) from hJ.out.fact 6 (by kernel_rfl))
      go_wp2_with fail
      with_reducible refine (HU2.out _ _ X0.out).mono ?_
      rintro e w1 ⟨u, rfl, hu, hb⟩
      go_wp2_with fail
      exact ⟨rfl, rfl, hJ.out.call (by rfl) hb (hu)⟩
    simp only [Act.put, List.setIfInBounds_toArray, List.set_cons_zero, List.set_cons_succ, Nat.reduceAdd]
    refine Steps.held ?_ ?_
    · intro L v w' hJ
      have X0 := Lib.hid (show N64 w' (v 4) (N') from hJ.out.fact 4 (by kernel_rfl))
      have X1 := Lib.hid (show N64 w' (v 8) (D') from hJ.out.fact 8 (by kernel_rfl))
      go_wp2_with fail
      with_reducible refine (HCM.out _ _ _ X0.out X1.out).mono ?_
      rintro e w1 ⟨rfl, hb⟩
      go_wp2_with fail
      exact ⟨rfl, rfl, hJ.out.call (by rfl) hb (rfl)⟩
    simp only [Act.put, List.setIfInBounds_toArray, List.set_cons_zero, List.set_cons_succ, Nat.reduceAdd]
    refine Steps.held ?_ ?_
    · intro L v w' hJ
      have hv9 : v 9 = .int .i64 cc := hJ.out.fact 9 (by kernel_rfl)
      simp only [hv9]
      clear hv9
      go_wp2_with fail
      exact ⟨rfl, rfl, hJ.out.same (by rfl) (rfl)⟩
    simp only [Act.put, List.setIfInBounds_toArray, List.set_cons_zero, List.set_cons_succ, Nat.reduceAdd]
    refine Steps.nil ?_
    intro v w' hJ
    have h10 : v 10 = .bool false := hJ.end_fact 10 (by decide)
    simp only [h10]
    clear h10
    have hbr := hJ.but.below
    replace Ha := Lib.hid (Ha.out.below hbr)
    replace E0 := Lib.hid (blk_below E0.out hbr)
    replace HB0 := Lib.hid (cbt HB0.out hbr)
    clear hJ hbr
    go_wp2_with fail
    go_step3
    go_wp2_with fail
    have hm0 := HMM.out
    obtain ⟨DM, hDM⟩ : ∃ j, 2 * (26 + (m + 1) * 4096) = j := ⟨_, rfl⟩
    have hDM1 : 96 ≤ DM := by omega
    have hDM2 : DM ≤ 200000000 := by omega
    have HDM := Lib.hid hDM
    clear hDM hm0
    go_loopw [8] (fun v8 wr => ∃ D : Nat, v8 = .int .i64 D ∧ D ≤ DM ∧ Hid (1 ≤ D) ∧ Hid (Below w'.heap.size w' wr)) (fun v8 _ => DM - (intOf v8).toNat)
    case atStart => exact ⟨96, rfl, hDM1, Lib.hid (by decide), Lib.hid (Below.refl _ _)⟩
    case round =>
      obtain ⟨D, rfl, hD, hD1, hBr⟩ := hrel
      rename World => wo
      have E0r := Lib.hid (blk_below E0.out hBr.out)
      have Har := Lib.hid (Ha.out.below hBr.out)
      have k00 := E0r.out.cell 0
      have k01 := E0r.out.cell 1
      have HSD := Lib.hid (HSC.out _ wo D Har.out (by omega))
      have HST := Lib.hid (LogI.start (D := D) HD0.out HWK.out HNM.out HDM'.out rfl rfl)
      obtain ⟨P0, hP0⟩ : ∃ p, n * 2 ^ (-kk).toNat = p := ⟨_, rfl⟩
      obtain ⟨Q0, hQ0⟩ : ∃ p, d * 2 ^ kk.toNat = p := ⟨_, rfl⟩
      rw [hP0, hQ0] at HSD HST
      obtain ⟨low0, hl0⟩ : ∃ p, P0 * 2 ^ D / Q0 = p := ⟨_, rfl⟩
      obtain ⟨rm, hrm⟩ : ∃ p, P0 * 2 ^ D % Q0 = p := ⟨_, rfl⟩
      rw [hl0, hrm] at HSD HST
      clear hP0 hQ0 hl0 hrm
      have w1l : wl 64 1 ≤ 1 := w64_lit (by decide)
      have HTW := Lib.hid (fun v W h => nup_any v 1 W h (by omega) ((D : Int) + 1) (by omega))
      rw [show ((D : Int) + 1).toNat = D + 1 by omega, Nat.one_mul] at HTW
      obtain ⟨T2, hT2⟩ : ∃ t, 2 ^ (D + 1) = t := ⟨_, rfl⟩
      have HT2 := Lib.hid hT2
      rw [hT2] at HTW
      have HON : Hid (∀ W, Calls Try.prog 50 #[.int .u64 1] W (fun e w' => ∃ v, e = .returned v ∧ N64 w' v 1 ∧ Below W.heap.size W w')) := Lib.hid (fun W => of_any 1 (by decide) W)
      clear hT2
      by_cases hrem : rm = 0
      · rw [if_pos hrem] at HST
        rw [decide_eq_true hrem] at HSD
        rw [Nat.add_zero] at HST
        clear hrem
        have HB1 := Lib.hid (Below.refl wo.heap.size wo)
        go_wp2_with fail
        refine HSD.out.mono ?_
        rintro _ w2 ⟨u9, rfl, hu, hb⟩
        have N9 := Lib.hid hu
        replace HB1 := Lib.hid (cbt HB1.out hb)
        clear hu hb k00 k01 HSD
        have hg9 := HB1.out.size
        have Z0 := N9.out
        obtain ⟨PT0, cpT0, rfl, _, _, _⟩ := Z0
        have e9 := Blk.new w2 26 #[.slice PT0 (wl 64 (low0)) cpT0]
        have hb := cba (Below.refl _ w2) (.cells #[.slice PT0 (wl 64 (low0)) cpT0] 26)
        go_upto_region 11 with (fail)
        obtain ⟨T, hS⟩ : ∃ S, (w2.alloc (.cells #[.slice PT0 (wl 64 (low0)) cpT0] 26)) = S := ⟨_, rfl⟩
        rw [hS] at e9 hb ⊢
        obtain ⟨g9, hg⟩ : ∃ g, w2.heap.size = g := ⟨_, rfl⟩
        rw [hg] at e9 hg9
        simp only [hg]
        replace N9 := Lib.hid (N9.out.below hb)
        replace HB1 := Lib.hid (cbt HB1.out hb)
        have E9 := Lib.hid e9
        clear hS hg hb e9
        have HG9 := Lib.hid hg9
        clear hg9
        have k9 := E9.out.cell 0
        have N11 := N9
        have e11 := Blk.new T 26 #[.slice PT0 (wl 64 low0) cpT0]
        have hb := cba (Below.refl _ T) (.cells #[.slice PT0 (wl 64 low0) cpT0] 26)
        have h911 : g9 < T.heap.size := E9.out.lt
        have hge9 : wo.heap.size ≤ g9 := HG9.out
        have hge := HB1.out.size
        go_upto_region 12 with (fail)
        obtain ⟨U, hU⟩ : ∃ S, T.alloc (.cells #[.slice PT0 (wl 64 low0) cpT0] 26) = S := ⟨_, rfl⟩
        rw [hU] at e11 hb ⊢
        obtain ⟨g11, hg⟩ : ∃ g, T.heap.size = g := ⟨_, rfl⟩
        rw [hg] at e11 h911 hge
        simp only [hg]
        replace N9 := Lib.hid (N9.out.below hb)
        replace N11 := Lib.hid (N11.out.below hb)
        replace E9 := Lib.hid (blk_below E9.out hb)
        replace HB1 := Lib.hid (cbt HB1.out hb)
        have E11 := Lib.hid e11
        have HGE := Lib.hid hge
        clear hge hge9
        clear hU hg hb e11 k9
        go_wp2_with fail
        have BLO := Lib.hid (show Box U g9 low0 from ⟨PT0, cpT0, E9.out, N9.out⟩)
        have BHI := Lib.hid (show Box U g11 low0 from ⟨PT0, cpT0, E11.out, N11.out⟩)
        clear E9 N9 E11 N11
        go_wp2_with fail
        with_reducible refine (HON.out _).mono ?_
        rintro _ w4 ⟨u12, rfl, hu, hb⟩
        replace BLO := Lib.hid (BLO.out.below hb)
        replace BHI := Lib.hid (BHI.out.below hb)
        replace HB1 := Lib.hid (cbt HB1.out hb)
        have N1 := Lib.hid hu
        clear hu hb
        go_wp2_with fail
        with_reducible refine (HTW.out _ _ N1.out).mono ?_
        rintro _ w5 ⟨u13, rfl, hu, hb⟩
        replace BLO := Lib.hid (BLO.out.below hb)
        replace BHI := Lib.hid (BHI.out.below hb)
        replace HB1 := Lib.hid (cbt HB1.out hb)
        have N12 := Lib.hid hu
        clear hu hb N1
        have h1112 : g11 < w5.heap.size := by obtain ⟨_, _, h, _⟩ := BHI.out; exact h.lt
        have Z0 := N12.out
        obtain ⟨PV0, cpV0, rfl, _, _, _⟩ := Z0
        have e12 := Blk.new w5 26 #[.slice PV0 (wl 64 (T2)) cpV0]
        have hb := cba (Below.refl _ w5) (.cells #[.slice PV0 (wl 64 (T2)) cpV0] 26)
        go_upto_region 15 with (fail)
        obtain ⟨V, hS⟩ : ∃ S, (w5.alloc (.cells #[.slice PV0 (wl 64 (T2)) cpV0] 26)) = S := ⟨_, rfl⟩
        rw [hS] at e12 hb ⊢
        obtain ⟨g12, hg⟩ : ∃ g, w5.heap.size = g := ⟨_, rfl⟩
        rw [hg] at e12 h1112
        simp only [hg]
        replace N12 := Lib.hid (N12.out.below hb)
        replace BLO := Lib.hid (BLO.out.below hb)
        replace BHI := Lib.hid (BHI.out.below hb)
        replace HB1 := Lib.hid (cbt HB1.out hb)
        have E12 := Lib.hid e12
        clear hS hg hb e12
        have BT0 := Lib.hid (show Box V g12 T2 from ⟨_, _, E12.out, N12.out⟩)
        clear E12 N12
        have HNP := Lib.hid hNP.out
        clear HSC HTW HON E0r Har HWH HU1 HU2 HCM HNU HDE
        go_wp2_with fail
        go_loopw [13, 64] (fun v13 v64 wx => ∃ (i low high P Q : Nat) (out : Int), i ≤ b ∧ v64 = .int .i64 (i : Nat) ∧ v13 = .int .i64 out ∧ Hid (LogI n d D m i low high out P Q) ∧ Hid (Box wx g9 low) ∧ Hid (Box wx g11 high) ∧ Hid (Box wx g12 T2) ∧ Hid (Below wo.heap.size wo wx)) (fun _ v64 _ => b - (intOf v64).toNat)
        case atStart => exact ⟨0, _, _, P0, Q0, kk, Nat.zero_le b, rfl, rfl, HST, BLO, BHI, BT0, HB1⟩
        case round =>
          obtain ⟨i, low, high, P, Q, out, hib, rfl, rfl, HI, BL, BH, BT, HB⟩ := hrel
          obtain ⟨PL, cL, hk, hn⟩ := BL.out
          have E9 := Lib.hid hk
          have NL := Lib.hid hn
          obtain ⟨PH, cH, hk, hn⟩ := BH.out
          have E11 := Lib.hid hk
          have NH := Lib.hid hn
          clear hk hn BL BH BLO BHI BT0 HST HB1
          have hbb := HBB.out
          have hob := HI.out.bound HN0.out HD0.out HNM.out HDM'.out HMM.out (show i ≤ 12 by omega)
          by_cases hlt : i < b
          · have dlt : decide ((i : Int) < (b : Int)) = true := decide_eq_true (by omega)
            have hwl := HI.out.wls
            have hw2 : wrap64 (out * 2) = 2 * out := by rw [Go.IntWalk.wrap64_in (out * 2) (by omega)]; omega
            have hw3 : wrap64 ((i : Int) + 1) = ((i + 1 : Nat) : Int) := by rw [Go.IntWalk.wrap64_in _ (by omega)]; omega
            have HM1 := Lib.hid (fun va vb W h1 h2 => nmul_any va vb low low W h1 h2 (by omega) (by omega))
            have HM2 := Lib.hid (fun va vb W h1 h2 => nmul_any va vb high high W h1 h2 (by omega) (by omega))
            have HDW := Lib.hid (fun v W h => ndown_any v (low * low) W h (by omega) (D : Int) (by omega))
            rw [Int.toNat_natCast] at HDW
            have HHF := Lib.hid (fun v W h => lhalf_any v (high * high) D W h (by omega) (by omega))
            have HDW1 := Lib.hid (fun v W h => ndown_any v (low * low / 2 ^ D) W h (by omega) 1 (by omega))
            rw [show (1 : Int).toNat = 1 from rfl] at HDW1
            have HHF1 := Lib.hid (fun v W h => lhalf_any v (ceilD (high * high) D) 1 W h (by omega) (by omega))
            rw [show ((1 : Nat) : Int) = 1 from rfl] at HHF1
            have HC1 := Lib.hid (fun va vb W h1 h2 => ncmp_any va vb (low * low / 2 ^ D) T2 W h1 h2)
            have HC2 := Lib.hid (fun va vb W h1 h2 => ncmp_any va vb (ceilD (high * high) D) T2 W h1 h2)
            have HONE := Lib.hid (fun h : 2 ^ (D + 1) ≤ low * low / 2 ^ D => HI.out.one h)
            have HNONE := Lib.hid (fun h : ceilD (high * high) D ≤ 2 ^ (D + 1) => HI.out.none (HNP.out (i + 1)) h)
            have HFEW := Lib.hid (fun (h1 : low * low / 2 ^ D < 2 ^ (D + 1)) (h2 : 2 ^ (D + 1) < ceilD (high * high) D) => HI.out.few (HNP.out (i + 1)) h1 h2)
            rw [HT2.out] at HONE HNONE HFEW
            obtain ⟨lo2, hlo2⟩ : ∃ x, low * low / 2 ^ D = x := ⟨_, rfl⟩
            obtain ⟨hi2, hhi2⟩ : ∃ x, ceilD (high * high) D = x := ⟨_, rfl⟩
            rw [hlo2] at HDW HDW1 HC1 HONE HNONE HFEW
            rw [hhi2] at HHF HHF1 HC2 HONE HNONE HFEW
            clear hwl hlo2 hhi2 hbb
            go_wp2_with fail
            let FS : List Kept1 := [.n (low), .n (low), .n (low * low), .eq (.int .i64 (D : Nat)), .n (lo2), .n (high), .n (high), .n (high * high), .eq (.int .i64 (D : Nat)), .n (hi2), .any, .any]
            let BS : List Bx := [Bx.nat (.inr (g9)) 10 #[(.slice PL (wl 64 low) cL)] (lo2), Bx.nat (.inr (g11)) 11 #[(.slice PH (wl 64 high) cH)] (hi2)]
            refine region_mono (Held wr (fun j => FS.getD j .any) BS) (by kernel_rfl) (by kernel_rfl) (by kernel_rfl) (Held.start _ _ _ (by simp [BS, Bx.nat, Bx.rat, Bx.ref] <;> exact ⟨E9.out, E11.out⟩) (by simp [BS, Bx.nat, Bx.rat, Bx.ref] <;> omega)) ?_
            refine Steps.held ?_ ?_
            · intro L v w' hJ
              have kb := hJ.out.yet 0 _ rfl (g9) rfl (by kernel_rfl)
              have k0 : w'.cell? ⟨g9, 0, none⟩ = some (.slice PL (wl 64 low) cL) := kb.cell 0
              clear kb
              go_wp2_with fail
              exact ⟨rfl, rfl, hJ.out.same (by rfl) (NL.out.keep hJ.out.held.keep)⟩
            simp only [Act.put, List.setIfInBounds_toArray, List.set_cons_zero, List.set_cons_succ, Nat.reduceAdd]
            refine Steps.held ?_ ?_
            · intro L v w' hJ
              have kb := hJ.out.yet 0 _ rfl (g9) rfl (by kernel_rfl)
              have k0 : w'.cell? ⟨g9, 0, none⟩ = some (.slice PL (wl 64 low) cL) := kb.cell 0
              clear kb
              go_wp2_with fail
              exact ⟨rfl, rfl, hJ.out.same (by rfl) (NL.out.keep hJ.out.held.keep)⟩
            simp only [Act.put, List.setIfInBounds_toArray, List.set_cons_zero, List.set_cons_succ, Nat.reduceAdd]
            refine Steps.held ?_ ?_
            · intro L v w' hJ
              have X0 := Lib.hid (show N64 w' (v 0) (low) from hJ.out.fact 0 (by kernel_rfl))
              have X1 := Lib.hid (show N64 w' (v 1) (low) from hJ.out.fact 1 (by kernel_rfl))
              go_wp2_with fail
              with_reducible refine (HM1.out _ _ _ X0.out X1.out).mono ?_
              rintro e w1 ⟨u, rfl, hu, hb⟩
              go_wp2_with fail
              exact ⟨rfl, rfl, hJ.out.call (by rfl) hb (hu)⟩
            simp only [Act.put, List.setIfInBounds_toArray, List.set_cons_zero, List.set_cons_succ, Nat.reduceAdd]
            refine Steps.held ?_ ?_
            · intro L v w' hJ
              go_wp2_with fail
              exact ⟨rfl, rfl, hJ.out.same (by rfl) (rfl)⟩
            simp only [Act.put, List.setIfInBounds_toArray, List.set_cons_zero, List.set_cons_succ, Nat.reduceAdd]
            refine Steps.held ?_ ?_
            · intro L v w' hJ
              have hv3 : v 3 = .int .i64 (D : Nat) := hJ.out.fact 3 (by kernel_rfl)
              simp only [hv3]
              clear hv3
              have X0 := Lib.hid (show N64 w' (v 2) (low * low) from hJ.out.fact 2 (by kernel_rfl))
              go_wp2_with fail
              with_reducible refine (HDW.out _ _ X0.out).mono ?_
              rintro e w1 ⟨u, rfl, hu, hb⟩
              go_wp2_with fail
              exact ⟨rfl, rfl, hJ.out.call (by rfl) hb (hu)⟩
            simp only [Act.put, List.setIfInBounds_toArray, List.set_cons_zero, List.set_cons_succ, Nat.reduceAdd]
            refine Steps.held ?_ ?_
            · intro L v w' hJ
              have kb := hJ.out.yet 1 _ rfl (g11) rfl (by kernel_rfl)
              have k0 : w'.cell? ⟨g11, 0, none⟩ = some (.slice PH (wl 64 high) cH) := kb.cell 0
              clear kb
              go_wp2_with fail
              exact ⟨rfl, rfl, hJ.out.same (by rfl) (NH.out.keep hJ.out.held.keep)⟩
            simp only [Act.put, List.setIfInBounds_toArray, List.set_cons_zero, List.set_cons_succ, Nat.reduceAdd]
            refine Steps.held ?_ ?_
            · intro L v w' hJ
              have kb := hJ.out.yet 1 _ rfl (g11) rfl (by kernel_rfl)
              have k0 : w'.cell? ⟨g11, 0, none⟩ = some (.slice PH (wl 64 high) cH) := kb.cell 0
              clear kb
              go_wp2_with fail
              exact ⟨rfl, rfl, hJ.out.same (by rfl) (NH.out.keep hJ.out.held.keep)⟩
            simp only [Act.put, List.setIfInBounds_toArray, List.set_cons_zero, List.set_cons_succ, Nat.reduceAdd]
            refine Steps.held ?_ ?_
            · intro L v w' hJ
              have X0 := Lib.hid (show N64 w' (v 5) (high) from hJ.out.fact 5 (by kernel_rfl))
              have X1 := Lib.hid (show N64 w' (v 6) (high) from hJ.out.fact 6 (by kernel_rfl))
              go_wp2_with fail
              with_reducible refine (HM2.out _ _ _ X0.out X1.out).mono ?_
              rintro e w1 ⟨u, rfl, hu, hb⟩
              go_wp2_with fail
              exact ⟨rfl, rfl, hJ.out.call (by rfl) hb (hu)⟩
            simp only [Act.put, List.setIfInBounds_toArray, List.set_cons_zero, List.set_cons_succ, Nat.reduceAdd]
            refine Steps.held ?_ ?_
            · intro L v w' hJ
              go_wp2_with fail
              exact ⟨rfl, rfl, hJ.out.same (by rfl) (rfl)⟩
            simp only [Act.put, List.setIfInBounds_toArray, List.set_cons_zero, List.set_cons_succ, Nat.reduceAdd]
            refine Steps.held ?_ ?_
            · intro L v w' hJ
              have hv8 : v 8 = .int .i64 (D : Nat) := hJ.out.fact 8 (by kernel_rfl)
              simp only [hv8]
              clear hv8
              have X0 := Lib.hid (show N64 w' (v 7) (high * high) from hJ.out.fact 7 (by kernel_rfl))
              go_wp2_with fail
              with_reducible refine (HHF.out _ _ X0.out).mono ?_
              rintro e w1 ⟨u, rfl, hu, hb⟩
              go_wp2_with fail
              exact ⟨rfl, rfl, hJ.out.call (by rfl) hb (hu)⟩
            simp only [Act.put, List.setIfInBounds_toArray, List.set_cons_zero, List.set_cons_succ, Nat.reduceAdd]
            refine Steps.held ?_ ?_
            · intro L v w' hJ
              obtain ⟨hown, hst⟩ := hJ.out.oldbox 0 _ rfl (g9) rfl
              have hN : N64 w' (v 4) (lo2) := hJ.out.fact 4 (by kernel_rfl)
              obtain ⟨P, c, hv, h1, h2, h3⟩ := hN
              have HN := Lib.hid (show N64 w' (.agg #[.slice P (wl 64 (lo2)) c]) (lo2) from ⟨P, c, rfl, h1, h2, h3⟩)
              have kb := hJ.out.box 0 _ rfl rfl (g9) hown
              have k0 : w'.cell? ⟨(g9), 0, none⟩ = some ((.slice PL (wl 64 low) cL)) := kb.cell 0
              have f0 := kb.frozen 0
              have HO := Lib.hid hown
              have HS := Lib.hid hst
              clear kb h1 h2 h3 hown hst
              simp only [hv]
              clear hv
              go_wp2_with fail
              exact ⟨rfl, rfl, hJ.out.fill1 0 _ rfl rfl (by rfl) (g9) HO.out HS.out _ rfl rfl (fun W k => ⟨P, c, rfl, HN.out.keep k⟩) (fun _ => trivial)⟩
            simp only [Act.put, List.setIfInBounds_toArray, List.set_cons_zero, List.set_cons_succ, Nat.reduceAdd]
            refine Steps.held ?_ ?_
            · intro L v w' hJ
              obtain ⟨hown, hst⟩ := hJ.out.oldbox 1 _ rfl (g11) rfl
              have hN : N64 w' (v 9) (hi2) := hJ.out.fact 9 (by kernel_rfl)
              obtain ⟨P, c, hv, h1, h2, h3⟩ := hN
              have HN := Lib.hid (show N64 w' (.agg #[.slice P (wl 64 (hi2)) c]) (hi2) from ⟨P, c, rfl, h1, h2, h3⟩)
              have kb := hJ.out.box 1 _ rfl rfl (g11) hown
              have k0 : w'.cell? ⟨(g11), 0, none⟩ = some ((.slice PH (wl 64 high) cH)) := kb.cell 0
              have f0 := kb.frozen 0
              have HO := Lib.hid hown
              have HS := Lib.hid hst
              clear kb h1 h2 h3 hown hst
              simp only [hv]
              clear hv
              go_wp2_with fail
              exact ⟨rfl, rfl, hJ.out.fill1 1 _ rfl rfl (by rfl) (g11) HO.out HS.out _ rfl rfl (fun W k => ⟨P, c, rfl, HN.out.keep k⟩) (fun _ => trivial)⟩
            simp only [Act.put, List.setIfInBounds_toArray, List.set_cons_zero, List.set_cons_succ, Nat.reduceAdd]
            refine Steps.nil ?_
            intro v w' hJ
            obtain ⟨cs, hblk, hf⟩ := hJ.end_old 0 _ rfl g9 rfl (Nat.le_of_ble_eq_true rfl)
            obtain ⟨PL2, cPL2, rfl, hNL⟩ := hf
            obtain ⟨cs, hblk2, hf⟩ := hJ.end_old 1 _ rfl g11 rfl (Nat.le_of_ble_eq_true rfl)
            obtain ⟨PH2, cPH2, rfl, hNH⟩ := hf
            obtain ⟨PT, cT, hT, hTn⟩ := BT.out
            have hng : g12 ∉ oldsOf BS := by simp [oldsOf, BS, Bx.nat, Bx.rat, Bx.ref]; omega
            replace HB := Lib.hid (hJ.but.to_below HB.out HB.out.size (by intro g hg; have h1 := HGE.out; have h2 := HG9.out; simp [oldsOf, BS, Bx.nat, Bx.rat, Bx.ref] at hg; rcases hg with rfl | rfl <;> omega))
            replace BT := Lib.hid (show Box w' g12 T2 from ⟨PT, cT, hJ.but.blk hT hng, hTn.keep hJ.keep⟩)
            replace E9 := Lib.hid (show Blk w' g9 26 #[.slice PL2 (wl 64 (lo2)) cPL2] from hblk)
            replace E11 := Lib.hid (show Blk w' g11 26 #[.slice PH2 (wl 64 (hi2)) cPH2] from hblk2)
            replace NL := Lib.hid (show N64 w' (.agg #[.slice PL2 (wl 64 (lo2)) cPL2]) (lo2) from hNL)
            replace NH := Lib.hid (show N64 w' (.agg #[.slice PH2 (wl 64 (hi2)) cPH2]) (hi2) from hNH)
            clear hJ hblk hblk2 hNL hNH hT hTn hng
            clear BS FS
            obtain ⟨PT, cT, hT, hTn⟩ := BT.out
            have k9 := E9.out.cell 0
            have k12 := hT.cell 0
            go_wp2_with fail
            with_reducible refine (HC1.out _ _ _ NL.out hTn).mono ?_
            rintro _ w6 ⟨rfl, hb⟩
            clear hT hTn k9 k12
            replace E9 := Lib.hid (blk_below E9.out hb)
            replace E11 := Lib.hid (blk_below E11.out hb)
            replace NL := Lib.hid (NL.out.below hb)
            replace NH := Lib.hid (NH.out.below hb)
            replace BT := Lib.hid (BT.out.below hb)
            replace HB := Lib.hid (cbt HB.out hb)
            clear hb
            by_cases hge : T2 ≤ lo2
            · have dge : decide (0 ≤ cmpN lo2 T2) = true := decide_eq_true (cmpN_ge hge)
              go_wp2_with fail
              let FS : List Kept1 := [.n (lo2), .n (lo2 / 2 ^ 1), .n (hi2), .n (ceilD hi2 1), .any, .any]
              let BS : List Bx := [Bx.nat (.inr (g9)) 4 #[(.slice PL2 (wl 64 lo2) cPL2)] (lo2 / 2 ^ 1), Bx.nat (.inr (g11)) 5 #[(.slice PH2 (wl 64 hi2) cPH2)] (ceilD hi2 1)]
              refine region_mono (Held w6 (fun j => FS.getD j .any) BS) (by kernel_rfl) (by kernel_rfl) (by kernel_rfl) (Held.start _ _ _ (by simp [BS, Bx.nat, Bx.rat, Bx.ref] <;> exact ⟨E9.out, E11.out⟩) (by simp [BS, Bx.nat, Bx.rat, Bx.ref] <;> omega)) ?_
              refine Steps.held ?_ ?_
              · intro L v w' hJ
                have kb := hJ.out.yet 0 _ rfl (g9) rfl (by kernel_rfl)
                have k0 : w'.cell? ⟨g9, 0, none⟩ = some (.slice PL2 (wl 64 lo2) cPL2) := kb.cell 0
                clear kb
                go_wp2_with fail
                exact ⟨rfl, rfl, hJ.out.same (by rfl) (NL.out.keep hJ.out.held.keep)⟩
              simp only [Act.put, List.setIfInBounds_toArray, List.set_cons_zero, List.set_cons_succ, Nat.reduceAdd]
              refine Steps.held ?_ ?_
              · intro L v w' hJ
                have X0 := Lib.hid (show N64 w' (v 0) (lo2) from hJ.out.fact 0 (by kernel_rfl))
                go_wp2_with fail
                with_reducible refine (HDW1.out _ _ X0.out).mono ?_
                rintro e w1 ⟨u, rfl, hu, hb⟩
                go_wp2_with fail
                exact ⟨rfl, rfl, hJ.out.call (by rfl) hb (hu)⟩
              simp only [Act.put, List.setIfInBounds_toArray, List.set_cons_zero, List.set_cons_succ, Nat.reduceAdd]
              refine Steps.held ?_ ?_
              · intro L v w' hJ
                have kb := hJ.out.yet 1 _ rfl (g11) rfl (by kernel_rfl)
                have k0 : w'.cell? ⟨g11, 0, none⟩ = some (.slice PH2 (wl 64 hi2) cPH2) := kb.cell 0
                clear kb
                go_wp2_with fail
                exact ⟨rfl, rfl, hJ.out.same (by rfl) (NH.out.keep hJ.out.held.keep)⟩
              simp only [Act.put, List.setIfInBounds_toArray, List.set_cons_zero, List.set_cons_succ, Nat.reduceAdd]
              refine Steps.held ?_ ?_
              · intro L v w' hJ
                have X0 := Lib.hid (show N64 w' (v 2) (hi2) from hJ.out.fact 2 (by kernel_rfl))
                go_wp2_with fail
                with_reducible refine (HHF1.out _ _ X0.out).mono ?_
                rintro e w1 ⟨u, rfl, hu, hb⟩
                go_wp2_with fail
                exact ⟨rfl, rfl, hJ.out.call (by rfl) hb (hu)⟩
              simp only [Act.put, List.setIfInBounds_toArray, List.set_cons_zero, List.set_cons_succ, Nat.reduceAdd]
              refine Steps.held ?_ ?_
              · intro L v w' hJ
                obtain ⟨hown, hst⟩ := hJ.out.oldbox 0 _ rfl (g9) rfl
                have hN : N64 w' (v 1) (lo2 / 2 ^ 1) := hJ.out.fact 1 (by kernel_rfl)
                obtain ⟨P, c, hv, h1, h2, h3⟩ := hN
                have HN := Lib.hid (show N64 w' (.agg #[.slice P (wl 64 (lo2 / 2 ^ 1)) c]) (lo2 / 2 ^ 1) from ⟨P, c, rfl, h1, h2, h3⟩)
                have kb := hJ.out.box 0 _ rfl rfl (g9) hown
                have k0 : w'.cell? ⟨(g9), 0, none⟩ = some ((.slice PL2 (wl 64 lo2) cPL2)) := kb.cell 0
                have f0 := kb.frozen 0
                have HO := Lib.hid hown
                have HS := Lib.hid hst
                clear kb h1 h2 h3 hown hst
                simp only [hv]
                clear hv
                go_wp2_with fail
                exact ⟨rfl, rfl, hJ.out.fill1 0 _ rfl rfl (by rfl) (g9) HO.out HS.out _ rfl rfl (fun W k => ⟨P, c, rfl, HN.out.keep k⟩) (fun _ => trivial)⟩
              simp only [Act.put, List.setIfInBounds_toArray, List.set_cons_zero, List.set_cons_succ, Nat.reduceAdd]
              refine Steps.held ?_ ?_
              · intro L v w' hJ
                obtain ⟨hown, hst⟩ := hJ.out.oldbox 1 _ rfl (g11) rfl
                have hN : N64 w' (v 3) (ceilD hi2 1) := hJ.out.fact 3 (by kernel_rfl)
                obtain ⟨P, c, hv, h1, h2, h3⟩ := hN
                have HN := Lib.hid (show N64 w' (.agg #[.slice P (wl 64 (ceilD hi2 1)) c]) (ceilD hi2 1) from ⟨P, c, rfl, h1, h2, h3⟩)
                have kb := hJ.out.box 1 _ rfl rfl (g11) hown
                have k0 : w'.cell? ⟨(g11), 0, none⟩ = some ((.slice PH2 (wl 64 hi2) cPH2)) := kb.cell 0
                have f0 := kb.frozen 0
                have HO := Lib.hid hown
                have HS := Lib.hid hst
                clear kb h1 h2 h3 hown hst
                simp only [hv]
                clear hv
                go_wp2_with fail
                exact ⟨rfl, rfl, hJ.out.fill1 1 _ rfl rfl (by rfl) (g11) HO.out HS.out _ rfl rfl (fun W k => ⟨P, c, rfl, HN.out.keep k⟩) (fun _ => trivial)⟩
              simp only [Act.put, List.setIfInBounds_toArray, List.set_cons_zero, List.set_cons_succ, Nat.reduceAdd]
              refine Steps.nil ?_
              intro v w' hJ
              obtain ⟨cs, hblk, hf⟩ := hJ.end_old 0 _ rfl g9 rfl (Nat.le_of_ble_eq_true rfl)
              obtain ⟨PL3, cPL3, rfl, hNL⟩ := hf
              obtain ⟨cs, hblk2, hf⟩ := hJ.end_old 1 _ rfl g11 rfl (Nat.le_of_ble_eq_true rfl)
              obtain ⟨PH3, cPH3, rfl, hNH⟩ := hf
              obtain ⟨PT, cT, hT, hTn⟩ := BT.out
              have hng : g12 ∉ oldsOf BS := by simp [oldsOf, BS, Bx.nat, Bx.rat, Bx.ref]; omega
              replace HB := Lib.hid (hJ.but.to_below HB.out HB.out.size (by intro g hg; have h1 := HGE.out; have h2 := HG9.out; simp [oldsOf, BS, Bx.nat, Bx.rat, Bx.ref] at hg; rcases hg with rfl | rfl <;> omega))
              replace BT := Lib.hid (show Box w' g12 T2 from ⟨PT, cT, hJ.but.blk hT hng, hTn.keep hJ.keep⟩)
              replace E9 := Lib.hid (show Blk w' g9 26 #[.slice PL3 (wl 64 (lo2 / 2 ^ 1)) cPL3] from hblk)
              replace E11 := Lib.hid (show Blk w' g11 26 #[.slice PH3 (wl 64 (ceilD hi2 1)) cPH3] from hblk2)
              replace NL := Lib.hid (show N64 w' (.agg #[.slice PL3 (wl 64 (lo2 / 2 ^ 1)) cPL3]) (lo2 / 2 ^ 1) from hNL)
              replace NH := Lib.hid (show N64 w' (.agg #[.slice PH3 (wl 64 (ceilD hi2 1)) cPH3]) (ceilD hi2 1) from hNH)
              clear hJ hblk hblk2 hNL hNH hT hTn hng
              clear BS FS
              have HI2 := Lib.hid (HONE.out hge)
              go_wp2_with fail
              exact ⟨⟨i + 1, _, _, _, _, _, Nat.succ_le_of_lt hlt, congrArg (Value.int .i64) hw3, congrArg (Value.int .i64) (two_out1 out), HI2, Lib.hid ⟨_, _, E9.out, NL.out⟩, Lib.hid ⟨_, _, E11.out, NH.out⟩, BT, HB⟩, by rw [hw3]; exact less_i hlt⟩
            · have dge : decide (0 ≤ cmpN lo2 T2) = false := by rw [cmpN_lt (Nat.lt_of_not_le hge)]; rfl
              obtain ⟨PT, cT, hT, hTn⟩ := BT.out
              have k11 := E11.out.cell 0
              have k12 := hT.cell 0
              go_wp2_with fail
              with_reducible refine (HC2.out _ _ _ NH.out hTn).mono ?_
              rintro _ w7 ⟨rfl, hb⟩
              clear hT hTn k11 k12
              replace E9 := Lib.hid (blk_below E9.out hb)
              replace E11 := Lib.hid (blk_below E11.out hb)
              replace NL := Lib.hid (NL.out.below hb)
              replace NH := Lib.hid (NH.out.below hb)
              replace BT := Lib.hid (BT.out.below hb)
              replace HB := Lib.hid (cbt HB.out hb)
              clear hb
              by_cases hgt : T2 < hi2
              · have dgt : decide (0 < cmpN hi2 T2) = true := by rw [cmpN_gt hgt]; rfl
                have hf := HFEW.out (Nat.lt_of_not_le hge) hgt
                have hw5 := wrap_D hD hDM2
                have HN2 := Lib.hid (cbt hBr.out HB.out)
                have hD2 := few_D hf hlt HBB.out HDM.out
                have hD3 := hD1.out
                clear hf
                go_wp2_with fail
                exact ⟨⟨2 * D, congrArg (Value.int .i64) (two_D D), hD2, Lib.hid (two_pos_D hD3), HN2⟩, less_D hD3 hD2⟩
              · have dgt : decide (0 < cmpN hi2 T2) = false := by
                  rcases Nat.lt_or_eq_of_le (Nat.le_of_not_lt hgt) with h | h
                  · rw [cmpN_lt h]; rfl
                  · rw [h, cmpN_self]; rfl
                have HI2 := Lib.hid (HNONE.out (Nat.le_of_not_lt hgt))
                go_wp2_with fail
                exact ⟨⟨i + 1, _, _, _, _, _, Nat.succ_le_of_lt hlt, congrArg (Value.int .i64) hw3, congrArg (Value.int .i64) (Int.mul_comm out 2), HI2, Lib.hid ⟨_, _, E9.out, NL.out⟩, Lib.hid ⟨_, _, E11.out, NH.out⟩, BT, HB⟩, by rw [hw3]; exact less_i hlt⟩
          · have hie : i = b := by omega
            subst hie
            have dlt : decide ((i : Int) < (i : Int)) = false := decide_eq_false (by omega)
            have HW := Lib.hid (HI.out.e.w HI.out.pos HI.out.le HI.out.lt (pw_pos HD0.out i))
            have HEND := Lib.hid (cbt HB0.out (cbt hBr.out HB.out))
            go_wp2_with fail
            rw [Exit.noGoto_ret]
            exact bodyPost_ret (v := .tuple #[.int .i64 out, .int .i64 0]) (by simp [results, Try.results37, go_sem]) rfl ⟨out, rfl, HW.out, HEND.out⟩
      · rw [if_neg hrem] at HST
        rw [decide_eq_false hrem] at HSD
        have hlw := HST.out.top
        have hlw2 := wl_bits (Nat.lt_of_le_of_lt (Nat.le_trans (Nat.le_succ low0) hlw) (Nat.pow_lt_pow_right (a := 2) (by decide) (Nat.lt_succ_self (D + 1))))
        have HAD := Lib.hid (fun va vb W h1 h2 => nadd_any va vb low0 1 W h1 h2 (by omega) (by omega))
        clear hlw hlw2
        clear hrem
        have HB1 := Lib.hid (Below.refl wo.heap.size wo)
        go_wp2_with fail
        refine HSD.out.mono ?_
        rintro _ w2 ⟨u9, rfl, hu, hb⟩
        have N9 := Lib.hid hu
        replace HB1 := Lib.hid (cbt HB1.out hb)
        clear hu hb k00 k01 HSD
        have hg9 := HB1.out.size
        have Z0 := N9.out
        obtain ⟨PT0, cpT0, rfl, _, _, _⟩ := Z0
        have e9 := Blk.new w2 26 #[.slice PT0 (wl 64 (low0)) cpT0]
        have hb := cba (Below.refl _ w2) (.cells #[.slice PT0 (wl 64 (low0)) cpT0] 26)
        go_upto_region 11 with (fail)
        obtain ⟨T, hS⟩ : ∃ S, (w2.alloc (.cells #[.slice PT0 (wl 64 (low0)) cpT0] 26)) = S := ⟨_, rfl⟩
        rw [hS] at e9 hb ⊢
        obtain ⟨g9, hg⟩ : ∃ g, w2.heap.size = g := ⟨_, rfl⟩
        rw [hg] at e9 hg9
        simp only [hg]
        replace N9 := Lib.hid (N9.out.below hb)
        replace HB1 := Lib.hid (cbt HB1.out hb)
        have E9 := Lib.hid e9
        clear hS hg hb e9
        have HG9 := Lib.hid hg9
        clear hg9
        have k9 := E9.out.cell 0
        have N11 := N9
        have e11 := Blk.new T 26 #[.slice PT0 (wl 64 low0) cpT0]
        have hb := cba (Below.refl _ T) (.cells #[.slice PT0 (wl 64 low0) cpT0] 26)
        have h911 : g9 < T.heap.size := E9.out.lt
        have hge9 : wo.heap.size ≤ g9 := HG9.out
        have hge := HB1.out.size
        go_upto_region 12 with (fail)
        obtain ⟨U, hU⟩ : ∃ S, T.alloc (.cells #[.slice PT0 (wl 64 low0) cpT0] 26) = S := ⟨_, rfl⟩
        rw [hU] at e11 hb ⊢
        obtain ⟨g11, hg⟩ : ∃ g, T.heap.size = g := ⟨_, rfl⟩
        rw [hg] at e11 h911 hge
        simp only [hg]
        replace N9 := Lib.hid (N9.out.below hb)
        replace N11 := Lib.hid (N11.out.below hb)
        replace E9 := Lib.hid (blk_below E9.out hb)
        replace HB1 := Lib.hid (cbt HB1.out hb)
        have E11 := Lib.hid e11
        have HGE := Lib.hid hge
        clear hge hge9
        clear hU hg hb e11 k9
        go_wp2_with fail
        let FS : List Kept1 := [.n (low0), .n (1), .n (low0 + 1), .any]
        let BS : List Bx := [Bx.nat (.inr (g11)) 3 #[(.slice PT0 (wl 64 low0) cpT0)] (low0 + 1)]
        refine region_mono (Held U (fun j => FS.getD j .any) BS) (by kernel_rfl) (by kernel_rfl) (by kernel_rfl) (Held.start _ _ _ (by simp [BS, Bx.nat, Bx.rat, Bx.ref] <;> exact E11.out) (by simp [BS, Bx.nat, Bx.rat, Bx.ref])) ?_
        refine Steps.held ?_ ?_
        · intro L v w' hJ
          have kb := hJ.out.blk E9.out (by simp [oldsOf, BS, Bx.nat, Bx.rat, Bx.ref] <;> omega)
          have k0 := kb.cell 0
          clear kb
          go_wp2_with fail
          exact ⟨rfl, rfl, hJ.out.same (by rfl) (N9.out.keep hJ.out.held.keep)⟩
        simp only [Act.put, List.setIfInBounds_toArray, List.set_cons_zero, List.set_cons_succ, Nat.reduceAdd]
        refine Steps.held ?_ ?_
        · intro L v w' hJ
          go_wp2_with fail
          with_reducible refine (HON.out _).mono ?_
          rintro e w1 ⟨u, rfl, hu, hb⟩
          go_wp2_with fail
          exact ⟨rfl, rfl, hJ.out.call (by rfl) hb (hu)⟩
        simp only [Act.put, List.setIfInBounds_toArray, List.set_cons_zero, List.set_cons_succ, Nat.reduceAdd]
        refine Steps.held ?_ ?_
        · intro L v w' hJ
          have X0 := Lib.hid (show N64 w' (v 0) (low0) from hJ.out.fact 0 (by kernel_rfl))
          have X1 := Lib.hid (show N64 w' (v 1) (1) from hJ.out.fact 1 (by kernel_rfl))
          go_wp2_with fail
          with_reducible refine (HAD.out _ _ _ X0.out X1.out).mono ?_
          rintro e w1 ⟨u, rfl, hu, hb⟩
          go_wp2_with fail
          exact ⟨rfl, rfl, hJ.out.call (by rfl) hb (hu)⟩
        simp only [Act.put, List.setIfInBounds_toArray, List.set_cons_zero, List.set_cons_succ, Nat.reduceAdd]
        refine Steps.held ?_ ?_
        · intro L v w' hJ
          obtain ⟨hown, hst⟩ := hJ.out.oldbox 0 _ rfl (g11) rfl
          have hN : N64 w' (v 2) (low0 + 1) := hJ.out.fact 2 (by kernel_rfl)
          obtain ⟨P, c, hv, h1, h2, h3⟩ := hN
          have HN := Lib.hid (show N64 w' (.agg #[.slice P (wl 64 (low0 + 1)) c]) (low0 + 1) from ⟨P, c, rfl, h1, h2, h3⟩)
          have kb := hJ.out.box 0 _ rfl rfl (g11) hown
          have k0 : w'.cell? ⟨(g11), 0, none⟩ = some ((.slice PT0 (wl 64 low0) cpT0)) := kb.cell 0
          have f0 := kb.frozen 0
          have HO := Lib.hid hown
          have HS := Lib.hid hst
          clear kb h1 h2 h3 hown hst
          simp only [hv]
          clear hv
          go_wp2_with fail
          exact ⟨rfl, rfl, hJ.out.fill1 0 _ rfl rfl (by rfl) (g11) HO.out HS.out _ rfl rfl (fun W k => ⟨P, c, rfl, HN.out.keep k⟩) (fun _ => trivial)⟩
        simp only [Act.put, List.setIfInBounds_toArray, List.set_cons_zero, List.set_cons_succ, Nat.reduceAdd]
        refine Steps.nil ?_
        intro v w' hJ
        obtain ⟨cs, hblk, hf⟩ := hJ.end_old 0 _ rfl g11 rfl (Nat.le_of_ble_eq_true rfl)
        obtain ⟨PH, cH, rfl, hN⟩ := hf
        replace E9 := Lib.hid (hJ.but.blk E9.out (by simp [oldsOf, BS, Bx.nat, Bx.rat, Bx.ref]; omega))
        replace N9 := Lib.hid (N9.out.keep hJ.keep)
        replace N11 := Lib.hid hN
        replace E11 := Lib.hid (show Blk w' g11 26 _ from hblk)
        replace HB1 := Lib.hid (hJ.but.to_below HB1.out HB1.out.size (by intro g hg; simp [oldsOf, BS, Bx.nat, Bx.rat, Bx.ref] at hg; subst hg; have := HGE.out; omega))
        clear hJ hblk hN
        have BHI := Lib.hid (show Box w' g11 (low0 + 1) from ⟨PH, cH, E11.out, N11.out⟩)
        have BLO := Lib.hid (show Box w' g9 low0 from ⟨PT0, cpT0, E9.out, N9.out⟩)
        clear E9 N9 E11 N11
        go_wp2_with fail
        with_reducible refine (HON.out _).mono ?_
        rintro _ w4 ⟨u12, rfl, hu, hb⟩
        replace BLO := Lib.hid (BLO.out.below hb)
        replace BHI := Lib.hid (BHI.out.below hb)
        replace HB1 := Lib.hid (cbt HB1.out hb)
        have N1 := Lib.hid hu
        clear hu hb
        go_wp2_with fail
        with_reducible refine (HTW.out _ _ N1.out).mono ?_
        rintro _ w5 ⟨u13, rfl, hu, hb⟩
        replace BLO := Lib.hid (BLO.out.below hb)
        replace BHI := Lib.hid (BHI.out.below hb)
        replace HB1 := Lib.hid (cbt HB1.out hb)
        have N12 := Lib.hid hu
        clear hu hb N1
        have h1112 : g11 < w5.heap.size := by obtain ⟨_, _, h, _⟩ := BHI.out; exact h.lt
        have Z0 := N12.out
        obtain ⟨PV0, cpV0, rfl, _, _, _⟩ := Z0
        have e12 := Blk.new w5 26 #[.slice PV0 (wl 64 (T2)) cpV0]
        have hb := cba (Below.refl _ w5) (.cells #[.slice PV0 (wl 64 (T2)) cpV0] 26)
        go_upto_region 15 with (fail)
        obtain ⟨V, hS⟩ : ∃ S, (w5.alloc (.cells #[.slice PV0 (wl 64 (T2)) cpV0] 26)) = S := ⟨_, rfl⟩
        rw [hS] at e12 hb ⊢
        obtain ⟨g12, hg⟩ : ∃ g, w5.heap.size = g := ⟨_, rfl⟩
        rw [hg] at e12 h1112
        simp only [hg]
        replace N12 := Lib.hid (N12.out.below hb)
        replace BLO := Lib.hid (BLO.out.below hb)
        replace BHI := Lib.hid (BHI.out.below hb)
        replace HB1 := Lib.hid (cbt HB1.out hb)
        have E12 := Lib.hid e12
        clear hS hg hb e12
        have BT0 := Lib.hid (show Box V g12 T2 from ⟨_, _, E12.out, N12.out⟩)
        clear E12 N12
        have HNP := Lib.hid hNP.out
        clear HSC HTW HON E0r Har HWH HU1 HU2 HCM HNU HDE
        go_wp2_with fail
        go_loopw [13, 64] (fun v13 v64 wx => ∃ (i low high P Q : Nat) (out : Int), i ≤ b ∧ v64 = .int .i64 (i : Nat) ∧ v13 = .int .i64 out ∧ Hid (LogI n d D m i low high out P Q) ∧ Hid (Box wx g9 low) ∧ Hid (Box wx g11 high) ∧ Hid (Box wx g12 T2) ∧ Hid (Below wo.heap.size wo wx)) (fun _ v64 _ => b - (intOf v64).toNat)
        case atStart => exact ⟨0, _, _, P0, Q0, kk, Nat.zero_le b, rfl, rfl, HST, BLO, BHI, BT0, HB1⟩
        case round =>
          obtain ⟨i, low, high, P, Q, out, hib, rfl, rfl, HI, BL, BH, BT, HB⟩ := hrel
          obtain ⟨PL, cL, hk, hn⟩ := BL.out
          have E9 := Lib.hid hk
          have NL := Lib.hid hn
          obtain ⟨PH, cH, hk, hn⟩ := BH.out
          have E11 := Lib.hid hk
          have NH := Lib.hid hn
          clear hk hn BL BH BLO BHI BT0 HST HB1
          have hbb := HBB.out
          have hob := HI.out.bound HN0.out HD0.out HNM.out HDM'.out HMM.out (show i ≤ 12 by omega)
          by_cases hlt : i < b
          · have dlt : decide ((i : Int) < (b : Int)) = true := decide_eq_true (by omega)
            have hwl := HI.out.wls
            have hw2 : wrap64 (out * 2) = 2 * out := by rw [Go.IntWalk.wrap64_in (out * 2) (by omega)]; omega
            have hw3 : wrap64 ((i : Int) + 1) = ((i + 1 : Nat) : Int) := by rw [Go.IntWalk.wrap64_in _ (by omega)]; omega
            have HM1 := Lib.hid (fun va vb W h1 h2 => nmul_any va vb low low W h1 h2 (by omega) (by omega))
            have HM2 := Lib.hid (fun va vb W h1 h2 => nmul_any va vb high high W h1 h2 (by omega) (by omega))
            have HDW := Lib.hid (fun v W h => ndown_any v (low * low) W h (by omega) (D : Int) (by omega))
            rw [Int.toNat_natCast] at HDW
            have HHF := Lib.hid (fun v W h => lhalf_any v (high * high) D W h (by omega) (by omega))
            have HDW1 := Lib.hid (fun v W h => ndown_any v (low * low / 2 ^ D) W h (by omega) 1 (by omega))
            rw [show (1 : Int).toNat = 1 from rfl] at HDW1
            have HHF1 := Lib.hid (fun v W h => lhalf_any v (ceilD (high * high) D) 1 W h (by omega) (by omega))
            rw [show ((1 : Nat) : Int) = 1 from rfl] at HHF1
            have HC1 := Lib.hid (fun va vb W h1 h2 => ncmp_any va vb (low * low / 2 ^ D) T2 W h1 h2)
            have HC2 := Lib.hid (fun va vb W h1 h2 => ncmp_any va vb (ceilD (high * high) D) T2 W h1 h2)
            have HONE := Lib.hid (fun h : 2 ^ (D + 1) ≤ low * low / 2 ^ D => HI.out.one h)
            have HNONE := Lib.hid (fun h : ceilD (high * high) D ≤ 2 ^ (D + 1) => HI.out.none (HNP.out (i + 1)) h)
            have HFEW := Lib.hid (fun (h1 : low * low / 2 ^ D < 2 ^ (D + 1)) (h2 : 2 ^ (D + 1) < ceilD (high * high) D) => HI.out.few (HNP.out (i + 1)) h1 h2)
            rw [HT2.out] at HONE HNONE HFEW
            obtain ⟨lo2, hlo2⟩ : ∃ x, low * low / 2 ^ D = x := ⟨_, rfl⟩
            obtain ⟨hi2, hhi2⟩ : ∃ x, ceilD (high * high) D = x := ⟨_, rfl⟩
            rw [hlo2] at HDW HDW1 HC1 HONE HNONE HFEW
            rw [hhi2] at HHF HHF1 HC2 HONE HNONE HFEW
            clear hwl hlo2 hhi2 hbb
            go_wp2_with fail
            let FS : List Kept1 := [.n (low), .n (low), .n (low * low), .eq (.int .i64 (D : Nat)), .n (lo2), .n (high), .n (high), .n (high * high), .eq (.int .i64 (D : Nat)), .n (hi2), .any, .any]
            let BS : List Bx := [Bx.nat (.inr (g9)) 10 #[(.slice PL (wl 64 low) cL)] (lo2), Bx.nat (.inr (g11)) 11 #[(.slice PH (wl 64 high) cH)] (hi2)]
            refine region_mono (Held wr (fun j => FS.getD j .any) BS) (by kernel_rfl) (by kernel_rfl) (by kernel_rfl) (Held.start _ _ _ (by simp [BS, Bx.nat, Bx.rat, Bx.ref] <;> exact ⟨E9.out, E11.out⟩) (by simp [BS, Bx.nat, Bx.rat, Bx.ref] <;> omega)) ?_
            refine Steps.held ?_ ?_
            · intro L v w' hJ
              have kb := hJ.out.yet 0 _ rfl (g9) rfl (by kernel_rfl)
              have k0 : w'.cell? ⟨g9, 0, none⟩ = some (.slice PL (wl 64 low) cL) := kb.cell 0
              clear kb
              go_wp2_with fail
              exact ⟨rfl, rfl, hJ.out.same (by rfl) (NL.out.keep hJ.out.held.keep)⟩
            simp only [Act.put, List.setIfInBounds_toArray, List.set_cons_zero, List.set_cons_succ, Nat.reduceAdd]
            refine Steps.held ?_ ?_
            · intro L v w' hJ
              have kb := hJ.out.yet 0 _ rfl (g9) rfl (by kernel_rfl)
              have k0 : w'.cell? ⟨g9, 0, none⟩ = some (.slice PL (wl 64 low) cL) := kb.cell 0
              clear kb
              go_wp2_with fail
              exact ⟨rfl, rfl, hJ.out.same (by rfl) (NL.out.keep hJ.out.held.keep)⟩
            simp only [Act.put, List.setIfInBounds_toArray, List.set_cons_zero, List.set_cons_succ, Nat.reduceAdd]
            refine Steps.held ?_ ?_
            · intro L v w' hJ
              have X0 := Lib.hid (show N64 w' (v 0) (low) from hJ.out.fact 0 (by kernel_rfl))
              have X1 := Lib.hid (show N64 w' (v 1) (low) from hJ.out.fact 1 (by kernel_rfl))
              go_wp2_with fail
              with_reducible refine (HM1.out _ _ _ X0.out X1.out).mono ?_
              rintro e w1 ⟨u, rfl, hu, hb⟩
              go_wp2_with fail
              exact ⟨rfl, rfl, hJ.out.call (by rfl) hb (hu)⟩
            simp only [Act.put, List.setIfInBounds_toArray, List.set_cons_zero, List.set_cons_succ, Nat.reduceAdd]
            refine Steps.held ?_ ?_
            · intro L v w' hJ
              go_wp2_with fail
              exact ⟨rfl, rfl, hJ.out.same (by rfl) (rfl)⟩
            simp only [Act.put, List.setIfInBounds_toArray, List.set_cons_zero, List.set_cons_succ, Nat.reduceAdd]
            refine Steps.held ?_ ?_
            · intro L v w' hJ
              have hv3 : v 3 = .int .i64 (D : Nat) := hJ.out.fact 3 (by kernel_rfl)
              simp only [hv3]
              clear hv3
              have X0 := Lib.hid (show N64 w' (v 2) (low * low) from hJ.out.fact 2 (by kernel_rfl))
              go_wp2_with fail
              with_reducible refine (HDW.out _ _ X0.out).mono ?_
              rintro e w1 ⟨u, rfl, hu, hb⟩
              go_wp2_with fail
              exact ⟨rfl, rfl, hJ.out.call (by rfl) hb (hu)⟩
            simp only [Act.put, List.setIfInBounds_toArray, List.set_cons_zero, List.set_cons_succ, Nat.reduceAdd]
            refine Steps.held ?_ ?_
            · intro L v w' hJ
              have kb := hJ.out.yet 1 _ rfl (g11) rfl (by kernel_rfl)
              have k0 : w'.cell? ⟨g11, 0, none⟩ = some (.slice PH (wl 64 high) cH) := kb.cell 0
              clear kb
              go_wp2_with fail
              exact ⟨rfl, rfl, hJ.out.same (by rfl) (NH.out.keep hJ.out.held.keep)⟩
            simp only [Act.put, List.setIfInBounds_toArray, List.set_cons_zero, List.set_cons_succ, Nat.reduceAdd]
            refine Steps.held ?_ ?_
            · intro L v w' hJ
              have kb := hJ.out.yet 1 _ rfl (g11) rfl (by kernel_rfl)
              have k0 : w'.cell? ⟨g11, 0, none⟩ = some (.slice PH (wl 64 high) cH) := kb.cell 0
              clear kb
              go_wp2_with fail
              exact ⟨rfl, rfl, hJ.out.same (by rfl) (NH.out.keep hJ.out.held.keep)⟩
            simp only [Act.put, List.setIfInBounds_toArray, List.set_cons_zero, List.set_cons_succ, Nat.reduceAdd]
            refine Steps.held ?_ ?_
            · intro L v w' hJ
              have X0 := Lib.hid (show N64 w' (v 5) (high) from hJ.out.fact 5 (by kernel_rfl))
              have X1 := Lib.hid (show N64 w' (v 6) (high) from hJ.out.fact 6 (by kernel_rfl))
              go_wp2_with fail
              with_reducible refine (HM2.out _ _ _ X0.out X1.out).mono ?_
              rintro e w1 ⟨u, rfl, hu, hb⟩
              go_wp2_with fail
              exact ⟨rfl, rfl, hJ.out.call (by rfl) hb (hu)⟩
            simp only [Act.put, List.setIfInBounds_toArray, List.set_cons_zero, List.set_cons_succ, Nat.reduceAdd]
            refine Steps.held ?_ ?_
            · intro L v w' hJ
              go_wp2_with fail
              exact ⟨rfl, rfl, hJ.out.same (by rfl) (rfl)⟩
            simp only [Act.put, List.setIfInBounds_toArray, List.set_cons_zero, List.set_cons_succ, Nat.reduceAdd]
            refine Steps.held ?_ ?_
            · intro L v w' hJ
              have hv8 : v 8 = .int .i64 (D : Nat) := hJ.out.fact 8 (by kernel_rfl)
              simp only [hv8]
              clear hv8
              have X0 := Lib.hid (show N64 w' (v 7) (high * high) from hJ.out.fact 7 (by kernel_rfl))
              go_wp2_with fail
              with_reducible refine (HHF.out _ _ X0.out).mono ?_
              rintro e w1 ⟨u, rfl, hu, hb⟩
              go_wp2_with fail
              exact ⟨rfl, rfl, hJ.out.call (by rfl) hb (hu)⟩
            simp only [Act.put, List.setIfInBounds_toArray, List.set_cons_zero, List.set_cons_succ, Nat.reduceAdd]
            refine Steps.held ?_ ?_
            · intro L v w' hJ
              obtain ⟨hown, hst⟩ := hJ.out.oldbox 0 _ rfl (g9) rfl
              have hN : N64 w' (v 4) (lo2) := hJ.out.fact 4 (by kernel_rfl)
              obtain ⟨P, c, hv, h1, h2, h3⟩ := hN
              have HN := Lib.hid (show N64 w' (.agg #[.slice P (wl 64 (lo2)) c]) (lo2) from ⟨P, c, rfl, h1, h2, h3⟩)
              have kb := hJ.out.box 0 _ rfl rfl (g9) hown
              have k0 : w'.cell? ⟨(g9), 0, none⟩ = some ((.slice PL (wl 64 low) cL)) := kb.cell 0
              have f0 := kb.frozen 0
              have HO := Lib.hid hown
              have HS := Lib.hid hst
              clear kb h1 h2 h3 hown hst
              simp only [hv]
              clear hv
              go_wp2_with fail
              exact ⟨rfl, rfl, hJ.out.fill1 0 _ rfl rfl (by rfl) (g9) HO.out HS.out _ rfl rfl (fun W k => ⟨P, c, rfl, HN.out.keep k⟩) (fun _ => trivial)⟩
            simp only [Act.put, List.setIfInBounds_toArray, List.set_cons_zero, List.set_cons_succ, Nat.reduceAdd]
            refine Steps.held ?_ ?_
            · intro L v w' hJ
              obtain ⟨hown, hst⟩ := hJ.out.oldbox 1 _ rfl (g11) rfl
              have hN : N64 w' (v 9) (hi2) := hJ.out.fact 9 (by kernel_rfl)
              obtain ⟨P, c, hv, h1, h2, h3⟩ := hN
              have HN := Lib.hid (show N64 w' (.agg #[.slice P (wl 64 (hi2)) c]) (hi2) from ⟨P, c, rfl, h1, h2, h3⟩)
              have kb := hJ.out.box 1 _ rfl rfl (g11) hown
              have k0 : w'.cell? ⟨(g11), 0, none⟩ = some ((.slice PH (wl 64 high) cH)) := kb.cell 0
              have f0 := kb.frozen 0
              have HO := Lib.hid hown
              have HS := Lib.hid hst
              clear kb h1 h2 h3 hown hst
              simp only [hv]
              clear hv
              go_wp2_with fail
              exact ⟨rfl, rfl, hJ.out.fill1 1 _ rfl rfl (by rfl) (g11) HO.out HS.out _ rfl rfl (fun W k => ⟨P, c, rfl, HN.out.keep k⟩) (fun _ => trivial)⟩
            simp only [Act.put, List.setIfInBounds_toArray, List.set_cons_zero, List.set_cons_succ, Nat.reduceAdd]
            refine Steps.nil ?_
            intro v w' hJ
            obtain ⟨cs, hblk, hf⟩ := hJ.end_old 0 _ rfl g9 rfl (Nat.le_of_ble_eq_true rfl)
            obtain ⟨PL2, cPL2, rfl, hNL⟩ := hf
            obtain ⟨cs, hblk2, hf⟩ := hJ.end_old 1 _ rfl g11 rfl (Nat.le_of_ble_eq_true rfl)
            obtain ⟨PH2, cPH2, rfl, hNH⟩ := hf
            obtain ⟨PT, cT, hT, hTn⟩ := BT.out
            have hng : g12 ∉ oldsOf BS := by simp [oldsOf, BS, Bx.nat, Bx.rat, Bx.ref]; omega
            replace HB := Lib.hid (hJ.but.to_below HB.out HB.out.size (by intro g hg; have h1 := HGE.out; have h2 := HG9.out; simp [oldsOf, BS, Bx.nat, Bx.rat, Bx.ref] at hg; rcases hg with rfl | rfl <;> omega))
            replace BT := Lib.hid (show Box w' g12 T2 from ⟨PT, cT, hJ.but.blk hT hng, hTn.keep hJ.keep⟩)
            replace E9 := Lib.hid (show Blk w' g9 26 #[.slice PL2 (wl 64 (lo2)) cPL2] from hblk)
            replace E11 := Lib.hid (show Blk w' g11 26 #[.slice PH2 (wl 64 (hi2)) cPH2] from hblk2)
            replace NL := Lib.hid (show N64 w' (.agg #[.slice PL2 (wl 64 (lo2)) cPL2]) (lo2) from hNL)
            replace NH := Lib.hid (show N64 w' (.agg #[.slice PH2 (wl 64 (hi2)) cPH2]) (hi2) from hNH)
            clear hJ hblk hblk2 hNL hNH hT hTn hng
            clear BS FS
            obtain ⟨PT, cT, hT, hTn⟩ := BT.out
            have k9 := E9.out.cell 0
            have k12 := hT.cell 0
            go_wp2_with fail
            with_reducible refine (HC1.out _ _ _ NL.out hTn).mono ?_
            rintro _ w6 ⟨rfl, hb⟩
            clear hT hTn k9 k12
            replace E9 := Lib.hid (blk_below E9.out hb)
            replace E11 := Lib.hid (blk_below E11.out hb)
            replace NL := Lib.hid (NL.out.below hb)
            replace NH := Lib.hid (NH.out.below hb)
            replace BT := Lib.hid (BT.out.below hb)
            replace HB := Lib.hid (cbt HB.out hb)
            clear hb
            by_cases hge : T2 ≤ lo2
            · have dge : decide (0 ≤ cmpN lo2 T2) = true := decide_eq_true (cmpN_ge hge)
              go_wp2_with fail
              let FS : List Kept1 := [.n (lo2), .n (lo2 / 2 ^ 1), .n (hi2), .n (ceilD hi2 1), .any, .any]
              let BS : List Bx := [Bx.nat (.inr (g9)) 4 #[(.slice PL2 (wl 64 lo2) cPL2)] (lo2 / 2 ^ 1), Bx.nat (.inr (g11)) 5 #[(.slice PH2 (wl 64 hi2) cPH2)] (ceilD hi2 1)]
              refine region_mono (Held w6 (fun j => FS.getD j .any) BS) (by kernel_rfl) (by kernel_rfl) (by kernel_rfl) (Held.start _ _ _ (by simp [BS, Bx.nat, Bx.rat, Bx.ref] <;> exact ⟨E9.out, E11.out⟩) (by simp [BS, Bx.nat, Bx.rat, Bx.ref] <;> omega)) ?_
              refine Steps.held ?_ ?_
              · intro L v w' hJ
                have kb := hJ.out.yet 0 _ rfl (g9) rfl (by kernel_rfl)
                have k0 : w'.cell? ⟨g9, 0, none⟩ = some (.slice PL2 (wl 64 lo2) cPL2) := kb.cell 0
                clear kb
                go_wp2_with fail
                exact ⟨rfl, rfl, hJ.out.same (by rfl) (NL.out.keep hJ.out.held.keep)⟩
              simp only [Act.put, List.setIfInBounds_toArray, List.set_cons_zero, List.set_cons_succ, Nat.reduceAdd]
              refine Steps.held ?_ ?_
              · intro L v w' hJ
                have X0 := Lib.hid (show N64 w' (v 0) (lo2) from hJ.out.fact 0 (by kernel_rfl))
                go_wp2_with fail
                with_reducible refine (HDW1.out _ _ X0.out).mono ?_
                rintro e w1 ⟨u, rfl, hu, hb⟩
                go_wp2_with fail
                exact ⟨rfl, rfl, hJ.out.call (by rfl) hb (hu)⟩
              simp only [Act.put, List.setIfInBounds_toArray, List.set_cons_zero, List.set_cons_succ, Nat.reduceAdd]
              refine Steps.held ?_ ?_
              · intro L v w' hJ
                have kb := hJ.out.yet 1 _ rfl (g11) rfl (by kernel_rfl)
                have k0 : w'.cell? ⟨g11, 0, none⟩ = some (.slice PH2 (wl 64 hi2) cPH2) := kb.cell 0
                clear kb
                go_wp2_with fail
                exact ⟨rfl, rfl, hJ.out.same (by rfl) (NH.out.keep hJ.out.held.keep)⟩
              simp only [Act.put, List.setIfInBounds_toArray, List.set_cons_zero, List.set_cons_succ, Nat.reduceAdd]
              refine Steps.held ?_ ?_
              · intro L v w' hJ
                have X0 := Lib.hid (show N64 w' (v 2) (hi2) from hJ.out.fact 2 (by kernel_rfl))
                go_wp2_with fail
                with_reducible refine (HHF1.out _ _ X0.out).mono ?_
                rintro e w1 ⟨u, rfl, hu, hb⟩
                go_wp2_with fail
                exact ⟨rfl, rfl, hJ.out.call (by rfl) hb (hu)⟩
              simp only [Act.put, List.setIfInBounds_toArray, List.set_cons_zero, List.set_cons_succ, Nat.reduceAdd]
              refine Steps.held ?_ ?_
              · intro L v w' hJ
                obtain ⟨hown, hst⟩ := hJ.out.oldbox 0 _ rfl (g9) rfl
                have hN : N64 w' (v 1) (lo2 / 2 ^ 1) := hJ.out.fact 1 (by kernel_rfl)
                obtain ⟨P, c, hv, h1, h2, h3⟩ := hN
                have HN := Lib.hid (show N64 w' (.agg #[.slice P (wl 64 (lo2 / 2 ^ 1)) c]) (lo2 / 2 ^ 1) from ⟨P, c, rfl, h1, h2, h3⟩)
                have kb := hJ.out.box 0 _ rfl rfl (g9) hown
                have k0 : w'.cell? ⟨(g9), 0, none⟩ = some ((.slice PL2 (wl 64 lo2) cPL2)) := kb.cell 0
                have f0 := kb.frozen 0
                have HO := Lib.hid hown
                have HS := Lib.hid hst
                clear kb h1 h2 h3 hown hst
                simp only [hv]
                clear hv
                go_wp2_with fail
                exact ⟨rfl, rfl, hJ.out.fill1 0 _ rfl rfl (by rfl) (g9) HO.out HS.out _ rfl rfl (fun W k => ⟨P, c, rfl, HN.out.keep k⟩) (fun _ => trivial)⟩
              simp only [Act.put, List.setIfInBounds_toArray, List.set_cons_zero, List.set_cons_succ, Nat.reduceAdd]
              refine Steps.held ?_ ?_
              · intro L v w' hJ
                obtain ⟨hown, hst⟩ := hJ.out.oldbox 1 _ rfl (g11) rfl
                have hN : N64 w' (v 3) (ceilD hi2 1) := hJ.out.fact 3 (by kernel_rfl)
                obtain ⟨P, c, hv, h1, h2, h3⟩ := hN
                have HN := Lib.hid (show N64 w' (.agg #[.slice P (wl 64 (ceilD hi2 1)) c]) (ceilD hi2 1) from ⟨P, c, rfl, h1, h2, h3⟩)
                have kb := hJ.out.box 1 _ rfl rfl (g11) hown
                have k0 : w'.cell? ⟨(g11), 0, none⟩ = some ((.slice PH2 (wl 64 hi2) cPH2)) := kb.cell 0
                have f0 := kb.frozen 0
                have HO := Lib.hid hown
                have HS := Lib.hid hst
                clear kb h1 h2 h3 hown hst
                simp only [hv]
                clear hv
                go_wp2_with fail
                exact ⟨rfl, rfl, hJ.out.fill1 1 _ rfl rfl (by rfl) (g11) HO.out HS.out _ rfl rfl (fun W k => ⟨P, c, rfl, HN.out.keep k⟩) (fun _ => trivial)⟩
              simp only [Act.put, List.setIfInBounds_toArray, List.set_cons_zero, List.set_cons_succ, Nat.reduceAdd]
              refine Steps.nil ?_
              intro v w' hJ
              obtain ⟨cs, hblk, hf⟩ := hJ.end_old 0 _ rfl g9 rfl (Nat.le_of_ble_eq_true rfl)
              obtain ⟨PL3, cPL3, rfl, hNL⟩ := hf
              obtain ⟨cs, hblk2, hf⟩ := hJ.end_old 1 _ rfl g11 rfl (Nat.le_of_ble_eq_true rfl)
              obtain ⟨PH3, cPH3, rfl, hNH⟩ := hf
              obtain ⟨PT, cT, hT, hTn⟩ := BT.out
              have hng : g12 ∉ oldsOf BS := by simp [oldsOf, BS, Bx.nat, Bx.rat, Bx.ref]; omega
              replace HB := Lib.hid (hJ.but.to_below HB.out HB.out.size (by intro g hg; have h1 := HGE.out; have h2 := HG9.out; simp [oldsOf, BS, Bx.nat, Bx.rat, Bx.ref] at hg; rcases hg with rfl | rfl <;> omega))
              replace BT := Lib.hid (show Box w' g12 T2 from ⟨PT, cT, hJ.but.blk hT hng, hTn.keep hJ.keep⟩)
              replace E9 := Lib.hid (show Blk w' g9 26 #[.slice PL3 (wl 64 (lo2 / 2 ^ 1)) cPL3] from hblk)
              replace E11 := Lib.hid (show Blk w' g11 26 #[.slice PH3 (wl 64 (ceilD hi2 1)) cPH3] from hblk2)
              replace NL := Lib.hid (show N64 w' (.agg #[.slice PL3 (wl 64 (lo2 / 2 ^ 1)) cPL3]) (lo2 / 2 ^ 1) from hNL)
              replace NH := Lib.hid (show N64 w' (.agg #[.slice PH3 (wl 64 (ceilD hi2 1)) cPH3]) (ceilD hi2 1) from hNH)
              clear hJ hblk hblk2 hNL hNH hT hTn hng
              clear BS FS
              have HI2 := Lib.hid (HONE.out hge)
              go_wp2_with fail
              exact ⟨⟨i + 1, _, _, _, _, _, Nat.succ_le_of_lt hlt, congrArg (Value.int .i64) hw3, congrArg (Value.int .i64) (two_out1 out), HI2, Lib.hid ⟨_, _, E9.out, NL.out⟩, Lib.hid ⟨_, _, E11.out, NH.out⟩, BT, HB⟩, by rw [hw3]; exact less_i hlt⟩
            · have dge : decide (0 ≤ cmpN lo2 T2) = false := by rw [cmpN_lt (Nat.lt_of_not_le hge)]; rfl
              obtain ⟨PT, cT, hT, hTn⟩ := BT.out
              have k11 := E11.out.cell 0
              have k12 := hT.cell 0
              go_wp2_with fail
              with_reducible refine (HC2.out _ _ _ NH.out hTn).mono ?_
              rintro _ w7 ⟨rfl, hb⟩
              clear hT hTn k11 k12
              replace E9 := Lib.hid (blk_below E9.out hb)
              replace E11 := Lib.hid (blk_below E11.out hb)
              replace NL := Lib.hid (NL.out.below hb)
              replace NH := Lib.hid (NH.out.below hb)
              replace BT := Lib.hid (BT.out.below hb)
              replace HB := Lib.hid (cbt HB.out hb)
              clear hb
              by_cases hgt : T2 < hi2
              · have dgt : decide (0 < cmpN hi2 T2) = true := by rw [cmpN_gt hgt]; rfl
                have hf := HFEW.out (Nat.lt_of_not_le hge) hgt
                have hw5 := wrap_D hD hDM2
                have HN2 := Lib.hid (cbt hBr.out HB.out)
                have hD2 := few_D hf hlt HBB.out HDM.out
                have hD3 := hD1.out
                clear hf
                go_wp2_with fail
                exact ⟨⟨2 * D, congrArg (Value.int .i64) (two_D D), hD2, Lib.hid (two_pos_D hD3), HN2⟩, less_D hD3 hD2⟩
              · have dgt : decide (0 < cmpN hi2 T2) = false := by
                  rcases Nat.lt_or_eq_of_le (Nat.le_of_not_lt hgt) with h | h
                  · rw [cmpN_lt h]; rfl
                  · rw [h, cmpN_self]; rfl
                have HI2 := Lib.hid (HNONE.out (Nat.le_of_not_lt hgt))
                go_wp2_with fail
                exact ⟨⟨i + 1, _, _, _, _, _, Nat.succ_le_of_lt hlt, congrArg (Value.int .i64) hw3, congrArg (Value.int .i64) (Int.mul_comm out 2), HI2, Lib.hid ⟨_, _, E9.out, NL.out⟩, Lib.hid ⟨_, _, E11.out, NH.out⟩, BT, HB⟩, by rw [hw3]; exact less_i hlt⟩
          · have hie : i = b := by omega
            subst hie
            have dlt : decide ((i : Int) < (i : Int)) = false := decide_eq_false (by omega)
            have HW := Lib.hid (HI.out.e.w HI.out.pos HI.out.le HI.out.lt (pw_pos HD0.out i))
            have HEND := Lib.hid (cbt HB0.out (cbt hBr.out HB.out))
            go_wp2_with fail
            rw [Exit.noGoto_ret]
            exact bodyPost_ret (v := .tuple #[.int .i64 out, .int .i64 0]) (by simp [results, Try.results37, go_sem]) rfl ⟨out, rfl, HW.out, HEND.out⟩
end Go.Proofs.Yteikhnmmkanndaa
namespace Go.Proofs.Yteikhnmmkanndaa
open Go.RowKit Go.Proofs.YteikhnmmkanndaaW.PrintWords Go.Proofs.Yteikhnmmkanndaa.PAll
set_option linter.unusedSimpArgs false
set_option linter.unusedVariables false
theorem td_pos {x : Int} (h : 0 ≤ x) : Int.tdiv x 2 = x / 2 := Int.tdiv_eq_ediv_of_nonneg h
theorem td_neg {x : Int} (h : x < 0) (h2 : Int.tmod x 2 = 0) : Int.tdiv x 2 = x / 2 := by
  obtain ⟨t, rfl⟩ : ∃ t : Nat, x = -(t : Int) := ⟨x.natAbs, by omega⟩
  rw [Int.neg_tmod, Int.tmod_eq_emod_of_nonneg (by omega)] at h2
  rw [Int.neg_tdiv, Int.tdiv_eq_ediv_of_nonneg (by omega)]
  omega
theorem td_odd {x : Int} (h : x < 0) (h2 : ¬ Int.tmod x 2 = 0) : Int.tdiv (x - 1) 2 = x / 2 := by
  obtain ⟨t, rfl⟩ : ∃ t : Nat, x = -(t : Int) := ⟨x.natAbs, by omega⟩
  rw [Int.neg_tmod, Int.tmod_eq_emod_of_nonneg (by omega)] at h2
  have e : -(t : Int) - 1 = -((t + 1 : Nat) : Int) := by omega
  rw [e, Int.neg_tdiv, Int.tdiv_eq_ediv_of_nonneg (by omega)]
  omega
theorem ediv_pow (v : Int) (r : Nat) : v / 2 / 2 ^ r = v / 2 ^ (r + 1) := by
  rw [Int.ediv_ediv_of_nonneg (by decide), Int.pow_succ, Int.mul_comm]
theorem down42_l (j : Nat) (hj : j ≤ 1000) : ∀ (r i : Nat) (v : Int), i + r = j → -100000000 ≤ v → v ≤ 100000000 → Ev (fun k => locutionref27_Down.l0 k v (j : Int) (i : Int)) (v / 2 ^ r) := by
  intro r
  induction r with
  | zero =>
    intro i v hi h1 h2
    refine ⟨1, fun k hk => ?_⟩
    obtain ⟨k, rfl⟩ : ∃ m, k = m + 1 := ⟨k - 1, by omega⟩
    simp only [locutionref27_Down.l0]
    rw [if_neg (by omega), Int.pow_zero, Int.ediv_one]
  | succ r ih =>
    intro i v hi h1 h2
    have ei : wrap64 ((i : Int) + 1) = ((i + 1 : Nat) : Int) := by rw [Go.IntWalk.wrap64_in _ (by omega)]; omega
    have ev : wrap64 (v / 2) = v / 2 := Go.IntWalk.wrap64_in _ (by omega)
    obtain ⟨K, hK⟩ := ih (i + 1) (v / 2) (by omega) (by omega) (by omega)
    dsimp only at hK
    rw [ediv_pow] at hK
    refine ⟨K + 1, fun k hk => ?_⟩
    obtain ⟨k, rfl⟩ : ∃ m, k = m + 1 := ⟨k - 1, by omega⟩
    simp only [locutionref27_Down.l0, ei]
    rw [if_pos (by omega)]
    by_cases hn : v < 0
    · rw [if_pos hn]
      by_cases ho : Int.tmod v 2 = 0
      · rw [if_pos ho, td_neg hn ho, ev]
        exact hK k (by omega)
      · have e1 : wrap64 (v - 1) = v - 1 := Go.IntWalk.wrap64_in _ (by omega)
        rw [if_neg ho, e1, td_odd hn ho, ev]
        exact hK k (by omega)
    · rw [if_neg hn, td_pos (by omega), ev]
      exact hK k (by omega)
theorem down42_any (v : Int) (j : Nat) (W : World) (hj : j ≤ 1000) (h1 : -100000000 ≤ v) (h2 : v ≤ 100000000) : Calls Try.prog 42 #[.int .i64 v, .int .i64 (j : Nat)] W fun e w' => e = .returned (.int .i64 (v / 2 ^ j)) ∧ Below W.heap.size W w' := by
  obtain ⟨k, hk⟩ := Ev.rounds (down42_l j hj j 0 v (by omega) h1 h2)
  refine (locutionref27_Down.calls k v (j : Int) _ W hk).mono ?_
  rintro e w' ⟨rfl, hd⟩
  exact ⟨rfl, hd.below⟩
theorem LogW.to_start {n d : Nat} {k : Int} (h : LogW n d k) : LogE n d k (n * 2 ^ (-k).toNat) (d * 2 ^ k.toNat) := LogE.start n d k
theorem LogW.square {n d : Nat} {u v : Int} (hd : 0 < d) (hu : LogW n d u) (hv : LogW (n * n) (d * d) v) : u = v / 2 := by
  obtain ⟨P, hP⟩ : ∃ P, n * 2 ^ (-u).toNat = P := ⟨_, rfl⟩
  obtain ⟨Q, hQ⟩ : ∃ Q, d * 2 ^ u.toNat = Q := ⟨_, rfl⟩
  have he := (LogE.start n d u).sq
  have hq : 0 < d * 2 ^ u.toNat := Nat.mul_pos hd (Nat.two_pow_pos _)
  obtain ⟨h1, h2⟩ := hu
  rw [hP, hQ] at h1 h2 he
  rw [hQ] at hq
  have hqq := Nat.mul_pos hq hq
  have a := Nat.mul_le_mul h1 h1
  have b := Nat.mul_lt_mul'' h2 h2
  rw [Nat.mul_mul_mul_comm] at b
  by_cases h : P * P < 2 * (Q * Q)
  · have := (he.w hqq a h (Nat.mul_pos hd hd)).unique hv
    omega
  · have := (he.bit.w (by omega) (by omega) (by omega) (Nat.mul_pos hd hd)).unique hv
    omega
theorem LogW.down {n d : Nat} (hd : 0 < d) : ∀ (r a : Nat) {u v : Int}, LogW (n ^ 2 ^ a) (d ^ 2 ^ a) u → LogW (n ^ 2 ^ (a + r)) (d ^ 2 ^ (a + r)) v → n ≠ 0 → u = v / 2 ^ r
  | 0, a, u, v, hu, hv, _ => by rw [Int.pow_zero, Int.ediv_one]; exact hu.unique hv
  | r + 1, a, u, v, hu, hv, h0 => by
    have hn : 0 < n := Nat.pos_of_ne_zero h0
    have hw := wholeN_W (pw_pos hn (a + 1)) (pw_pos hd (a + 1))
    have h1 := LogW.down hd r (a + 1) hw (by rwa [show a + 1 + r = a + (r + 1) by omega]) h0
    rw [← pow_sq, ← pow_sq] at hw
    have h2 := hu.square (pw_pos hd a) hw
    rw [h2, pow_sq, pow_sq, h1]
    rw [Int.ediv_ediv_of_nonneg (by exact Int.le_of_lt (Int.pow_pos (by decide))), Int.pow_succ]
theorem LogE.prod (n d m e : Nat) (u v : Int) : LogE (n * m) (d * e) (u + v) (n * 2 ^ (-u).toNat * (m * 2 ^ (-v).toNat)) (d * 2 ^ u.toNat * (e * 2 ^ v.toNat)) := by
  unfold LogE
  have h : 2 ^ (-u).toNat * 2 ^ (-v).toNat * 2 ^ (u + v).toNat = 2 ^ (-(u + v)).toNat * (2 ^ u.toNat * 2 ^ v.toNat) := by
    rw [← Nat.pow_add, ← Nat.pow_add, ← Nat.pow_add, ← Nat.pow_add]
    congr 1
    omega
  rw [Nat.mul_mul_mul_comm n, Nat.mul_mul_mul_comm d, Nat.mul_mul_mul_comm (n * m), h, Nat.mul_mul_mul_comm (n * m)]
theorem LogW.prod {n d m e : Nat} {u v z : Int} (hd : 0 < d) (he : 0 < e) (hu : LogW n d u) (hv : LogW m e v) (hz : LogW (n * m) (d * e) z) : 0 ≤ z - u - v ∧ z - u - v ≤ 1 := by
  have hle := LogE.prod n d m e u v
  have hq : 0 < d * 2 ^ u.toNat := Nat.mul_pos hd (Nat.two_pow_pos _)
  have hs : 0 < e * 2 ^ v.toNat := Nat.mul_pos he (Nat.two_pow_pos _)
  obtain ⟨h1, h2⟩ := hu
  obtain ⟨h3, h4⟩ := hv
  have hde := Nat.mul_pos hd he
  generalize n * 2 ^ (-u).toNat = P at *
  generalize d * 2 ^ u.toNat = Q at *
  generalize m * 2 ^ (-v).toNat = R at *
  generalize e * 2 ^ v.toNat = S at *
  have hqs := Nat.mul_pos hq hs
  have a := Nat.mul_le_mul h1 h3
  have b := Nat.mul_lt_mul'' h2 h4
  rw [Nat.mul_mul_mul_comm] at b
  by_cases h : P * R < 2 * (Q * S)
  · have := (hle.w hqs a h hde).unique hz
    omega
  · have := (hle.bit.w (by omega) (by omega) (by omega) hde).unique hz
    omega
theorem LogW.mono {n d m e : Nat} {u v : Int} (hd : 0 < d) (h : n * e ≤ m * d) (hu : LogW n d u) (hv : LogW m e v) : u ≤ v := by
  have h1 : e * 2 ^ u.toNat ≤ m * 2 ^ (-u).toNat := by
    refine Nat.le_of_mul_le_mul_right ?_ hd
    calc e * 2 ^ u.toNat * d = e * (d * 2 ^ u.toNat) := by rw [Nat.mul_assoc, Nat.mul_comm (2 ^ u.toNat)]
      _ ≤ e * (n * 2 ^ (-u).toNat) := Nat.mul_le_mul_left _ hu.1
      _ = n * e * 2 ^ (-u).toNat := by rw [Nat.mul_left_comm, Nat.mul_assoc]
      _ ≤ m * d * 2 ^ (-u).toNat := Nat.mul_le_mul_right _ h
      _ = m * 2 ^ (-u).toNat * d := Nat.mul_right_comm _ _ _
  rcases (show u ≤ v ∨ v < u by omega) with hle | hlt
  · exact hle
  · exfalso
    have hc := pow_cross hlt
    have a := Nat.mul_lt_mul_of_pos_right hv.2 (Nat.two_pow_pos (-u).toNat)
    have b := Nat.mul_le_mul_right (2 ^ (-v).toNat) h1
    have c := Nat.mul_le_mul_left e hc
    have e1 : 2 * (e * 2 ^ v.toNat) * 2 ^ (-u).toNat = e * (2 ^ v.toNat * 2 * 2 ^ (-u).toNat) := by
      rw [Nat.mul_left_comm 2 e, Nat.mul_comm 2 (2 ^ v.toNat), Nat.mul_assoc, Nat.mul_assoc]
    have e2 : e * (2 ^ u.toNat * 2 ^ (-v).toNat) = e * 2 ^ u.toNat * 2 ^ (-v).toNat := by rw [Nat.mul_assoc]
    have e3 : m * 2 ^ (-v).toNat * 2 ^ (-u).toNat = m * 2 ^ (-u).toNat * 2 ^ (-v).toNat := Nat.mul_right_comm _ _ _
    rw [e1] at a
    rw [e2] at c
    omega
theorem pow_cross_le {n d m e : Nat} (h : n * e ≤ m * d) (k : Nat) : n ^ k * e ^ k ≤ m ^ k * d ^ k := by
  rw [← Nat.mul_pow, ← Nat.mul_pow]
  exact Nat.pow_le_pow_left h k
theorem LogW.mono_pow {n d m e b : Nat} {u v : Int} (hd : 0 < d) (h : n * e ≤ m * d) (hu : LogW (n ^ 2 ^ b) (d ^ 2 ^ b) u) (hv : LogW (m ^ 2 ^ b) (e ^ 2 ^ b) v) : u ≤ v := LogW.mono (pw_pos hd b) (pow_cross_le h _) hu hv
theorem LogW.same_pow {n d m e b : Nat} {u v : Int} (hd : 0 < d) (he : 0 < e) (h : n * e = m * d) (hu : LogW (n ^ 2 ^ b) (d ^ 2 ^ b) u) (hv : LogW (m ^ 2 ^ b) (e ^ 2 ^ b) v) : u = v :=
  Int.le_antisymm (LogW.mono_pow hd (Nat.le_of_eq h) hu hv) (LogW.mono_pow he (Nat.le_of_eq h.symm) hv hu)
theorem rint_lit (x : Nat) (hx : x < 2 ^ 64) (k : Int) (hk : k = (x : Int)) (W : World) : Calls Try.prog 74 #[.int .u64 k] W (MkF W x 1) := by
  subst hk
  exact rint_any x hx W
theorem llog_lit (v : Value) (n d b : Nat) (kb k : Int) (W : World) (ha : F64 W v n d) (hkb : kb = (b : Int)) (hn0 : 0 < n) (hd0 : 0 < d) (hn : n < 2 ^ 100) (hd : d < 2 ^ 100) (hb : b ≤ 12) (hk : LogW (n ^ 2 ^ b) (d ^ 2 ^ b) k) :
    Calls Try.prog 37 #[v, .int .i64 kb] W fun x w' => x = .returned (.tuple #[.int .i64 k, .int .i64 0]) ∧ Below W.heap.size W w' := by
  subst hkb
  refine (llog_any v n d 100 b W ha hn0 hd0 hn hd (by decide) hb).mono ?_
  rintro x w' ⟨z, rfl, hz, hb⟩
  rw [hz.unique hk]
  exact ⟨rfl, hb⟩
set_option maxRecDepth 100000 in
set_option maxHeartbeats 4000000 in
theorem live27_any (w : World) : Calls Try.prog 35 #[] w fun e w' => e = .returned (.bool true) ∧ Below w.heap.size w w' := by
  have O1 : Hid (∀ W, Calls Try.prog 74 #[.int .u64 1] W (MkF W 1 1)) := Lib.hid (fun W => rint_lit 1 (by decide) 1 rfl W)
  have O3 : Hid (∀ W, Calls Try.prog 74 #[.int .u64 3] W (MkF W 3 1)) := Lib.hid (fun W => rint_lit 3 (by decide) 3 rfl W)
  have O8 : Hid (∀ W, Calls Try.prog 74 #[.int .u64 8] W (MkF W 8 1)) := Lib.hid (fun W => rint_lit 8 (by decide) 8 rfl W)
  have L3 : Hid (∀ v W, F64 W v 3 1 → Calls Try.prog 37 #[v, .int .i64 4] W (fun x w' => x = .returned (.tuple #[.int .i64 25, .int .i64 0]) ∧ Below W.heap.size W w')) := Lib.hid (fun v W h => llog_lit v 3 1 4 4 25 W h rfl (by decide) (by decide) (by decide) (by decide) (by decide) (by unfold LogW; decide +kernel))
  have L13 : Hid (∀ v W, F64 W v 1 3 → Calls Try.prog 37 #[v, .int .i64 4] W (fun x w' => x = .returned (.tuple #[.int .i64 (-26), .int .i64 0]) ∧ Below W.heap.size W w')) := Lib.hid (fun v W h => llog_lit v 1 3 4 4 (-26) W h rfl (by decide) (by decide) (by decide) (by decide) (by decide) (by unfold LogW; decide +kernel))
  have L8 : Hid (∀ v W, F64 W v 8 1 → Calls Try.prog 37 #[v, .int .i64 4] W (fun x w' => x = .returned (.tuple #[.int .i64 48, .int .i64 0]) ∧ Below W.heap.size W w')) := Lib.hid (fun v W h => llog_lit v 8 1 4 4 48 W h rfl (by decide) (by decide) (by decide) (by decide) (by decide) (by unfold LogW; decide +kernel))
  have HDV : Hid (∀ va vb W, F64 W va 1 1 → F64 W vb 3 1 → Calls Try.prog 71 #[va, vb] W fun x w' => ∃ v, x = .returned (.tuple #[v, .int .i64 0]) ∧ F64 w' v 1 3 ∧ Below W.heap.size W w') := Lib.hid (fun va vb W h1 h2 => rdivF_any va vb 1 1 3 1 W h1 h2 (Nat.le_trans (w64_lit (by decide)) (by decide)) (Nat.le_trans (w64_lit (by decide)) (by decide)) (Nat.le_trans (w64_lit (by decide)) (by decide)) (Nat.le_trans (w64_lit (by decide)) (by decide)) (by decide))
  have HB0 := Lib.hid (Below.refl w.heap.size w)
  go_enter Try.func35, Try.ntmps35
  go_wp2_with fail
  with_reducible refine (O3.out _).mono ?_
  rintro e w1 ⟨u, rfl, hu, hb⟩
  replace HB0 := Lib.hid (cbt HB0.out hb)
  have NA := Lib.hid hu
  clear hb hu
  have Z0 := NA.out
  obtain ⟨AS0, pS0, cS0, BS0, qS0, eS0, xS0, rfl, _, _, _⟩ := Z0
  have e1 := Blk.new w1 47 #[.slice AS0 pS0 cS0, .slice BS0 qS0 eS0]
  have hb := cba (Below.refl _ w1) (.cells #[.slice AS0 pS0 cS0, .slice BS0 qS0 eS0] 47)
  go_upto_region 2 with (fail)
  obtain ⟨S, hS⟩ : ∃ S, (w1.alloc (.cells #[.slice AS0 pS0 cS0, .slice BS0 qS0 eS0] 47)) = S := ⟨_, rfl⟩
  rw [hS] at e1 hb ⊢
  obtain ⟨g1, hg⟩ : ∃ g, w1.heap.size = g := ⟨_, rfl⟩
  rw [hg] at e1
  simp only [hg]
  replace NA := Lib.hid (NA.out.below hb)
  replace HB0 := Lib.hid (cbt HB0.out hb)
  have E1 := Lib.hid e1
  clear hS hg hb e1
  let FS : List Kept1 := [.f (1) (1), .f (3) (1), .two (.f (1) (3)) (.eq (.int .i64 0)), .two (.f (1) (3)) (.eq (.int .i64 0)), .f (1) (3), .eq (.int .i64 0), .any, .any, .eq (.int .i64 0)]
  let BS : List Bx := [Bx.rat (.inl 6) 7 #[.slice none 0 0, .slice none 0 0] (1) (3)]
  refine region_mono (Held S (fun j => FS.getD j .any) BS) (by kernel_rfl) (by kernel_rfl) (by kernel_rfl) (Held.start _ _ _ (by simp [BS, Bx.nat, Bx.rat, Bx.ref]) (by simp [BS, Bx.nat, Bx.rat, Bx.ref])) ?_
  refine Steps.held ?_ ?_
  · intro L v w' hJ
    go_wp2_with fail
    with_reducible refine (O1.out _).mono ?_
    rintro e w1 ⟨u, rfl, hu, hb⟩
    go_wp2_with fail
    exact ⟨rfl, rfl, hJ.out.call (by rfl) hb (hu)⟩
  simp only [Act.put, List.setIfInBounds_toArray, List.set_cons_zero, List.set_cons_succ, Nat.reduceAdd]
  refine Steps.held ?_ ?_
  · intro L v w' hJ
    have kb := hJ.out.blk E1.out (by simp [oldsOf, BS, Bx.nat, Bx.rat, Bx.ref])
    have k0 := kb.cell 0
    have k1 := kb.cell 1
    clear kb
    go_wp2_with fail
    exact ⟨rfl, rfl, hJ.out.same (by rfl) (NA.out.keep hJ.out.held.keep)⟩
  simp only [Act.put, List.setIfInBounds_toArray, List.set_cons_zero, List.set_cons_succ, Nat.reduceAdd]
  refine Steps.held ?_ ?_
  · intro L v w' hJ
    have X0 := Lib.hid (show F64 w' (v 0) (1) (1) from hJ.out.fact 0 (by kernel_rfl))
    have X1 := Lib.hid (show F64 w' (v 1) (3) (1) from hJ.out.fact 1 (by kernel_rfl))
    go_wp2_with fail
    with_reducible refine (HDV.out _ _ _ X0.out X1.out).mono ?_
    rintro e w1 ⟨u, rfl, hu, hb⟩
    go_wp2_with fail
    exact ⟨rfl, rfl, hJ.out.call (by rfl) hb (⟨_, _, rfl, hu, rfl⟩)⟩
  simp only [Act.put, List.setIfInBounds_toArray, List.set_cons_zero, List.set_cons_succ, Nat.reduceAdd]
  refine Steps.held ?_ ?_
  · intro L v w' hJ
    go_wp2_with fail
    exact ⟨rfl, rfl, hJ.out.same (by rfl) (hJ.out.fact 2 (by kernel_rfl))⟩
  simp only [Act.put, List.setIfInBounds_toArray, List.set_cons_zero, List.set_cons_succ, Nat.reduceAdd]
  refine Steps.held ?_ ?_
  · intro L v w' hJ
    obtain ⟨x0, x1, hv, h0, h1⟩ := hJ.out.fact 3 (by kernel_rfl)
    simp only [hv]
    clear hv
    go_wp2_with fail
    exact ⟨rfl, rfl, hJ.out.same (by rfl) (h0)⟩
  simp only [Act.put, List.setIfInBounds_toArray, List.set_cons_zero, List.set_cons_succ, Nat.reduceAdd]
  refine Steps.held ?_ ?_
  · intro L v w' hJ
    obtain ⟨x0, x1, hv, h0, h1⟩ := hJ.out.fact 3 (by kernel_rfl)
    simp only [hv]
    clear hv
    go_wp2_with fail
    exact ⟨rfl, rfl, hJ.out.same (by rfl) (h1)⟩
  simp only [Act.put, List.setIfInBounds_toArray, List.set_cons_zero, List.set_cons_succ, Nat.reduceAdd]
  refine Steps.held ?_ ?_
  · intro L v w' hJ
    go_wp2_with fail
    exact ⟨rfl, rfl, hJ.out.made 0 _ rfl rfl (by rfl) trivial⟩
  simp only [Act.put, List.setIfInBounds_toArray, List.set_cons_zero, List.set_cons_succ, Nat.reduceAdd]
  refine Steps.held ?_ ?_
  · intro L v w' hJ
    obtain ⟨g, hg, hge, hown, hst⟩ := hJ.out.newbox 0 _ rfl 6 rfl (by kernel_rfl)
    have hN : F64 w' (v 4) (1) (3) := hJ.out.fact 4 (by kernel_rfl)
    obtain ⟨A1, p1, c1, B1, q1, e1, x1, hv, h1, h2, h3⟩ := hN
    have HN := Lib.hid (show F64 w' (.agg #[.slice A1 p1 c1, .slice B1 q1 e1]) (1) (3) from ⟨A1, p1, c1, B1, q1, e1, x1, rfl, h1, h2, h3⟩)
    have kb := hJ.out.box 0 _ rfl rfl g hown
    have k0 : w'.cell? ⟨g, 0, none⟩ = some (.slice none 0 0) := kb.cell 0
    have k1 : w'.cell? ⟨g, 1, none⟩ = some (.slice none 0 0) := kb.cell 1
    have f0 := kb.frozen 0
    have f1 := kb.frozen 1
    have HO := Lib.hid hown
    have HS := Lib.hid hst
    clear kb h1 h2 h3 hown hst
    simp only [hg, hv]
    clear hg hv
    go_wp2_with fail
    exact ⟨rfl, rfl, hJ.out.fill2 0 _ rfl rfl (by rfl) g HO.out HS.out _ _ rfl rfl rfl (fun W k => HN.out.keep k) (fun _ => trivial)⟩
  simp only [Act.put, List.setIfInBounds_toArray, List.set_cons_zero, List.set_cons_succ, Nat.reduceAdd]
  refine Steps.held ?_ ?_
  · intro L v w' hJ
    have hv5 : v 5 = .int .i64 0 := hJ.out.fact 5 (by kernel_rfl)
    simp only [hv5]
    clear hv5
    go_wp2_with fail
    exact ⟨rfl, rfl, hJ.out.same (by rfl) (rfl)⟩
  simp only [Act.put, List.setIfInBounds_toArray, List.set_cons_zero, List.set_cons_succ, Nat.reduceAdd]
  refine Steps.nil ?_
  intro v w' hJ
  have h8 : v 8 = .int .i64 0 := hJ.end_fact 8 (by decide)
  simp only [h8]
  clear h8
  obtain ⟨g2, cs6, hv6, hge6, hb6, hf6⟩ := hJ.end_new 0 _ rfl 6 rfl (by decide) (Nat.le_of_ble_eq_true rfl)
  have hfx : F64 w' (.agg cs6) 1 3 := hf6
  obtain ⟨A6, p6, c6, B6, q6, e6, x6, hcs6, h1, h2, h3⟩ := hfx
  have hcs6' := Value.agg.inj hcs6
  subst hcs6'
  simp only [hv6]
  have E2 := Lib.hid (show Blk w' g2 47 #[.slice A6 p6 c6, .slice B6 q6 e6] from hb6)
  have NE2 := Lib.hid (show F64 w' (.agg #[.slice A6 p6 c6, .slice B6 q6 e6]) 1 3 from hf6)
  clear hv6 hb6 hf6 hcs6 h1 h2
  have hbr := hJ.but.below
  replace NA := Lib.hid (NA.out.below hbr)
  replace E1 := Lib.hid (blk_below E1.out hbr)
  replace HB0 := Lib.hid (cbt HB0.out hbr)
  clear hJ hbr
  have k_E1_0 := E1.out.cell 0
  have k_E1_1 := E1.out.cell 1
  have k_E2_0 := E2.out.cell 0
  have k_E2_1 := E2.out.cell 1
  go_wp2_with fail
  with_reducible refine (L3.out _ _ NA.out).mono ?_
  rintro e w3 ⟨rfl, hb⟩
  clear k_E1_0 k_E1_1 k_E2_0 k_E2_1
  replace NA := Lib.hid (NA.out.below hb)
  replace NE2 := Lib.hid (NE2.out.below hb)
  replace E1 := Lib.hid (blk_below E1.out hb)
  replace E2 := Lib.hid (blk_below E2.out hb)
  replace HB0 := Lib.hid (cbt HB0.out hb)
  clear hb
  have k_E1_0 := E1.out.cell 0
  have k_E1_1 := E1.out.cell 1
  have k_E2_0 := E2.out.cell 0
  have k_E2_1 := E2.out.cell 1
  go_wp2_with fail
  with_reducible refine (L13.out _ _ NE2.out).mono ?_
  rintro e w4 ⟨rfl, hb⟩
  clear k_E1_0 k_E1_1 k_E2_0 k_E2_1
  replace NA := Lib.hid (NA.out.below hb)
  replace NE2 := Lib.hid (NE2.out.below hb)
  replace E1 := Lib.hid (blk_below E1.out hb)
  replace E2 := Lib.hid (blk_below E2.out hb)
  replace HB0 := Lib.hid (cbt HB0.out hb)
  clear hb
  have k_E1_0 := E1.out.cell 0
  have k_E1_1 := E1.out.cell 1
  have k_E2_0 := E2.out.cell 0
  have k_E2_1 := E2.out.cell 1
  go_wp2_with fail
  with_reducible refine (O8.out _).mono ?_
  rintro e w5 ⟨u, rfl, hu, hb⟩
  clear k_E1_0 k_E1_1 k_E2_0 k_E2_1
  replace NA := Lib.hid (NA.out.below hb)
  replace NE2 := Lib.hid (NE2.out.below hb)
  replace E1 := Lib.hid (blk_below E1.out hb)
  replace E2 := Lib.hid (blk_below E2.out hb)
  replace HB0 := Lib.hid (cbt HB0.out hb)
  have N8 := Lib.hid hu
  clear hb hu
  have k_E1_0 := E1.out.cell 0
  have k_E1_1 := E1.out.cell 1
  have k_E2_0 := E2.out.cell 0
  have k_E2_1 := E2.out.cell 1
  go_wp2_with fail
  with_reducible refine (L8.out _ _ N8.out).mono ?_
  rintro e w6 ⟨rfl, hb⟩
  clear k_E1_0 k_E1_1 k_E2_0 k_E2_1
  replace NA := Lib.hid (NA.out.below hb)
  replace NE2 := Lib.hid (NE2.out.below hb)
  replace N8 := Lib.hid (N8.out.below hb)
  replace E1 := Lib.hid (blk_below E1.out hb)
  replace E2 := Lib.hid (blk_below E2.out hb)
  replace HB0 := Lib.hid (cbt HB0.out hb)
  clear hb
  have k_E1_0 := E1.out.cell 0
  have k_E1_1 := E1.out.cell 1
  have k_E2_0 := E2.out.cell 0
  have k_E2_1 := E2.out.cell 1
  go_wp2_with fail
  go_ret
  exact ⟨rfl, HB0.out⟩
end Go.Proofs.Yteikhnmmkanndaa
namespace Go.Proofs.Yteikhnmmkanndaa
open Go.RowKit Go.Proofs.YteikhnmmkanndaaW.PrintWords
set_option linter.unusedSimpArgs false
set_option linter.unusedVariables false
theorem Sz.lt {B m : Nat} {a : Nat × Nat} (h : Sz B a) (hm : 8 * B ≤ m) : a.1 < 2 ^ m ∧ a.2 < 2 ^ m := by
  have h1 := (wl_le (by decide) a.1 B).1 h.1
  have h2 := (wl_le (by decide) a.2 B).1 h.2
  have h3 : 2 ^ (8 * B) ≤ 2 ^ m := Nat.pow_le_pow_right (by decide) hm
  omega
theorem fld52 (A : Option Addr) (n c : Nat) (B : Option Addr) (q e : Nat) (W : World) : (Instr.field 52 (.agg #[.slice A n c, .slice B q e]) 0).run Try.prog W = .ok (.slice A n c) W := by kernel_rfl
def lg (a : Nat × Nat) (b : Nat) : Int := wholeN (a.1 ^ 2 ^ b) (a.2 ^ 2 ^ b)
theorem lg_W {a : Nat × Nat} (h1 : 0 < a.1) (h2 : 0 < a.2) (b : Nat) : LogW (a.1 ^ 2 ^ b) (a.2 ^ 2 ^ b) (lg a b) := wholeN_W (pw_pos h1 b) (pw_pos h2 b)
theorem lg_le {a : Nat × Nat} {m b : Nat} (h1 : 0 < a.1) (h2 : 0 < a.2) (h : a.1 < 2 ^ m ∧ a.2 < 2 ^ m) (hm : m ≤ 20000) (hb : b ≤ 12) : -81920000 ≤ lg a b ∧ lg a b ≤ 81920000 := by
  have hw := (lg_W h1 h2 b).bound (pw_pos h1 b) (pw_pos h2 b) (pw_lt h.1 b) (pw_lt h.2 b)
  have : m * 2 ^ b ≤ 20000 * 2 ^ 12 := Nat.mul_le_mul hm (show 2 ^ b ≤ 2 ^ 12 from Nat.pow_le_pow_right (by decide) hb)
  omega
theorem c_log {a : Nat × Nat} {v : Value} {W : World} {m b : Nat} {kb : Int} (ha : F64 W v a.1 a.2) (hkb : kb = (b : Int)) (h1 : 0 < a.1) (h2 : 0 < a.2) (h : a.1 < 2 ^ m ∧ a.2 < 2 ^ m) (hm : m ≤ 20000) (hb : b ≤ 12) :
    Calls Try.prog 37 #[v, .int .i64 kb] W fun x w' => x = .returned (.tuple #[.int .i64 (lg a b), .int .i64 0]) ∧ Below W.heap.size W w' := by
  subst hkb
  refine (llog_any v a.1 a.2 m b W ha h1 h2 h.1 h.2 hm hb).mono ?_
  rintro x w' ⟨z, rfl, hz, hb⟩
  rw [hz.unique (lg_W h1 h2 b)]
  exact ⟨rfl, hb⟩
theorem c_ref_len {v : Value} {l m : List Int} {W : World} {a : Nat × Nat} (h : Calls Try.prog 38 #[v] W (MkR W a.1 a.2)) : Calls Try.prog 38 #[v] W fun x w' => ∃ A p c B q e, x = .returned (.agg #[.slice A p c, .slice B q e]) ∧ RF w' (.agg #[.slice A p c, .slice B q e]) a.1 a.2 ∧ p = wl 8 a.1 ∧ Below W.heap.size W w' := by
  refine h.mono ?_
  rintro x w' ⟨u, rfl, hu, hb⟩
  have hu2 := hu
  obtain ⟨A, p, c, B, q, e, rfl, h1, _⟩ := hu2
  exact ⟨A, p, c, B, q, e, rfl, hu, len_R256 h1, hb⟩
end Go.Proofs.Yteikhnmmkanndaa
namespace Go.Proofs.Yteikhnmmkanndaa
open Go.RowKit Go.Proofs.YteikhnmmkanndaaW.PrintWords
set_option linter.unusedSimpArgs false
set_option linter.unusedVariables false
theorem u8_nat {k : Int} (h : (Lit.int .u8 k).wf = true) : ∃ a : Nat, k = (a : Int) ∧ a < 256 := by
  unfold Lit.wf at h
  rw [Bool.and_eq_true, decide_eq_true_iff, decide_eq_true_iff] at h
  have h1 : 0 ≤ k := h.1
  have h2 : k < 256 := by have := h.2; simp [IntKind.max, IntKind.bits, IntKind.signed] at this; omega
  exact ⟨k.toNat, by omega, by omega⟩
set_option maxRecDepth 100000 in
set_option maxHeartbeats 4000000 in
theorem logHalves_law (vx : Value) (lx mx : List Int) (k1 k2 : Int) (w : World) (hx : Frc w vx lx mx) (ylx : Bys lx) (ymx : Bys mx) (hk1 : (Lit.int .u8 k1).wf = true) (hk2 : (Lit.int .u8 k2).wf = true) : Calls Try.prog 8 #[vx, .int .u8 k1, .int .u8 k2] w fun e w' => e = .returned (.bool true) ∧ Below w.heap.size w w' := by
  have Hx := Lib.hid hx
  obtain ⟨Ux, nx, cx, Vx, kx, dx, rfl, _, _, hlx, hkx⟩ := hx
  have HLV := Lib.hid live27_any
  obtain ⟨a1, rfl, ha1⟩ := u8_nat hk1
  obtain ⟨a2, rfl, ha2⟩ := u8_nat hk2
  clear hk1 hk2
  by_cases h1 : nx ≤ 100
  · by_cases h2 : kx ≤ 100
    · have d1 : decide (100 < (nx : Int)) = false := decide_eq_false (by omega)
      have d2 : decide (100 < (kx : Int)) = false := decide_eq_false (by omega)
      have hsz := (frcR_sz (B := 200) ylx ymx (by omega) (by omega)).lt (m := 2000) (by decide)
      have hrd := frcR_red lx mx
      have HTa := Lib.hid (fun v W h => c_to (v := v) (W := W) (l := lx) (m := mx) h ylx ymx (by omega) (by omega))
      have HRa := Lib.hid (fun v W h => c_ref_len (l := lx) (m := mx) (c_ref (v := v) (W := W) (l := lx) (m := mx) h ylx ymx (by omega) (by omega)))
      obtain ⟨a, ha⟩ : ∃ a, frcR lx mx = a := ⟨_, rfl⟩
      rw [ha] at hsz hrd HTa HRa
      have hd0 := hrd.2
      clear ha hrd
      by_cases hz : a.1 = 0
      · have HP0 := Lib.hid ((wl_eq_zero (k := 8) (by decide)).2 hz)
        clear hz hlx hkx h1 h2 hsz hd0 ylx ymx HTa
        have e0 := Blk.new (w) 45 #[(.slice Ux nx cx), (.slice Vx kx dx)]
        have hb := cba (Below.refl _ w) (.cells #[(.slice Ux nx cx), (.slice Vx kx dx)] 45)
        have hsz : w.heap.size ≤ w.heap.size := Nat.le_refl _
        go_enter Try.func8, Try.ntmps8
        go_upto_region 1 with (fail)
        obtain ⟨S, hS⟩ : ∃ S, (w).alloc (.cells #[(.slice Ux nx cx), (.slice Vx kx dx)] 45) = S := ⟨_, rfl⟩
        rw [hS] at e0 hb ⊢
        replace Hx := Lib.hid (Hx.out.below hb)
        have HB0 := Lib.hid hb
        have E0 := Lib.hid e0
        clear hS hb hsz e0
        have k_E0_0 := E0.out.cell 0
        have k_E0_1 := E0.out.cell 1
        go_wp2_with fail
        with_reducible refine (HRa.out _ _ Hx.out).mono ?_
        rintro e w2 ⟨A2, p2, c2, B2, q2, e2, rfl, hr, hp, hb⟩
        clear k_E0_0 k_E0_1
        replace Hx := Lib.hid (Hx.out.below hb)
        replace E0 := Lib.hid (blk_below E0.out hb)
        replace HB0 := Lib.hid (cbt HB0.out hb)
        have dp : ((p2 : Int) == 0) = true := beq_iff_eq.2 (by rw [hp, HP0.out]; rfl)
        clear hp
        have hfd := fld52 A2 p2 c2 B2 q2 e2
        clear hb hr
        have k_E0_0 := E0.out.cell 0
        have k_E0_1 := E0.out.cell 1
        go_wp2_with fail
        with_reducible refine (HLV.out _).mono ?_
        rintro e w9 ⟨rfl, hb⟩
        clear k_E0_0 k_E0_1
        replace Hx := Lib.hid (Hx.out.below hb)
        replace E0 := Lib.hid (blk_below E0.out hb)
        replace HB0 := Lib.hid (cbt HB0.out hb)
        clear hb
        have k_E0_0 := E0.out.cell 0
        have k_E0_1 := E0.out.cell 1
        go_wp2_with fail
        go_ret
        exact ⟨rfl, HB0.out⟩
      · have hn0 : 0 < a.1 := Nat.pos_of_ne_zero hz
        clear hz
        have hb1 : a1 % 13 ≤ 12 := by omega
        have hb2 : a2 % (a1 % 13 + 1) ≤ a1 % 13 := Nat.le_of_lt_succ (Nat.mod_lt _ (Nat.succ_pos _))
        have e1 : Int.tmod (a1 : Int) 13 = ((a1 % 13 : Nat) : Int) := rfl
        obtain ⟨b1, hb1e⟩ : ∃ b, a1 % 13 = b := ⟨_, rfl⟩
        rw [hb1e] at hb1 hb2 e1
        have e2 : Int.tmod (a2 : Int) ((b1 : Int) + 1) = ((a2 % (b1 + 1) : Nat) : Int) := rfl
        obtain ⟨b2, hb2e⟩ : ∃ b, a2 % (b1 + 1) = b := ⟨_, rfl⟩
        rw [hb2e] at hb2 e2
        have HLG1 := Lib.hid (fun v W h => c_log (a := a) (v := v) (W := W) (kb := (b1 : Int)) h rfl hn0 hd0 hsz (by decide) hb1)
        have HLG2 := Lib.hid (fun v W h => c_log (a := a) (v := v) (W := W) (kb := (b2 : Int)) h rfl hn0 hd0 hsz (by decide) (Nat.le_trans hb2 hb1))
        have hle := lg_le (b := b1) hn0 hd0 hsz (by decide) hb1
        have hdn : lg a b2 = lg a b1 / 2 ^ (b1 - b2) := LogW.down hd0 (b1 - b2) b2 (lg_W hn0 hd0 b2) (by rw [show b2 + (b1 - b2) = b1 by omega]; exact lg_W hn0 hd0 b1) (by omega)
        have HDN := Lib.hid (fun W => down42_any (lg a b1) (b1 - b2) W (by omega) (by omega) (by omega))
        rw [← hdn, show ((b1 - b2 : Nat) : Int) = (b1 : Int) - (b2 : Int) by omega] at HDN
        have HPN : Hid (wl 8 a.1 ≠ 0) := Lib.hid (fun h => by have := (wl_eq_zero (k := 8) (by decide)).1 h; omega)
        obtain ⟨z, hz⟩ : ∃ z, lg a b1 = z := ⟨_, rfl⟩
        obtain ⟨y, hy⟩ : ∃ z, lg a b2 = z := ⟨_, rfl⟩
        rw [hz] at HLG1 HDN
        rw [hy] at HLG2 HDN
        clear hz hy hn0 hlx hkx h1 h2 hsz hd0 ylx ymx hb1e hb2e hle hdn
        have e0 := Blk.new (w) 45 #[(.slice Ux nx cx), (.slice Vx kx dx)]
        have hb := cba (Below.refl _ w) (.cells #[(.slice Ux nx cx), (.slice Vx kx dx)] 45)
        have hsz : w.heap.size ≤ w.heap.size := Nat.le_refl _
        go_enter Try.func8, Try.ntmps8
        go_upto_region 1 with (fail)
        obtain ⟨S, hS⟩ : ∃ S, (w).alloc (.cells #[(.slice Ux nx cx), (.slice Vx kx dx)] 45) = S := ⟨_, rfl⟩
        rw [hS] at e0 hb ⊢
        replace Hx := Lib.hid (Hx.out.below hb)
        have HB0 := Lib.hid hb
        have E0 := Lib.hid e0
        clear hS hb hsz e0
        have k_E0_0 := E0.out.cell 0
        have k_E0_1 := E0.out.cell 1
        go_wp2_with fail
        with_reducible refine (HRa.out _ _ Hx.out).mono ?_
        rintro e w2 ⟨A2, p2, c2, B2, q2, e2, rfl, hr, hp, hb⟩
        clear k_E0_0 k_E0_1
        replace Hx := Lib.hid (Hx.out.below hb)
        replace E0 := Lib.hid (blk_below E0.out hb)
        replace HB0 := Lib.hid (cbt HB0.out hb)
        have dp : ((p2 : Int) == 0) = false := beq_eq_false_iff_ne.2 (by have := HPN.out; omega)
        clear hp
        have hfd := fld52 A2 p2 c2 B2 q2 e2
        clear hb hr
        have k_E0_0 := E0.out.cell 0
        have k_E0_1 := E0.out.cell 1
        go_wp2_with fail
        with_reducible refine (HTa.out _ _ Hx.out).mono ?_
        rintro e w3 ⟨u, rfl, hu, hb⟩
        clear k_E0_0 k_E0_1
        replace Hx := Lib.hid (Hx.out.below hb)
        replace E0 := Lib.hid (blk_below E0.out hb)
        replace HB0 := Lib.hid (cbt HB0.out hb)
        have NA := Lib.hid hu
        clear hb hu
        have k_E0_0 := E0.out.cell 0
        have k_E0_1 := E0.out.cell 1
        have Z0 := NA.out
        obtain ⟨AT0, pT0, cT0, BT0, qT0, eT0, xT0, rfl, _, _, _⟩ := Z0
        have e9 := Blk.new w3 47 #[.slice AT0 pT0 cT0, .slice BT0 qT0 eT0]
        have hb := cba (Below.refl _ w3) (.cells #[.slice AT0 pT0 cT0, .slice BT0 qT0 eT0] 47)
        go_upto_region 6 with (fail)
        obtain ⟨T, hS⟩ : ∃ S, (w3.alloc (.cells #[.slice AT0 pT0 cT0, .slice BT0 qT0 eT0] 47)) = S := ⟨_, rfl⟩
        rw [hS] at e9 hb ⊢
        obtain ⟨g9, hg⟩ : ∃ g, w3.heap.size = g := ⟨_, rfl⟩
        rw [hg] at e9
        simp only [hg]
        replace NA := Lib.hid (NA.out.below hb)
        replace Hx := Lib.hid (Hx.out.below hb)
        replace E0 := Lib.hid (blk_below E0.out hb)
        replace HB0 := Lib.hid (cbt HB0.out hb)
        have E9 := Lib.hid e9
        clear hS hg hb e9 k_E0_0 k_E0_1
        have k_E0_0 := E0.out.cell 0
        have k_E0_1 := E0.out.cell 1
        have k_E9_0 := E9.out.cell 0
        have k_E9_1 := E9.out.cell 1
        go_wp2_with fail
        with_reducible refine (HLG1.out _ _ NA.out).mono ?_
        rintro e w4 ⟨rfl, hb⟩
        clear k_E0_0 k_E0_1 k_E9_0 k_E9_1
        replace Hx := Lib.hid (Hx.out.below hb)
        replace NA := Lib.hid (NA.out.below hb)
        replace E0 := Lib.hid (blk_below E0.out hb)
        replace E9 := Lib.hid (blk_below E9.out hb)
        replace HB0 := Lib.hid (cbt HB0.out hb)
        clear hb
        have k_E0_0 := E0.out.cell 0
        have k_E0_1 := E0.out.cell 1
        have k_E9_0 := E9.out.cell 0
        have k_E9_1 := E9.out.cell 1
        go_wp2_with fail
        with_reducible refine (HLG2.out _ _ NA.out).mono ?_
        rintro e w5 ⟨rfl, hb⟩
        clear k_E0_0 k_E0_1 k_E9_0 k_E9_1
        replace Hx := Lib.hid (Hx.out.below hb)
        replace NA := Lib.hid (NA.out.below hb)
        replace E0 := Lib.hid (blk_below E0.out hb)
        replace E9 := Lib.hid (blk_below E9.out hb)
        replace HB0 := Lib.hid (cbt HB0.out hb)
        clear hb
        have k_E0_0 := E0.out.cell 0
        have k_E0_1 := E0.out.cell 1
        have k_E9_0 := E9.out.cell 0
        have k_E9_1 := E9.out.cell 1
        go_wp2_with fail
        with_reducible refine (HDN.out _).mono ?_
        rintro e w6 ⟨rfl, hb⟩
        clear k_E0_0 k_E0_1 k_E9_0 k_E9_1
        replace Hx := Lib.hid (Hx.out.below hb)
        replace NA := Lib.hid (NA.out.below hb)
        replace E0 := Lib.hid (blk_below E0.out hb)
        replace E9 := Lib.hid (blk_below E9.out hb)
        replace HB0 := Lib.hid (cbt HB0.out hb)
        clear hb
        have k_E0_0 := E0.out.cell 0
        have k_E0_1 := E0.out.cell 1
        have k_E9_0 := E9.out.cell 0
        have k_E9_1 := E9.out.cell 1
        go_wp2_with fail
        with_reducible refine (HLV.out _).mono ?_
        rintro e w9 ⟨rfl, hb⟩
        clear k_E0_0 k_E0_1 k_E9_0 k_E9_1
        replace Hx := Lib.hid (Hx.out.below hb)
        replace NA := Lib.hid (NA.out.below hb)
        replace E0 := Lib.hid (blk_below E0.out hb)
        replace E9 := Lib.hid (blk_below E9.out hb)
        replace HB0 := Lib.hid (cbt HB0.out hb)
        clear hb
        have k_E0_0 := E0.out.cell 0
        have k_E0_1 := E0.out.cell 1
        have k_E9_0 := E9.out.cell 0
        have k_E9_1 := E9.out.cell 1
        go_wp2_with fail
        go_ret
        exact ⟨rfl, HB0.out⟩
    · have d1 : decide (100 < (nx : Int)) = false := decide_eq_false (by omega)
      have d2 : decide (100 < (kx : Int)) = true := decide_eq_true (by omega)
      clear hlx hkx h1 h2
      have e0 := Blk.new (w) 45 #[(.slice Ux nx cx), (.slice Vx kx dx)]
      have hb := cba (Below.refl _ w) (.cells #[(.slice Ux nx cx), (.slice Vx kx dx)] 45)
      have hsz : w.heap.size ≤ w.heap.size := Nat.le_refl _
      go_enter Try.func8, Try.ntmps8
      go_upto_region 1 with (fail)
      obtain ⟨S, hS⟩ : ∃ S, (w).alloc (.cells #[(.slice Ux nx cx), (.slice Vx kx dx)] 45) = S := ⟨_, rfl⟩
      rw [hS] at e0 hb ⊢
      replace Hx := Lib.hid (Hx.out.below hb)
      have HB0 := Lib.hid hb
      have E0 := Lib.hid e0
      clear hS hb hsz e0
      have k_E0_0 := E0.out.cell 0
      have k_E0_1 := E0.out.cell 1
      go_wp2_with fail
      with_reducible refine (HLV.out _).mono ?_
      rintro e w9 ⟨rfl, hb⟩
      clear k_E0_0 k_E0_1
      replace Hx := Lib.hid (Hx.out.below hb)
      replace E0 := Lib.hid (blk_below E0.out hb)
      replace HB0 := Lib.hid (cbt HB0.out hb)
      clear hb
      have k_E0_0 := E0.out.cell 0
      have k_E0_1 := E0.out.cell 1
      go_wp2_with fail
      go_ret
      exact ⟨rfl, HB0.out⟩
  · have d1 : decide (100 < (nx : Int)) = true := decide_eq_true (by omega)
    clear hlx hkx h1
    have e0 := Blk.new (w) 45 #[(.slice Ux nx cx), (.slice Vx kx dx)]
    have hb := cba (Below.refl _ w) (.cells #[(.slice Ux nx cx), (.slice Vx kx dx)] 45)
    have hsz : w.heap.size ≤ w.heap.size := Nat.le_refl _
    go_enter Try.func8, Try.ntmps8
    go_upto_region 1 with (fail)
    obtain ⟨S, hS⟩ : ∃ S, (w).alloc (.cells #[(.slice Ux nx cx), (.slice Vx kx dx)] 45) = S := ⟨_, rfl⟩
    rw [hS] at e0 hb ⊢
    replace Hx := Lib.hid (Hx.out.below hb)
    have HB0 := Lib.hid hb
    have E0 := Lib.hid e0
    clear hS hb hsz e0
    have k_E0_0 := E0.out.cell 0
    have k_E0_1 := E0.out.cell 1
    go_wp2_with fail
    with_reducible refine (HLV.out _).mono ?_
    rintro e w9 ⟨rfl, hb⟩
    clear k_E0_0 k_E0_1
    replace Hx := Lib.hid (Hx.out.below hb)
    replace E0 := Lib.hid (blk_below E0.out hb)
    replace HB0 := Lib.hid (cbt HB0.out hb)
    clear hb
    have k_E0_0 := E0.out.cell 0
    have k_E0_1 := E0.out.cell 1
    go_wp2_with fail
    go_ret
    exact ⟨rfl, HB0.out⟩
end Go.Proofs.Yteikhnmmkanndaa
namespace Go.Proofs.Yteikhnmmkanndaa
open Go.ChangeShapes Go.WideShapes Go.RowKit Go.Proofs.YteikhnmmkanndaaW.PrintWords
section
variable {H : Type} {enc : TypeId × Value → H} {w : World} {base : Nat} {spare : Nat → Bool} {held : Bool}
theorem open_bytes1 {fuel : Nat} {u : Value} {x : DataW H × List MemPlace} (h : DataW.trod enc Try.prog w base spare held fuel 22 [u] = some x) :
    ∃ A n c, ∃ l : List Int, u = .slice A n c ∧ l.length = n ∧ ByS w (.slice A n c) l ∧ Bys l := by
  rcases open_ints Try.underlying22 (e := 5) (k := .u8) (by kernel_rfl) (by kernel_rfl) h with ⟨hcs, _⟩ | ⟨a, l, c, zs, hcs, _⟩
  · obtain rfl : u = .slice none 0 0 := by simpa using hcs
    obtain ⟨l, h1, h2, h3⟩ := open_bytes_at h
    exact ⟨_, _, _, l, rfl, h1, h2, h3⟩
  · obtain rfl : u = .slice (some a) l c := by simpa using hcs
    obtain ⟨l, h1, h2, h3⟩ := open_bytes_at h
    exact ⟨_, _, _, l, rfl, h1, h2, h3⟩
theorem open_frc_at {fuel : Nat} {cs : Array Value} {x : DataW H × List MemPlace} (h2 : cs.size = 2) (h : DataW.trod enc Try.prog w base spare held fuel 45 cs.toList = some x) : ∃ l m : List Int, Frc w (.agg cs) l m ∧ Bys l ∧ Bys m := by
  obtain ⟨y0, y1, n, _, _, h0, h1⟩ := trod_struct2 Try.underlying45 h
  have hc : Try.prog.cellsOf 22 = 1 := by kernel_rfl
  simp only [hc] at h0 h1
  obtain ⟨l⟩ := cs
  rcases l with _ | ⟨a, _ | ⟨b, _ | ⟨c, t⟩⟩⟩
  · exact absurd h2 (by simp)
  · exact absurd h2 (by simp)
  · obtain ⟨A, p, c, l, rfl, hl, hA, yl⟩ := open_bytes1 (u := a) h0
    obtain ⟨B, q, d, m, rfl, hm, hB, ym⟩ := open_bytes1 (u := b) h1
    exact ⟨l, m, ⟨A, p, c, B, q, d, rfl, hA, hB, hl, hm⟩, yl, ym⟩
  · exact absurd h2 (by simp)
end
end Go.Proofs.Yteikhnmmkanndaa
