/- Laid together by prune.py out of the texts that the row needs: the declarations that its theorem uses. -/
import Derived.Test.YteikhnmmkanndaaXLogTwos5
import Derived.WalkMore
namespace Go.Proofs.Yteikhnmmkanndaa
open Go.RowKit Go.Proofs.YteikhnmmkanndaaW.PrintWords
set_option linter.unusedSimpArgs false
set_option linter.unusedVariables false
theorem two_le12 {b : Nat} (h : b ≤ 12) : (0 : Int) < 2 ^ b ∧ (2 : Int) ^ b ≤ 4096 := by
  have h1 : (2 : Nat) ^ b ≤ 2 ^ 12 := Nat.pow_le_pow_right (by decide) h
  have h2 := Nat.two_pow_pos b
  have e : ((2 ^ b : Nat) : Int) = (2 : Int) ^ b := by simp
  omega
theorem mul_bound {k P : Int} (h1 : -20000 ≤ k) (h2 : k ≤ 20000) (h3 : 0 ≤ P) (h4 : P ≤ 4096) : -81920000 ≤ k * P ∧ k * P ≤ 81920000 := by
  have a := Int.mul_le_mul_of_nonneg_right h1 h3
  have b := Int.mul_le_mul_of_nonneg_right h2 h3
  omega
theorem pw_pos {n : Nat} (h : 0 < n) (i : Nat) : 0 < n ^ 2 ^ i := Nat.pow_pos h
theorem NoPow.pw {n d : Nat} (hn : 0 < n) (hd : 0 < d) (h : NoPow n d) : ∀ i, NoPow (n ^ 2 ^ i) (d ^ 2 ^ i)
  | 0 => by rw [Nat.pow_zero, Nat.pow_one, Nat.pow_one]; exact h
  | i + 1 => by
    rw [← pow_sq, ← pow_sq]
    exact (NoPow.pw hn hd h i).sq (pw_pos hn i) (pw_pos hd i)
theorem LogW.exact {n d : Nat} {k : Int} (hd : 0 < d) (h : n * 2 ^ (-k).toNat = d * 2 ^ k.toNat) : ∀ i, n ^ 2 ^ i * 2 ^ (-(k * 2 ^ i)).toNat = d ^ 2 ^ i * 2 ^ (k * 2 ^ i).toNat
  | 0 => by rw [Nat.pow_zero, Nat.pow_one, Nat.pow_one, Int.pow_zero, Int.mul_one]; exact h
  | i + 1 => by
    have ih := LogW.exact hd h i
    rw [← pow_sq, ← pow_sq, Int.pow_succ, show k * (2 ^ i * 2) = 2 * (k * 2 ^ i) by rw [← Int.mul_assoc, Int.mul_comm]]
    rw [two_toNat, show -(2 * (k * 2 ^ i)) = 2 * -(k * 2 ^ i) by omega, two_toNat, Nat.pow_add, Nat.pow_add]
    rw [Nat.mul_mul_mul_comm, ih, Nat.mul_mul_mul_comm]
theorem LogW.of_eq {n d : Nat} {k : Int} (hd : 0 < d) (h : n * 2 ^ (-k).toNat = d * 2 ^ k.toNat) : LogW n d k := by
  have := Nat.mul_pos hd (Nat.two_pow_pos k.toNat)
  exact ⟨by omega, by omega⟩
theorem NoPow.of_ne {n d : Nat} {k : Int} (hd : 0 < d) (hw : LogW n d k) (h : n * 2 ^ (-k).toNat ≠ d * 2 ^ k.toNat) : NoPow n d := by
  intro j hj
  have := (LogW.of_eq hd hj).unique hw
  subst this
  exact h hj
theorem LogW.bound {n d m : Nat} {k : Int} (hn : 0 < n) (hd : 0 < d) (h1 : n < 2 ^ m) (h2 : d < 2 ^ m) (hw : LogW n d k) : -(m : Int) ≤ k ∧ k ≤ (m : Int) := by
  have := (wholeN_W hn hd).unique hw
  rw [← this]
  exact wholeN_le hn hd h1 h2
theorem pw_lt {n m : Nat} (h : n < 2 ^ m) (i : Nat) : n ^ 2 ^ i < 2 ^ (m * 2 ^ i) := by
  rw [Nat.pow_mul]
  exact Nat.pow_lt_pow_left h (Nat.ne_of_gt (Nat.two_pow_pos i))
theorem two_out1 (out : Int) : out * 2 + 1 = 2 * out + 1 := by omega
theorem two_D (D : Nat) : (D : Int) * 2 = ((2 * D : Nat) : Int) := by omega
theorem two_pos_D {D : Nat} (h : 1 ≤ D) : 1 ≤ 2 * D := by omega
theorem less_i {i b : Nat} (h : i < b) : b - (intOf (.int .i64 ((i + 1 : Nat) : Int))).toNat < b - (intOf (.int .i64 (i : Int))).toNat := by simp [intOf]; omega
theorem less_D {D M : Nat} (h : 1 ≤ D) (h2 : 2 * D ≤ M) : M - (intOf (.int .i64 ((D : Int) * 2))).toNat < M - (intOf (.int .i64 (D : Int))).toNat := by simp [intOf]; omega
theorem wrap_D {D M : Nat} (h : D ≤ M) (h2 : M ≤ 200000000) : wrap64 ((D : Int) * 2) = ((2 * D : Nat) : Int) := by rw [Go.IntWalk.wrap64_in _ (by omega)]; omega
theorem few_D {D i m b M : Nat} (h : D ≤ 2 * i + 4 + (m + 1) * 2 ^ (i + 1)) (hi : i < b) (hb : b ≤ 12) (hM : 2 * (26 + (m + 1) * 4096) = M) : 2 * D ≤ M := by
  have : (m + 1) * 2 ^ (i + 1) ≤ (m + 1) * 4096 := Nat.mul_le_mul_left _ (show 2 ^ (i + 1) ≤ 2 ^ 12 from Nat.pow_le_pow_right (by decide) (by omega))
  omega
theorem LogI.wls {n d D m i low high P Q : Nat} {out : Int} (h : LogI n d D m i low high out P Q) : wl 64 low ≤ D + 2 ∧ wl 64 high ≤ D + 2 ∧ wl 64 (low * low) ≤ 2 * D + 4 ∧ wl 64 (high * high) ≤ 2 * D + 4 ∧ wl 64 (low * low / 2 ^ D) ≤ 2 * D + 4 ∧ wl 64 (ceilD (high * high) D) ≤ D + 3 := by
  have hh : high < 2 ^ (D + 2) := Nat.lt_of_le_of_lt h.top (Nat.pow_lt_pow_right (by decide) (by omega))
  have hl : low < 2 ^ (D + 2) := Nat.lt_of_le_of_lt h.lohi hh
  have e : 2 ^ (D + 2) * 2 ^ (D + 2) = 2 ^ (2 * D + 4) := by rw [← Nat.pow_add]; congr 1; omega
  have h1 : low * low < 2 ^ (2 * D + 4) := e ▸ Nat.mul_lt_mul'' hl hl
  have h2 : high * high < 2 ^ (2 * D + 4) := e ▸ Nat.mul_lt_mul'' hh hh
  exact ⟨wl_bits hl, wl_bits hh, wl_bits h1, wl_bits h2, wl_bits (Nat.lt_of_le_of_lt (Nat.div_le_self _ _) h1), wl_bits (Nat.lt_of_le_of_lt h.top2 (Nat.pow_lt_pow_right (by decide) (by omega)))⟩
theorem LogI.bound {n d D m i low high P Q : Nat} {out : Int} (h : LogI n d D m i low high out P Q) (hn : 0 < n) (hd : 0 < d) (h1 : n < 2 ^ m) (h2 : d < 2 ^ m) (hm : m ≤ 20000) (hi : i ≤ 12) : -81920000 ≤ out ∧ out ≤ 81920000 := by
  have hw := h.e.w h.pos h.le h.lt (pw_pos hd i)
  have hb := hw.bound (pw_pos hn i) (pw_pos hd i) (pw_lt h1 i) (pw_lt h2 i)
  have h3 : 2 ^ i ≤ 2 ^ 12 := Nat.pow_le_pow_right (by decide) hi
  have h4 : m * 2 ^ i ≤ 20000 * 2 ^ 12 := Nat.mul_le_mul hm h3
  omega
set_option maxRecDepth 100000 in
set_option maxHeartbeats 4000000 in
theorem llog_any (va : Value) (n d m b : Nat) (w : World) (ha : F64 w va n d) (hn0 : 0 < n) (hd0 : 0 < d) (hn : n < 2 ^ m) (hd : d < 2 ^ m) (hm : m ≤ 20000) (hb : b ≤ 12) :
    Calls Try.prog 37 #[va, .int .i64 (b : Nat)] w fun x w' => ∃ v, x = .returned (.tuple #[.int .i64 v, .int .i64 0]) ∧ LogW (n ^ 2 ^ b) (d ^ 2 ^ b) v ∧ Below w.heap.size w w' := by
  have Ha := Lib.hid ha
  obtain ⟨Pa, pa, ca, Qa, qa, ea, xa, rfl, _, _, _⟩ := ha
  have HNU := Lib.hid num_any
  have HDE := Lib.hid den_any
  have d1 : decide ((b : Int) < 0) = false := decide_eq_false (by omega)
  have d2 : decide (12 < (b : Int)) = false := decide_eq_false (by omega)
  have HWH := Lib.hid (fun v W h => lwhole_any v n d m W h hn0 hd0 hn hd hm)
  have hwk := wholeN_W hn0 hd0
  have hkb := wholeN_le hn0 hd0 hn hd
  obtain ⟨kk, hkk⟩ : ∃ k, wholeN n d = k := ⟨_, rfl⟩
  rw [hkk] at HWH hwk hkb
  have hk1 : -20000 ≤ kk := by omega
  have hk2 : kk ≤ 20000 := by omega
  have hs1 := wl_shl (j := (-kk).toNat) hn
  have hs2 := wl_shl (j := kk.toNat) hd
  have hwn := wl_bits hn
  have hwd := wl_bits hd
  have HU1 := Lib.hid (fun v W h => nup_any v n W h (by omega) (-kk) (by omega))
  have HU2 := Lib.hid (fun v W h => nup_any v d W h (by omega) kk (by omega))
  have HCM := Lib.hid (fun va vb W h1 h2 => ncmp_any va vb (n * 2 ^ (-kk).toNat) (d * 2 ^ kk.toNat) W h1 h2)
  obtain ⟨N', hN'⟩ : ∃ p, n * 2 ^ (-kk).toNat = p := ⟨_, rfl⟩
  obtain ⟨D', hD'⟩ : ∃ p, d * 2 ^ kk.toNat = p := ⟨_, rfl⟩
  rw [hN'] at HU1 HCM
  rw [hD'] at HU2 HCM
  clear hkk hs1 hs2 hwn hwd hkb
  by_cases heq : N' = D'
  · have heq2 : n * 2 ^ (-kk).toNat = d * 2 ^ kk.toNat := hN'.trans (heq.trans hD'.symm)
    have hc : cmpN N' D' = 0 := by rw [heq, cmpN_self]
    rw [hc] at HCM
    have hex := LogW.exact hd0 heq2 b
    have HEX := Lib.hid (LogW.of_eq (pw_pos hd0 b) hex)
    have HBB := Lib.hid hb
    clear heq2 hex hwk hn0 hd0 hn hd hm hN' hD' hb hc heq
    have e0 := Blk.new (w) 47 #[(.slice Pa pa ca), (.slice Qa qa ea)]
    have hb := cba (Below.refl _ w) (.cells #[(.slice Pa pa ca), (.slice Qa qa ea)] 47)
    have hsz : w.heap.size ≤ w.heap.size := Nat.le_refl _
    go_enter Try.func37, Try.ntmps37
    go_upto_region 1 with (fail)
    obtain ⟨S, hS⟩ : ∃ S, (w).alloc (.cells #[(.slice Pa pa ca), (.slice Qa qa ea)] 47) = S := ⟨_, rfl⟩
    rw [hS] at e0 hb ⊢
    replace Ha := Lib.hid (Ha.out.below hb)
    have HB0 := Lib.hid hb
    have E0 := Lib.hid e0
    clear hS hb hsz e0
    go_step3
    have k_E0_0 := E0.out.cell 0
    have k_E0_1 := E0.out.cell 1
    go_wp2_with fail
    with_reducible refine (HWH.out _ _ Ha.out).mono ?_
    rintro e w1 ⟨rfl, hb⟩
    clear k_E0_0 k_E0_1
    replace Ha := Lib.hid (Ha.out.below hb)
    replace E0 := Lib.hid (blk_below E0.out hb)
    replace HB0 := Lib.hid (cbt HB0.out hb)
    clear hb
    have k_E0_0 := E0.out.cell 0
    have k_E0_1 := E0.out.cell 1
    go_wp2_with fail
    clear k_E0_0 k_E0_1
    let FS : List Kept1 := [.f (n) (d), .n (n), .eq (.int .i64 kk), .eq (.int .i64 (-kk)), .n (N'), .f (n) (d), .n (d), .eq (.int .i64 kk), .n (D'), .eq (.int .i64 0), .eq (.bool true)]
    refine region_mono (Held w1 (fun j => FS.getD j .any) []) (by kernel_rfl) (by kernel_rfl) (by kernel_rfl) (Held.start _ _ _ (by simp) (by simp)) ?_
    refine Steps.held ?_ ?_
    · intro L v w' hJ
      have kb := hJ.out.blk E0.out (by simp [oldsOf])
      have k0 := kb.cell 0
      have k1 := kb.cell 1
      clear kb
      go_wp2_with fail
      exact ⟨rfl, rfl, hJ.out.same (by rfl) (Ha.out.keep hJ.out.held.keep)⟩
    simp only [Act.put, List.setIfInBounds_toArray, List.set_cons_zero, List.set_cons_succ, Nat.reduceAdd]
    refine Steps.held ?_ ?_
    · intro L v w' hJ
      have X0 := Lib.hid (show F64 w' (v 0) (n) (d) from hJ.out.fact 0 (by kernel_rfl))
      go_wp2_with fail
      with_reducible refine (HNU.out _ _ _ _ X0.out).mono ?_
      rintro e w1 ⟨u, rfl, hu, hb⟩
      go_wp2_with fail
      exact ⟨rfl, rfl, hJ.out.call (by rfl) hb (hu)⟩
    simp only [Act.put, List.setIfInBounds_toArray, List.set_cons_zero, List.set_cons_succ, Nat.reduceAdd]
    refine Steps.held ?_ ?_
    · intro L v w' hJ
      go_wp2_with fail
      exact ⟨rfl, rfl, hJ.out.same (by rfl) (rfl)⟩
    simp only [Act.put, List.setIfInBounds_toArray, List.set_cons_zero, List.set_cons_succ, Nat.reduceAdd]
    refine Steps.held ?_ ?_
    · intro L v w' hJ
      have hv2 : v 2 = .int .i64 kk := hJ.out.fact 2 (by kernel_rfl)
      simp only [hv2]
      clear hv2
      go_wp2_with fail
      exact ⟨rfl, rfl, hJ.out.same (by rfl) (rfl)⟩
    simp only [Act.put, List.setIfInBounds_toArray, List.set_cons_zero, List.set_cons_succ, Nat.reduceAdd]
    refine Steps.held ?_ ?_
    · intro L v w' hJ
      have hv3 : v 3 = .int .i64 (-kk) := hJ.out.fact 3 (by kernel_rfl)
      simp only [hv3]
      clear hv3
      have X0 := Lib.hid (show N64 w' (v 1) (n) from hJ.out.fact 1 (by kernel_rfl))
      go_wp2_with fail
      with_reducible refine (HU1.out _ _ X0.out).mono ?_
      rintro e w1 ⟨u, rfl, hu, hb⟩
      go_wp2_with fail
      exact ⟨rfl, rfl, hJ.out.call (by rfl) hb (hu)⟩
    simp only [Act.put, List.setIfInBounds_toArray, List.set_cons_zero, List.set_cons_succ, Nat.reduceAdd]
    refine Steps.held ?_ ?_
    · intro L v w' hJ
      have kb := hJ.out.blk E0.out (by simp [oldsOf])
      have k0 := kb.cell 0
      have k1 := kb.cell 1
      clear kb
      go_wp2_with fail
      exact ⟨rfl, rfl, hJ.out.same (by rfl) (Ha.out.keep hJ.out.held.keep)⟩
    simp only [Act.put, List.setIfInBounds_toArray, List.set_cons_zero, List.set_cons_succ, Nat.reduceAdd]
    refine Steps.held ?_ ?_
    · intro L v w' hJ
      have X0 := Lib.hid (show F64 w' (v 5) (n) (d) from hJ.out.fact 5 (by kernel_rfl))
      go_wp2_with fail
      with_reducible refine (HDE.out _ _ _ _ X0.out).mono ?_
      rintro e w1 ⟨u, rfl, hu, hb⟩
      go_wp2_with fail
      exact ⟨rfl, rfl, hJ.out.call (by rfl) hb (hu)⟩
    simp only [Act.put, List.setIfInBounds_toArray, List.set_cons_zero, List.set_cons_succ, Nat.reduceAdd]
    refine Steps.held ?_ ?_
    · intro L v w' hJ
      go_wp2_with fail
      exact ⟨rfl, rfl, hJ.out.same (by rfl) (rfl)⟩
    simp only [Act.put, List.setIfInBounds_toArray, List.set_cons_zero, List.set_cons_succ, Nat.reduceAdd]
    refine Steps.held ?_ ?_
    · intro L v w' hJ
      have hv7 : v 7 = .int .i64 kk := hJ.out.fact 7 (by kernel_rfl)
      simp only [hv7]
      clear hv7
      have X0 := Lib.hid (show N64 w' (v 6) (d) from hJ.out.fact 6 (by kernel_rfl))
      go_wp2_with fail
      with_reducible refine (HU2.out _ _ X0.out).mono ?_
      rintro e w1 ⟨u, rfl, hu, hb⟩
      go_wp2_with fail
      exact ⟨rfl, rfl, hJ.out.call (by rfl) hb (hu)⟩
    simp only [Act.put, List.setIfInBounds_toArray, List.set_cons_zero, List.set_cons_succ, Nat.reduceAdd]
    refine Steps.held ?_ ?_
    · intro L v w' hJ
      have X0 := Lib.hid (show N64 w' (v 4) (N') from hJ.out.fact 4 (by kernel_rfl))
      have X1 := Lib.hid (show N64 w' (v 8) (D') from hJ.out.fact 8 (by kernel_rfl))
      go_wp2_with fail
      with_reducible refine (HCM.out _ _ _ X0.out X1.out).mono ?_
      rintro e w1 ⟨rfl, hb⟩
      go_wp2_with fail
      exact ⟨rfl, rfl, hJ.out.call (by rfl) hb (rfl)⟩
    simp only [Act.put, List.setIfInBounds_toArray, List.set_cons_zero, List.set_cons_succ, Nat.reduceAdd]
    refine Steps.held ?_ ?_
    · intro L v w' hJ
      have hv9 : v 9 = .int .i64 0 := hJ.out.fact 9 (by kernel_rfl)
      simp only [hv9]
      clear hv9
      go_wp2_with fail
      exact ⟨rfl, rfl, hJ.out.same (by rfl) (rfl)⟩
    simp only [Act.put, List.setIfInBounds_toArray, List.set_cons_zero, List.set_cons_succ, Nat.reduceAdd]
    refine Steps.nil ?_
    intro v w' hJ
    have h10 : v 10 = .bool true := hJ.end_fact 10 (by decide)
    simp only [h10]
    clear h10
    have hbr := hJ.but.below
    replace Ha := Lib.hid (Ha.out.below hbr)
    replace E0 := Lib.hid (blk_below E0.out hbr)
    replace HB0 := Lib.hid (cbt HB0.out hbr)
    clear hJ hbr
    have hb := HBB.out
    go_wp2_with fail
    have hv : wrap64 (kk * wrap64 (2 ^ b)) = kk * 2 ^ b := by
      have hp := two_le12 hb
      have hm := mul_bound hk1 hk2 (Int.le_of_lt hp.1) hp.2
      rw [Go.IntWalk.wrap64_in (2 ^ b) (by omega), Go.IntWalk.wrap64_in _ (by omega)]
    simp only [hv]
    rw [Exit.noGoto_ret]
    exact bodyPost_ret (v := .tuple #[.int .i64 (kk * 2 ^ b), .int .i64 0]) (by simp [results, Try.results37, go_sem]) rfl ⟨_, rfl, HEX.out, HB0.out⟩
  · have hNP := Lib.hid ((NoPow.of_ne hd0 hwk (fun h => heq (hN'.symm.trans (h.trans hD')))).pw hn0 hd0)
    have hcc : (cmpN N' D' == 0) = false := beq_eq_false_iff_ne.2 (by unfold cmpN; split; decide; split; decide; omega)
    obtain ⟨cc, hce⟩ : ∃ c, cmpN N' D' = c := ⟨_, rfl⟩
    rw [hce] at HCM hcc
    have HWK := Lib.hid hwk
    have HD0 := Lib.hid hd0
    have HN0 := Lib.hid hn0
    have HNM := Lib.hid hn
    have HDM' := Lib.hid hd
    have HMM := Lib.hid hm
    have HBB := Lib.hid hb
    have HSC := Lib.hid (fun v W D h hD => lscaled_any v n d m kk D W h hd0 hn hd hm hk1 hk2 hD)
    clear hce heq hwk hn0 hd0 hn hd hm hN' hD' hb
    have e0 := Blk.new (w) 47 #[(.slice Pa pa ca), (.slice Qa qa ea)]
    have hb := cba (Below.refl _ w) (.cells #[(.slice Pa pa ca), (.slice Qa qa ea)] 47)
    have hsz : w.heap.size ≤ w.heap.size := Nat.le_refl _
    go_enter Try.func37, Try.ntmps37
    go_upto_region 1 with (fail)
    obtain ⟨S, hS⟩ : ∃ S, (w).alloc (.cells #[(.slice Pa pa ca), (.slice Qa qa ea)] 47) = S := ⟨_, rfl⟩
    rw [hS] at e0 hb ⊢
    replace Ha := Lib.hid (Ha.out.below hb)
    have HB0 := Lib.hid hb
    have E0 := Lib.hid e0
    clear hS hb hsz e0
    go_step3
    have k_E0_0 := E0.out.cell 0
    have k_E0_1 := E0.out.cell 1
    go_wp2_with fail
    with_reducible refine (HWH.out _ _ Ha.out).mono ?_
    rintro e w1 ⟨rfl, hb⟩
    clear k_E0_0 k_E0_1
    replace Ha := Lib.hid (Ha.out.below hb)
    replace E0 := Lib.hid (blk_below E0.out hb)
    replace HB0 := Lib.hid (cbt HB0.out hb)
    clear hb
    have k_E0_0 := E0.out.cell 0
    have k_E0_1 := E0.out.cell 1
    go_wp2_with fail
    clear k_E0_0 k_E0_1
    let FS : List Kept1 := [.f (n) (d), .n (n), .eq (.int .i64 kk), .eq (.int .i64 (-kk)), .n (N'), .f (n) (d), .n (d), .eq (.int .i64 kk), .n (D'), .eq (.int .i64 cc), .eq (.bool false)]
    refine region_mono (Held w1 (fun j => FS.getD j .any) []) (by kernel_rfl) (by kernel_rfl) (by kernel_rfl) (Held.start _ _ _ (by simp) (by simp)) ?_
    refine Steps.held ?_ ?_
    · intro L v w' hJ
      have kb := hJ.out.blk E0.out (by simp [oldsOf])
      have k0 := kb.cell 0
      have k1 := kb.cell 1
      clear kb
      go_wp2_with fail
      exact ⟨rfl, rfl, hJ.out.same (by rfl) (Ha.out.keep hJ.out.held.keep)⟩
    simp only [Act.put, List.setIfInBounds_toArray, List.set_cons_zero, List.set_cons_succ, Nat.reduceAdd]
    refine Steps.held ?_ ?_
    · intro L v w' hJ
      have X0 := Lib.hid (show F64 w' (v 0) (n) (d) from hJ.out.fact 0 (by kernel_rfl))
      go_wp2_with fail
      with_reducible refine (HNU.out _ _ _ _ X0.out).mono ?_
      rintro e w1 ⟨u, rfl, hu, hb⟩
      go_wp2_with fail
      exact ⟨rfl, rfl, hJ.out.call (by rfl) hb (hu)⟩
    simp only [Act.put, List.setIfInBounds_toArray, List.set_cons_zero, List.set_cons_succ, Nat.reduceAdd]
    refine Steps.held ?_ ?_
    · intro L v w' hJ
      go_wp2_with fail
      exact ⟨rfl, rfl, hJ.out.same (by rfl) (rfl)⟩
    simp only [Act.put, List.setIfInBounds_toArray, List.set_cons_zero, List.set_cons_succ, Nat.reduceAdd]
    refine Steps.held ?_ ?_
    · intro L v w' hJ
      have hv2 : v 2 = .int .i64 kk := hJ.out.fact 2 (by kernel_rfl)
      simp only [hv2]
      clear hv2
      go_wp2_with fail
      exact ⟨rfl, rfl, hJ.out.same (by rfl) (rfl)⟩
    simp only [Act.put, List.setIfInBounds_toArray, List.set_cons_zero, List.set_cons_succ, Nat.reduceAdd]
    refine Steps.held ?_ ?_
    · intro L v w' hJ
      have hv3 : v 3 = .int .i64 (-kk) := hJ.out.fact 3 (by kernel_rfl)
      simp only [hv3]
      clear hv3
      have X0 := Lib.hid (show N64 w' (v 1) (n) from hJ.out.fact 1 (by kernel_rfl))
      go_wp2_with fail
      with_reducible refine (HU1.out _ _ X0.out).mono ?_
      rintro e w1 ⟨u, rfl, hu, hb⟩
      go_wp2_with fail
      exact ⟨rfl, rfl, hJ.out.call (by rfl) hb (hu)⟩
    simp only [Act.put, List.setIfInBounds_toArray, List.set_cons_zero, List.set_cons_succ, Nat.reduceAdd]
    refine Steps.held ?_ ?_
    · intro L v w' hJ
      have kb := hJ.out.blk E0.out (by simp [oldsOf])
      have k0 := kb.cell 0
      have k1 := kb.cell 1
      clear kb
      go_wp2_with fail
      exact ⟨rfl, rfl, hJ.out.same (by rfl) (Ha.out.keep hJ.out.held.keep)⟩
    simp only [Act.put, List.setIfInBounds_toArray, List.set_cons_zero, List.set_cons_succ, Nat.reduceAdd]
    refine Steps.held ?_ ?_
    · intro L v w' hJ
      have X0 := Lib.hid (show F64 w' (v 5) (n) (d) from hJ.out.fact 5 (by kernel_rfl))
      go_wp2_with fail
      with_reducible refine (HDE.out _ _ _ _ X0.out).mono ?_
      rintro e w1 ⟨u, rfl, hu, hb⟩
      go_wp2_with fail
      exact ⟨rfl, rfl, hJ.out.call (by rfl) hb (hu)⟩
    simp only [Act.put, List.setIfInBounds_toArray, List.set_cons_zero, List.set_cons_succ, Nat.reduceAdd]
    refine Steps.held ?_ ?_
    · intro L v w' hJ
      go_wp2_with fail
      exact ⟨rfl, rfl, hJ.out.same (by rfl) (rfl)⟩
    simp only [Act.put, List.setIfInBounds_toArray, List.set_cons_zero, List.set_cons_succ, Nat.reduceAdd]
    refine Steps.held ?_ ?_
    · intro L v w' hJ
      have hv7 : v 7 = .int .i64 kk := hJ.out.fact 7 (by kernel_rfl)
      simp only [hv7]
      clear hv7
      have X0 := Lib.hid (show N64 w' (v 6) (d) from hJ.out.fact 6 (by kernel_rfl))
      go_wp2_with fail
      with_reducible refine (HU2.out _ _ X0.out).mono ?_
      rintro e w1 ⟨u, rfl, hu, hb⟩
      go_wp2_with fail
      exact ⟨rfl, rfl, hJ.out.call (by rfl) hb (hu)⟩
    simp only [Act.put, List.setIfInBounds_toArray, List.set_cons_zero, List.set_cons_succ, Nat.reduceAdd]
    refine Steps.held ?_ ?_
    · intro L v w' hJ
      have X0 := Lib.hid (show N64 w' (v 4) (N') from hJ.out.fact 4 (by kernel_rfl))
      have X1 := Lib.hid (show N64 w' (v 8) (D') from hJ.out.fact 8 (by kernel_rfl))
      go_wp2_with fail
      with_reducible refine (HCM.out _ _ _ X0.out X1.out).mono ?_
      rintro e w1 ⟨rfl, hb⟩
      go_wp2_with fail
      exact ⟨rfl, rfl, hJ.out.call (by rfl) hb (rfl)⟩
    simp only [Act.put, List.setIfInBounds_toArray, List.set_cons_zero, List.set_cons_succ, Nat.reduceAdd]
    refine Steps.held ?_ ?_
    · intro L v w' hJ
      have hv9 : v 9 = .int .i64 cc := hJ.out.fact 9 (by kernel_rfl)
      simp only [hv9]
      clear hv9
      go_wp2_with fail
      exact ⟨rfl, rfl, hJ.out.same (by rfl) (rfl)⟩
    simp only [Act.put, List.setIfInBounds_toArray, List.set_cons_zero, List.set_cons_succ, Nat.reduceAdd]
    refine Steps.nil ?_
    intro v w' hJ
    have h10 : v 10 = .bool false := hJ.end_fact 10 (by decide)
    simp only [h10]
    clear h10
    have hbr := hJ.but.below
    replace Ha := Lib.hid (Ha.out.below hbr)
    replace E0 := Lib.hid (blk_below E0.out hbr)
    replace HB0 := Lib.hid (cbt HB0.out hbr)
    clear hJ hbr
    go_wp2_with fail
    go_step3
    go_wp2_with fail
    have hm0 := HMM.out
    obtain ⟨DM, hDM⟩ : ∃ j, 2 * (26 + (m + 1) * 4096) = j := ⟨_, rfl⟩
    have hDM1 : 96 ≤ DM := by omega
    have hDM2 : DM ≤ 200000000 := by omega
    have HDM := Lib.hid hDM
    clear hDM hm0
    go_loopw [8] (fun v8 wr => ∃ D : Nat, v8 = .int .i64 D ∧ D ≤ DM ∧ Hid (1 ≤ D) ∧ Hid (Below w'.heap.size w' wr)) (fun v8 _ => DM - (intOf v8).toNat)
    case atStart => exact ⟨96, rfl, hDM1, Lib.hid (by decide), Lib.hid (Below.refl _ _)⟩
    case round =>
      obtain ⟨D, rfl, hD, hD1, hBr⟩ := hrel
      rename World => wo
      have E0r := Lib.hid (blk_below E0.out hBr.out)
      have Har := Lib.hid (Ha.out.below hBr.out)
      have k00 := E0r.out.cell 0
      have k01 := E0r.out.cell 1
      have HSD := Lib.hid (HSC.out _ wo D Har.out (by omega))
      have HST := Lib.hid (LogI.start (D := D) HD0.out HWK.out HNM.out HDM'.out rfl rfl)
      obtain ⟨P0, hP0⟩ : ∃ p, n * 2 ^ (-kk).toNat = p := ⟨_, rfl⟩
      obtain ⟨Q0, hQ0⟩ : ∃ p, d * 2 ^ kk.toNat = p := ⟨_, rfl⟩
      rw [hP0, hQ0] at HSD HST
      obtain ⟨low0, hl0⟩ : ∃ p, P0 * 2 ^ D / Q0 = p := ⟨_, rfl⟩
      obtain ⟨rm, hrm⟩ : ∃ p, P0 * 2 ^ D % Q0 = p := ⟨_, rfl⟩
      rw [hl0, hrm] at HSD HST
      clear hP0 hQ0 hl0 hrm
      have w1l : wl 64 1 ≤ 1 := w64_lit (by decide)
      have HTW := Lib.hid (fun v W h => nup_any v 1 W h (by omega) ((D : Int) + 1) (by omega))
      rw [show ((D : Int) + 1).toNat = D + 1 by omega, Nat.one_mul] at HTW
      obtain ⟨T2, hT2⟩ : ∃ t, 2 ^ (D + 1) = t := ⟨_, rfl⟩
      have HT2 := Lib.hid hT2
      rw [hT2] at HTW
      have HON : Hid (∀ W, Calls Try.prog 50 #[.int .u64 1] W (fun e w' => ∃ v, e = .returned v ∧ N64 w' v 1 ∧ Below W.heap.size W w')) := Lib.hid (fun W => of_any 1 (by decide) W)
      clear hT2
      by_cases hrem : rm = 0
      · rw [if_pos hrem] at HST
        rw [decide_eq_true hrem] at HSD
        rw [Nat.add_zero] at HST
        clear hrem
        have HB1 := Lib.hid (Below.refl wo.heap.size wo)
        go_wp2_with fail
        refine HSD.out.mono ?_
        rintro _ w2 ⟨u9, rfl, hu, hb⟩
        have N9 := Lib.hid hu
        replace HB1 := Lib.hid (cbt HB1.out hb)
        clear hu hb k00 k01 HSD
        have hg9 := HB1.out.size
        have Z0 := N9.out
        obtain ⟨PT0, cpT0, rfl, _, _, _⟩ := Z0
        have e9 := Blk.new w2 26 #[.slice PT0 (wl 64 (low0)) cpT0]
        have hb := cba (Below.refl _ w2) (.cells #[.slice PT0 (wl 64 (low0)) cpT0] 26)
        go_upto_region 11 with (fail)
        obtain ⟨T, hS⟩ : ∃ S, (w2.alloc (.cells #[.slice PT0 (wl 64 (low0)) cpT0] 26)) = S := ⟨_, rfl⟩
        rw [hS] at e9 hb ⊢
        obtain ⟨g9, hg⟩ : ∃ g, w2.heap.size = g := ⟨_, rfl⟩
        rw [hg] at e9 hg9
        simp only [hg]
        replace N9 := Lib.hid (N9.out.below hb)
        replace HB1 := Lib.hid (cbt HB1.out hb)
        have E9 := Lib.hid e9
        clear hS hg hb e9
        have HG9 := Lib.hid hg9
        clear hg9
        have k9 := E9.out.cell 0
        have N11 := N9
        have e11 := Blk.new T 26 #[.slice PT0 (wl 64 low0) cpT0]
        have hb := cba (Below.refl _ T) (.cells #[.slice PT0 (wl 64 low0) cpT0] 26)
        have h911 : g9 < T.heap.size := E9.out.lt
        have hge9 : wo.heap.size ≤ g9 := HG9.out
        have hge := HB1.out.size
        go_upto_region 12 with (fail)
        obtain ⟨U, hU⟩ : ∃ S, T.alloc (.cells #[.slice PT0 (wl 64 low0) cpT0] 26) = S := ⟨_, rfl⟩
        rw [hU] at e11 hb ⊢
        obtain ⟨g11, hg⟩ : ∃ g, T.heap.size = g := ⟨_, rfl⟩
        rw [hg] at e11 h911 hge
        simp only [hg]
        replace N9 := Lib.hid (N9.out.below hb)
        replace N11 := Lib.hid (N11.out.below hb)
        replace E9 := Lib.hid (blk_below E9.out hb)
        replace HB1 := Lib.hid (cbt HB1.out hb)
        have E11 := Lib.hid e11
        have HGE := Lib.hid hge
        clear hge hge9
        clear hU hg hb e11 k9
        go_wp2_with fail
        have BLO := Lib.hid (show Box U g9 low0 from ⟨PT0, cpT0, E9.out, N9.out⟩)
        have BHI := Lib.hid (show Box U g11 low0 from ⟨PT0, cpT0, E11.out, N11.out⟩)
        clear E9 N9 E11 N11
        go_wp2_with fail
        with_reducible refine (HON.out _).mono ?_
        rintro _ w4 ⟨u12, rfl, hu, hb⟩
        replace BLO := Lib.hid (BLO.out.below hb)
        replace BHI := Lib.hid (BHI.out.below hb)
        replace HB1 := Lib.hid (cbt HB1.out hb)
        have N1 := Lib.hid hu
        clear hu hb
        go_wp2_with fail
        with_reducible refine (HTW.out _ _ N1.out).mono ?_
        rintro _ w5 ⟨u13, rfl, hu, hb⟩
        replace BLO := Lib.hid (BLO.out.below hb)
        replace BHI := Lib.hid (BHI.out.below hb)
        replace HB1 := Lib.hid (cbt HB1.out hb)
        have N12 := Lib.hid hu
        clear hu hb N1
        have h1112 : g11 < w5.heap.size := by obtain ⟨_, _, h, _⟩ := BHI.out; exact h.lt
        have Z0 := N12.out
        obtain ⟨PV0, cpV0, rfl, _, _, _⟩ := Z0
        have e12 := Blk.new w5 26 #[.slice PV0 (wl 64 (T2)) cpV0]
        have hb := cba (Below.refl _ w5) (.cells #[.slice PV0 (wl 64 (T2)) cpV0] 26)
        go_upto_region 15 with (fail)
        obtain ⟨V, hS⟩ : ∃ S, (w5.alloc (.cells #[.slice PV0 (wl 64 (T2)) cpV0] 26)) = S := ⟨_, rfl⟩
        rw [hS] at e12 hb ⊢
        obtain ⟨g12, hg⟩ : ∃ g, w5.heap.size = g := ⟨_, rfl⟩
        rw [hg] at e12 h1112
        simp only [hg]
        replace N12 := Lib.hid (N12.out.below hb)
        replace BLO := Lib.hid (BLO.out.below hb)
        replace BHI := Lib.hid (BHI.out.below hb)
        replace HB1 := Lib.hid (cbt HB1.out hb)
        have E12 := Lib.hid e12
        clear hS hg hb e12
        have BT0 := Lib.hid (show Box V g12 T2 from ⟨_, _, E12.out, N12.out⟩)
        clear E12 N12
        have HNP := Lib.hid hNP.out
        clear HSC HTW HON E0r Har HWH HU1 HU2 HCM HNU HDE
        go_wp2_with fail
        go_loopw [13, 64] (fun v13 v64 wx => ∃ (i low high P Q : Nat) (out : Int), i ≤ b ∧ v64 = .int .i64 (i : Nat) ∧ v13 = .int .i64 out ∧ Hid (LogI n d D m i low high out P Q) ∧ Hid (Box wx g9 low) ∧ Hid (Box wx g11 high) ∧ Hid (Box wx g12 T2) ∧ Hid (Below wo.heap.size wo wx)) (fun _ v64 _ => b - (intOf v64).toNat)
        case atStart => exact ⟨0, _, _, P0, Q0, kk, Nat.zero_le b, rfl, rfl, HST, BLO, BHI, BT0, HB1⟩
        case round =>
          obtain ⟨i, low, high, P, Q, out, hib, rfl, rfl, HI, BL, BH, BT, HB⟩ := hrel
          obtain ⟨PL, cL, hk, hn⟩ := BL.out
          have E9 := Lib.hid hk
          have NL := Lib.hid hn
          obtain ⟨PH, cH, hk, hn⟩ := BH.out
          have E11 := Lib.hid hk
          have NH := Lib.hid hn
          clear hk hn BL BH BLO BHI BT0 HST HB1
          have hbb := HBB.out
          have hob := HI.out.bound HN0.out HD0.out HNM.out HDM'.out HMM.out (show i ≤ 12 by omega)
          by_cases hlt : i < b
          · have dlt : decide ((i : Int) < (b : Int)) = true := decide_eq_true (by omega)
            have hwl := HI.out.wls
            have hw2 : wrap64 (out * 2) = 2 * out := by rw [Go.IntWalk.wrap64_in (out * 2) (by omega)]; omega
            have hw3 : wrap64 ((i : Int) + 1) = ((i + 1 : Nat) : Int) := by rw [Go.IntWalk.wrap64_in _ (by omega)]; omega
            have HM1 := Lib.hid (fun va vb W h1 h2 => nmul_any va vb low low W h1 h2 (by omega) (by omega))
            have HM2 := Lib.hid (fun va vb W h1 h2 => nmul_any va vb high high W h1 h2 (by omega) (by omega))
            have HDW := Lib.hid (fun v W h => ndown_any v (low * low) W h (by omega) (D : Int) (by omega))
            rw [Int.toNat_natCast] at HDW
            have HHF := Lib.hid (fun v W h => lhalf_any v (high * high) D W h (by omega) (by omega))
            have HDW1 := Lib.hid (fun v W h => ndown_any v (low * low / 2 ^ D) W h (by omega) 1 (by omega))
            rw [show (1 : Int).toNat = 1 from rfl] at HDW1
            have HHF1 := Lib.hid (fun v W h => lhalf_any v (ceilD (high * high) D) 1 W h (by omega) (by omega))
            rw [show ((1 : Nat) : Int) = 1 from rfl] at HHF1
            have HC1 := Lib.hid (fun va vb W h1 h2 => ncmp_any va vb (low * low / 2 ^ D) T2 W h1 h2)
            have HC2 := Lib.hid (fun va vb W h1 h2 => ncmp_any va vb (ceilD (high * high) D) T2 W h1 h2)
            have HONE := Lib.hid (fun h : 2 ^ (D + 1) ≤ low * low / 2 ^ D => HI.out.one h)
            have HNONE := Lib.hid (fun h : ceilD (high * high) D ≤ 2 ^ (D + 1) => HI.out.none (HNP.out (i + 1)) h)
            have HFEW := Lib.hid (fun (h1 : low * low / 2 ^ D < 2 ^ (D + 1)) (h2 : 2 ^ (D + 1) < ceilD (high * high) D) => HI.out.few (HNP.out (i + 1)) h1 h2)
            rw [HT2.out] at HONE HNONE HFEW
            obtain ⟨lo2, hlo2⟩ : ∃ x, low * low / 2 ^ D = x := ⟨_, rfl⟩
            obtain ⟨hi2, hhi2⟩ : ∃ x, ceilD (high * high) D = x := ⟨_, rfl⟩
            rw [hlo2] at HDW HDW1 HC1 HONE HNONE HFEW
            rw [hhi2] at HHF HHF1 HC2 HONE HNONE HFEW
            clear hwl hlo2 hhi2 hbb
            go_wp2_with fail
            let FS : List Kept1 := [.n (low), .n (low), .n (low * low), .eq (.int .i64 (D : Nat)), .n (lo2), .n (high), .n (high), .n (high * high), .eq (.int .i64 (D : Nat)), .n (hi2), .any, .any]
            let BS : List Bx := [Bx.nat (.inr (g9)) 10 #[(.slice PL (wl 64 low) cL)] (lo2), Bx.nat (.inr (g11)) 11 #[(.slice PH (wl 64 high) cH)] (hi2)]
            refine region_mono (Held wr (fun j => FS.getD j .any) BS) (by kernel_rfl) (by kernel_rfl) (by kernel_rfl) (Held.start _ _ _ (by simp [BS, Bx.nat, Bx.rat, Bx.ref] <;> exact ⟨E9.out, E11.out⟩) (by simp [BS, Bx.nat, Bx.rat, Bx.ref] <;> omega)) ?_
            refine Steps.held ?_ ?_
            · intro L v w' hJ
              have kb := hJ.out.yet 0 _ rfl (g9) rfl (by kernel_rfl)
              have k0 : w'.cell? ⟨g9, 0, none⟩ = some (.slice PL (wl 64 low) cL) := kb.cell 0
              clear kb
              go_wp2_with fail
              exact ⟨rfl, rfl, hJ.out.same (by rfl) (NL.out.keep hJ.out.held.keep)⟩
            simp only [Act.put, List.setIfInBounds_toArray, List.set_cons_zero, List.set_cons_succ, Nat.reduceAdd]
            refine Steps.held ?_ ?_
            · intro L v w' hJ
              have kb := hJ.out.yet 0 _ rfl (g9) rfl (by kernel_rfl)
              have k0 : w'.cell? ⟨g9, 0, none⟩ = some (.slice PL (wl 64 low) cL) := kb.cell 0
              clear kb
              go_wp2_with fail
              exact ⟨rfl, rfl, hJ.out.same (by rfl) (NL.out.keep hJ.out.held.keep)⟩
            simp only [Act.put, List.setIfInBounds_toArray, List.set_cons_zero, List.set_cons_succ, Nat.reduceAdd]
            refine Steps.held ?_ ?_
            · intro L v w' hJ
              have X0 := Lib.hid (show N64 w' (v 0) (low) from hJ.out.fact 0 (by kernel_rfl))
              have X1 := Lib.hid (show N64 w' (v 1) (low) from hJ.out.fact 1 (by kernel_rfl))
              go_wp2_with fail
              with_reducible refine (HM1.out _ _ _ X0.out X1.out).mono ?_
              rintro e w1 ⟨u, rfl, hu, hb⟩
              go_wp2_with fail
              exact ⟨rfl, rfl, hJ.out.call (by rfl) hb (hu)⟩
            simp only [Act.put, List.setIfInBounds_toArray, List.set_cons_zero, List.set_cons_succ, Nat.reduceAdd]
            refine Steps.held ?_ ?_
            · intro L v w' hJ
              go_wp2_with fail
              exact ⟨rfl, rfl, hJ.out.same (by rfl) (rfl)⟩
            simp only [Act.put, List.setIfInBounds_toArray, List.set_cons_zero, List.set_cons_succ, Nat.reduceAdd]
            refine Steps.held ?_ ?_
            · intro L v w' hJ
              have hv3 : v 3 = .int .i64 (D : Nat) := hJ.out.fact 3 (by kernel_rfl)
              simp only [hv3]
              clear hv3
              have X0 := Lib.hid (show N64 w' (v 2) (low * low) from hJ.out.fact 2 (by kernel_rfl))
              go_wp2_with fail
              with_reducible refine (HDW.out _ _ X0.out).mono ?_
              rintro e w1 ⟨u, rfl, hu, hb⟩
              go_wp2_with fail
              exact ⟨rfl, rfl, hJ.out.call (by rfl) hb (hu)⟩
            simp only [Act.put, List.setIfInBounds_toArray, List.set_cons_zero, List.set_cons_succ, Nat.reduceAdd]
            refine Steps.held ?_ ?_
            · intro L v w' hJ
              have kb := hJ.out.yet 1 _ rfl (g11) rfl (by kernel_rfl)
              have k0 : w'.cell? ⟨g11, 0, none⟩ = some (.slice PH (wl 64 high) cH) := kb.cell 0
              clear kb
              go_wp2_with fail
              exact ⟨rfl, rfl, hJ.out.same (by rfl) (NH.out.keep hJ.out.held.keep)⟩
            simp only [Act.put, List.setIfInBounds_toArray, List.set_cons_zero, List.set_cons_succ, Nat.reduceAdd]
            refine Steps.held ?_ ?_
            · intro L v w' hJ
              have kb := hJ.out.yet 1 _ rfl (g11) rfl (by kernel_rfl)
              have k0 : w'.cell? ⟨g11, 0, none⟩ = some (.slice PH (wl 64 high) cH) := kb.cell 0
              clear kb
              go_wp2_with fail
              exact ⟨rfl, rfl, hJ.out.same (by rfl) (NH.out.keep hJ.out.held.keep)⟩
            simp only [Act.put, List.setIfInBounds_toArray, List.set_cons_zero, List.set_cons_succ, Nat.reduceAdd]
            refine Steps.held ?_ ?_
            · intro L v w' hJ
              have X0 := Lib.hid (show N64 w' (v 5) (high) from hJ.out.fact 5 (by kernel_rfl))
              have X1 := Lib.hid (show N64 w' (v 6) (high) from hJ.out.fact 6 (by kernel_rfl))
              go_wp2_with fail
              with_reducible refine (HM2.out _ _ _ X0.out X1.out).mono ?_
              rintro e w1 ⟨u, rfl, hu, hb⟩
              go_wp2_with fail
              exact ⟨rfl, rfl, hJ.out.call (by rfl) hb (hu)⟩
            simp only [Act.put, List.setIfInBounds_toArray, List.set_cons_zero, List.set_cons_succ, Nat.reduceAdd]
            refine Steps.held ?_ ?_
            · intro L v w' hJ
              go_wp2_with fail
              exact ⟨rfl, rfl, hJ.out.same (by rfl) (rfl)⟩
            simp only [Act.put, List.setIfInBounds_toArray, List.set_cons_zero, List.set_cons_succ, Nat.reduceAdd]
            refine Steps.held ?_ ?_
            · intro L v w' hJ
              have hv8 : v 8 = .int .i64 (D : Nat) := hJ.out.fact 8 (by kernel_rfl)
              simp only [hv8]
              clear hv8
              have X0 := Lib.hid (show N64 w' (v 7) (high * high) from hJ.out.fact 7 (by kernel_rfl))
              go_wp2_with fail
              with_reducible refine (HHF.out _ _ X0.out).mono ?_
              rintro e w1 ⟨u, rfl, hu, hb⟩
              go_wp2_with fail
              exact ⟨rfl, rfl, hJ.out.call (by rfl) hb (hu)⟩
            simp only [Act.put, List.setIfInBounds_toArray, List.set_cons_zero, List.set_cons_succ, Nat.reduceAdd]
            refine Steps.held ?_ ?_
            · intro L v w' hJ
              obtain ⟨hown, hst⟩ := hJ.out.oldbox 0 _ rfl (g9) rfl
              have hN : N64 w' (v 4) (lo2) := hJ.out.fact 4 (by kernel_rfl)
              obtain ⟨P, c, hv, h1, h2, h3⟩ := hN
              have HN := Lib.hid (show N64 w' (.agg #[.slice P (wl 64 (lo2)) c]) (lo2) from ⟨P, c, rfl, h1, h2, h3⟩)
              have kb := hJ.out.box 0 _ rfl rfl (g9) hown
              have k0 : w'.cell? ⟨(g9), 0, none⟩ = some ((.slice PL (wl 64 low) cL)) := kb.cell 0
              have f0 := kb.frozen 0
              have HO := Lib.hid hown
              have HS := Lib.hid hst
              clear kb h1 h2 h3 hown hst
              simp only [hv]
              clear hv
              go_wp2_with fail
              exact ⟨rfl, rfl, hJ.out.fill1 0 _ rfl rfl (by rfl) (g9) HO.out HS.out _ rfl rfl (fun W k => ⟨P, c, rfl, HN.out.keep k⟩) (fun _ => trivial)⟩
            simp only [Act.put, List.setIfInBounds_toArray, List.set_cons_zero, List.set_cons_succ, Nat.reduceAdd]
            refine Steps.held ?_ ?_
            · intro L v w' hJ
              obtain ⟨hown, hst⟩ := hJ.out.oldbox 1 _ rfl (g11) rfl
              have hN : N64 w' (v 9) (hi2) := hJ.out.fact 9 (by kernel_rfl)
              obtain ⟨P, c, hv, h1, h2, h3⟩ := hN
              have HN := Lib.hid (show N64 w' (.agg #[.slice P (wl 64 (hi2)) c]) (hi2) from ⟨P, c, rfl, h1, h2, h3⟩)
              have kb := hJ.out.box 1 _ rfl rfl (g11) hown
              have k0 : w'.cell? ⟨(g11), 0, none⟩ = some ((.slice PH (wl 64 high) cH)) := kb.cell 0
              have f0 := kb.frozen 0
              have HO := Lib.hid hown
              have HS := Lib.hid hst
              clear kb h1 h2 h3 hown hst
              simp only [hv]
              clear hv
              go_wp2_with fail
              exact ⟨rfl, rfl, hJ.out.fill1 1 _ rfl rfl (by rfl) (g11) HO.out HS.out _ rfl rfl (fun W k => ⟨P, c, rfl, HN.out.keep k⟩) (fun _ => trivial)⟩
            simp only [Act.put, List.setIfInBounds_toArray, List.set_cons_zero, List.set_cons_succ, Nat.reduceAdd]
            refine Steps.nil ?_
            intro v w' hJ
            obtain ⟨cs, hblk, hf⟩ := hJ.end_old 0 _ rfl g9 rfl (Nat.le_of_ble_eq_true rfl)
            obtain ⟨PL2, cPL2, rfl, hNL⟩ := hf
            obtain ⟨cs, hblk2, hf⟩ := hJ.end_old 1 _ rfl g11 rfl (Nat.le_of_ble_eq_true rfl)
            obtain ⟨PH2, cPH2, rfl, hNH⟩ := hf
            obtain ⟨PT, cT, hT, hTn⟩ := BT.out
            have hng : g12 ∉ oldsOf BS := by simp [oldsOf, BS, Bx.nat, Bx.rat, Bx.ref]; omega
            replace HB := Lib.hid (hJ.but.to_below HB.out HB.out.size (by intro g hg; have h1 := HGE.out; have h2 := HG9.out; simp [oldsOf, BS, Bx.nat, Bx.rat, Bx.ref] at hg; rcases hg with rfl | rfl <;> omega))
            replace BT := Lib.hid (show Box w' g12 T2 from ⟨PT, cT, hJ.but.blk hT hng, hTn.keep hJ.keep⟩)
            replace E9 := Lib.hid (show Blk w' g9 26 #[.slice PL2 (wl 64 (lo2)) cPL2] from hblk)
            replace E11 := Lib.hid (show Blk w' g11 26 #[.slice PH2 (wl 64 (hi2)) cPH2] from hblk2)
            replace NL := Lib.hid (show N64 w' (.agg #[.slice PL2 (wl 64 (lo2)) cPL2]) (lo2) from hNL)
            replace NH := Lib.hid (show N64 w' (.agg #[.slice PH2 (wl 64 (hi2)) cPH2]) (hi2) from hNH)
            clear hJ hblk hblk2 hNL hNH hT hTn hng
            clear BS FS
            obtain ⟨PT, cT, hT, hTn⟩ := BT.out
            have k9 := E9.out.cell 0
            have k12 := hT.cell 0
            go_wp2_with fail
            with_reducible refine (HC1.out _ _ _ NL.out hTn).mono ?_
            rintro _ w6 ⟨rfl, hb⟩
            clear hT hTn k9 k12
            replace E9 := Lib.hid (blk_below E9.out hb)
            replace E11 := Lib.hid (blk_below E11.out hb)
            replace NL := Lib.hid (NL.out.below hb)
            replace NH := Lib.hid (NH.out.below hb)
            replace BT := Lib.hid (BT.out.below hb)
            replace HB := Lib.hid (cbt HB.out hb)
            clear hb
            by_cases hge : T2 ≤ lo2
            · have dge : decide (0 ≤ cmpN lo2 T2) = true := decide_eq_true (cmpN_ge hge)
              go_wp2_with fail
              let FS : List Kept1 := [.n (lo2), .n (lo2 / 2 ^ 1), .n (hi2), .n (ceilD hi2 1), .any, .any]
              let BS : List Bx := [Bx.nat (.inr (g9)) 4 #[(.slice PL2 (wl 64 lo2) cPL2)] (lo2 / 2 ^ 1), Bx.nat (.inr (g11)) 5 #[(.slice PH2 (wl 64 hi2) cPH2)] (ceilD hi2 1)]
              refine region_mono (Held w6 (fun j => FS.getD j .any) BS) (by kernel_rfl) (by kernel_rfl) (by kernel_rfl) (Held.start _ _ _ (by simp [BS, Bx.nat, Bx.rat, Bx.ref] <;> exact ⟨E9.out, E11.out⟩) (by simp [BS, Bx.nat, Bx.rat, Bx.ref] <;> omega)) ?_
              refine Steps.held ?_ ?_
              · intro L v w' hJ
                have kb := hJ.out.yet 0 _ rfl (g9) rfl (by kernel_rfl)
                have k0 : w'.cell? ⟨g9, 0, none⟩ = some (.slice PL2 (wl 64 lo2) cPL2) := kb.cell 0
                clear kb
                go_wp2_with fail
                exact ⟨rfl, rfl, hJ.out.same (by rfl) (NL.out.keep hJ.out.held.keep)⟩
              simp only [Act.put, List.setIfInBounds_toArray, List.set_cons_zero, List.set_cons_succ, Nat.reduceAdd]
              refine Steps.held ?_ ?_
              · intro L v w' hJ
                have X0 := Lib.hid (show N64 w' (v 0) (lo2) from hJ.out.fact 0 (by kernel_rfl))
                go_wp2_with fail
                with_reducible refine (HDW1.out _ _ X0.out).mono ?_
                rintro e w1 ⟨u, rfl, hu, hb⟩
                go_wp2_with fail
                exact ⟨rfl, rfl, hJ.out.call (by rfl) hb (hu)⟩
              simp only [Act.put, List.setIfInBounds_toArray, List.set_cons_zero, List.set_cons_succ, Nat.reduceAdd]
              refine Steps.held ?_ ?_
              · intro L v w' hJ
                have kb := hJ.out.yet 1 _ rfl (g11) rfl (by kernel_rfl)
                have k0 : w'.cell? ⟨g11, 0, none⟩ = some (.slice PH2 (wl 64 hi2) cPH2) := kb.cell 0
                clear kb
                go_wp2_with fail
                exact ⟨rfl, rfl, hJ.out.same (by rfl) (NH.out.keep hJ.out.held.keep)⟩
              simp only [Act.put, List.setIfInBounds_toArray, List.set_cons_zero, List.set_cons_succ, Nat.reduceAdd]
              refine Steps.held ?_ ?_
              · intro L v w' hJ
                have X0 := Lib.hid (show N64 w' (v 2) (hi2) from hJ.out.fact 2 (by kernel_rfl))
                go_wp2_with fail
                with_reducible refine (HHF1.out _ _ X0.out).mono ?_
                rintro e w1 ⟨u, rfl, hu, hb⟩
                go_wp2_with fail
                exact ⟨rfl, rfl, hJ.out.call (by rfl) hb (hu)⟩
              simp only [Act.put, List.setIfInBounds_toArray, List.set_cons_zero, List.set_cons_succ, Nat.reduceAdd]
              refine Steps.held ?_ ?_
              · intro L v w' hJ
                obtain ⟨hown, hst⟩ := hJ.out.oldbox 0 _ rfl (g9) rfl
                have hN : N64 w' (v 1) (lo2 / 2 ^ 1) := hJ.out.fact 1 (by kernel_rfl)
                obtain ⟨P, c, hv, h1, h2, h3⟩ := hN
                have HN := Lib.hid (show N64 w' (.agg #[.slice P (wl 64 (lo2 / 2 ^ 1)) c]) (lo2 / 2 ^ 1) from ⟨P, c, rfl, h1, h2, h3⟩)
                have kb := hJ.out.box 0 _ rfl rfl (g9) hown
                have k0 : w'.cell? ⟨(g9), 0, none⟩ = some ((.slice PL2 (wl 64 lo2) cPL2)) := kb.cell 0
                have f0 := kb.frozen 0
                have HO := Lib.hid hown
                have HS := Lib.hid hst
                clear kb h1 h2 h3 hown hst
                simp only [hv]
                clear hv
                go_wp2_with fail
                exact ⟨rfl, rfl, hJ.out.fill1 0 _ rfl rfl (by rfl) (g9) HO.out HS.out _ rfl rfl (fun W k => ⟨P, c, rfl, HN.out.keep k⟩) (fun _ => trivial)⟩
              simp only [Act.put, List.setIfInBounds_toArray, List.set_cons_zero, List.set_cons_succ, Nat.reduceAdd]
              refine Steps.held ?_ ?_
              · intro L v w' hJ
                obtain ⟨hown, hst⟩ := hJ.out.oldbox 1 _ rfl (g11) rfl
                have hN : N64 w' (v 3) (ceilD hi2 1) := hJ.out.fact 3 (by kernel_rfl)
                obtain ⟨P, c, hv, h1, h2, h3⟩ := hN
                have HN := Lib.hid (show N64 w' (.agg #[.slice P (wl 64 (ceilD hi2 1)) c]) (ceilD hi2 1) from ⟨P, c, rfl, h1, h2, h3⟩)
                have kb := hJ.out.box 1 _ rfl rfl (g11) hown
                have k0 : w'.cell? ⟨(g11), 0, none⟩ = some ((.slice PH2 (wl 64 hi2) cPH2)) := kb.cell 0
                have f0 := kb.frozen 0
                have HO := Lib.hid hown
                have HS := Lib.hid hst
                clear kb h1 h2 h3 hown hst
                simp only [hv]
                clear hv
                go_wp2_with fail
                exact ⟨rfl, rfl, hJ.out.fill1 1 _ rfl rfl (by rfl) (g11) HO.out HS.out _ rfl rfl (fun W k => ⟨P, c, rfl, HN.out.keep k⟩) (fun _ => trivial)⟩
              simp only [Act.put, List.setIfInBounds_toArray, List.set_cons_zero, List.set_cons_succ, Nat.reduceAdd]
              refine Steps.nil ?_
              intro v w' hJ
              obtain ⟨cs, hblk, hf⟩ := hJ.end_old 0 _ rfl g9 rfl (Nat.le_of_ble_eq_true rfl)
              obtain ⟨PL3, cPL3, rfl, hNL⟩ := hf
              obtain ⟨cs, hblk2, hf⟩ := hJ.end_old 1 _ rfl g11 rfl (Nat.le_of_ble_eq_true rfl)
              obtain ⟨PH3, cPH3, rfl, hNH⟩ := hf
              obtain ⟨PT, cT, hT, hTn⟩ := BT.out
              have hng : g12 ∉ oldsOf BS := by simp [oldsOf, BS, Bx.nat, Bx.rat, Bx.ref]; omega
              replace HB := Lib.hid (hJ.but.to_below HB.out HB.out.size (by intro g hg; have h1 := HGE.out; have h2 := HG9.out; simp [oldsOf, BS, Bx.nat, Bx.rat, Bx.ref] at hg; rcases hg with rfl | rfl <;> omega))
              replace BT := Lib.hid (show Box w' g12 T2 from ⟨PT, cT, hJ.but.blk hT hng, hTn.keep hJ.keep⟩)
              replace E9 := Lib.hid (show Blk w' g9 26 #[.slice PL3 (wl 64 (lo2 / 2 ^ 1)) cPL3] from hblk)
              replace E11 := Lib.hid (show Blk w' g11 26 #[.slice PH3 (wl 64 (ceilD hi2 1)) cPH3] from hblk2)
              replace NL := Lib.hid (show N64 w' (.agg #[.slice PL3 (wl 64 (lo2 / 2 ^ 1)) cPL3]) (lo2 / 2 ^ 1) from hNL)
              replace NH := Lib.hid (show N64 w' (.agg #[.slice PH3 (wl 64 (ceilD hi2 1)) cPH3]) (ceilD hi2 1) from hNH)
              clear hJ hblk hblk2 hNL hNH hT hTn hng
              clear BS FS
              have HI2 := Lib.hid (HONE.out hge)
              go_wp2_with fail
              exact ⟨⟨i + 1, _, _, _, _, _, Nat.succ_le_of_lt hlt, congrArg (Value.int .i64) hw3, congrArg (Value.int .i64) (two_out1 out), HI2, Lib.hid ⟨_, _, E9.out, NL.out⟩, Lib.hid ⟨_, _, E11.out, NH.out⟩, BT, HB⟩, by rw [hw3]; exact less_i hlt⟩
            · have dge : decide (0 ≤ cmpN lo2 T2) = false := by rw [cmpN_lt (Nat.lt_of_not_le hge)]; rfl
              obtain ⟨PT, cT, hT, hTn⟩ := BT.out
              have k11 := E11.out.cell 0
              have k12 := hT.cell 0
              go_wp2_with fail
              with_reducible refine (HC2.out _ _ _ NH.out hTn).mono ?_
              rintro _ w7 ⟨rfl, hb⟩
              clear hT hTn k11 k12
              replace E9 := Lib.hid (blk_below E9.out hb)
              replace E11 := Lib.hid (blk_below E11.out hb)
              replace NL := Lib.hid (NL.out.below hb)
              replace NH := Lib.hid (NH.out.below hb)
              replace BT := Lib.hid (BT.out.below hb)
              replace HB := Lib.hid (cbt HB.out hb)
              clear hb
              by_cases hgt : T2 < hi2
              · have dgt : decide (0 < cmpN hi2 T2) = true := by rw [cmpN_gt hgt]; rfl
                have hf := HFEW.out (Nat.lt_of_not_le hge) hgt
                have hw5 := wrap_D hD hDM2
                have HN2 := Lib.hid (cbt hBr.out HB.out)
                have hD2 := few_D hf hlt HBB.out HDM.out
                have hD3 := hD1.out
                clear hf
                go_wp2_with fail
                exact ⟨⟨2 * D, congrArg (Value.int .i64) (two_D D), hD2, Lib.hid (two_pos_D hD3), HN2⟩, less_D hD3 hD2⟩
              · have dgt : decide (0 < cmpN hi2 T2) = false := by
                  rcases Nat.lt_or_eq_of_le (Nat.le_of_not_lt hgt) with h | h
                  · rw [cmpN_lt h]; rfl
                  · rw [h, cmpN_self]; rfl
                have HI2 := Lib.hid (HNONE.out (Nat.le_of_not_lt hgt))
                go_wp2_with fail
                exact ⟨⟨i + 1, _, _, _, _, _, Nat.succ_le_of_lt hlt, congrArg (Value.int .i64) hw3, congrArg (Value.int .i64) (Int.mul_comm out 2), HI2, Lib.hid ⟨_, _, E9.out, NL.out⟩, Lib.hid ⟨_, _, E11.out, NH.out⟩, BT, HB⟩, by rw [hw3]; exact less_i hlt⟩
          · have hie : i = b := by omega
            subst hie
            have dlt : decide ((i : Int) < (i : Int)) = false := decide_eq_false (by omega)
            have HW := Lib.hid (HI.out.e.w HI.out.pos HI.out.le HI.out.lt (pw_pos HD0.out i))
            have HEND := Lib.hid (cbt HB0.out (cbt hBr.out HB.out))
            go_wp2_with fail
            rw [Exit.noGoto_ret]
            exact bodyPost_ret (v := .tuple #[.int .i64 out, .int .i64 0]) (by simp [results, Try.results37, go_sem]) rfl ⟨out, rfl, HW.out, HEND.out⟩
      · rw [if_neg hrem] at HST
        rw [decide_eq_false hrem] at HSD
        have hlw := HST.out.top
        have hlw2 := wl_bits (Nat.lt_of_le_of_lt (Nat.le_trans (Nat.le_succ low0) hlw) (Nat.pow_lt_pow_right (a := 2) (by decide) (Nat.lt_succ_self (D + 1))))
        have HAD := Lib.hid (fun va vb W h1 h2 => nadd_any va vb low0 1 W h1 h2 (by omega) (by omega))
        clear hlw hlw2
        clear hrem
        have HB1 := Lib.hid (Below.refl wo.heap.size wo)
        go_wp2_with fail
        refine HSD.out.mono ?_
        rintro _ w2 ⟨u9, rfl, hu, hb⟩
        have N9 := Lib.hid hu
        replace HB1 := Lib.hid (cbt HB1.out hb)
        clear hu hb k00 k01 HSD
        have hg9 := HB1.out.size
        have Z0 := N9.out
        obtain ⟨PT0, cpT0, rfl, _, _, _⟩ := Z0
        have e9 := Blk.new w2 26 #[.slice PT0 (wl 64 (low0)) cpT0]
        have hb := cba (Below.refl _ w2) (.cells #[.slice PT0 (wl 64 (low0)) cpT0] 26)
        go_upto_region 11 with (fail)
        obtain ⟨T, hS⟩ : ∃ S, (w2.alloc (.cells #[.slice PT0 (wl 64 (low0)) cpT0] 26)) = S := ⟨_, rfl⟩
        rw [hS] at e9 hb ⊢
        obtain ⟨g9, hg⟩ : ∃ g, w2.heap.size = g := ⟨_, rfl⟩
        rw [hg] at e9 hg9
        simp only [hg]
        replace N9 := Lib.hid (N9.out.below hb)
        replace HB1 := Lib.hid (cbt HB1.out hb)
        have E9 := Lib.hid e9
        clear hS hg hb e9
        have HG9 := Lib.hid hg9
        clear hg9
        have k9 := E9.out.cell 0
        have N11 := N9
        have e11 := Blk.new T 26 #[.slice PT0 (wl 64 low0) cpT0]
        have hb := cba (Below.refl _ T) (.cells #[.slice PT0 (wl 64 low0) cpT0] 26)
        have h911 : g9 < T.heap.size := E9.out.lt
        have hge9 : wo.heap.size ≤ g9 := HG9.out
        have hge := HB1.out.size
        go_upto_region 12 with (fail)
        obtain ⟨U, hU⟩ : ∃ S, T.alloc (.cells #[.slice PT0 (wl 64 low0) cpT0] 26) = S := ⟨_, rfl⟩
        rw [hU] at e11 hb ⊢
        obtain ⟨g11, hg⟩ : ∃ g, T.heap.size = g := ⟨_, rfl⟩
        rw [hg] at e11 h911 hge
        simp only [hg]
        replace N9 := Lib.hid (N9.out.below hb)
        replace N11 := Lib.hid (N11.out.below hb)
        replace E9 := Lib.hid (blk_below E9.out hb)
        replace HB1 := Lib.hid (cbt HB1.out hb)
        have E11 := Lib.hid e11
        have HGE := Lib.hid hge
        clear hge hge9
        clear hU hg hb e11 k9
        go_wp2_with fail
        let FS : List Kept1 := [.n (low0), .n (1), .n (low0 + 1), .any]
        let BS : List Bx := [Bx.nat (.inr (g11)) 3 #[(.slice PT0 (wl 64 low0) cpT0)] (low0 + 1)]
        refine region_mono (Held U (fun j => FS.getD j .any) BS) (by kernel_rfl) (by kernel_rfl) (by kernel_rfl) (Held.start _ _ _ (by simp [BS, Bx.nat, Bx.rat, Bx.ref] <;> exact E11.out) (by simp [BS, Bx.nat, Bx.rat, Bx.ref])) ?_
        refine Steps.held ?_ ?_
        · intro L v w' hJ
          have kb := hJ.out.blk E9.out (by simp [oldsOf, BS, Bx.nat, Bx.rat, Bx.ref] <;> omega)
          have k0 := kb.cell 0
          clear kb
          go_wp2_with fail
          exact ⟨rfl, rfl, hJ.out.same (by rfl) (N9.out.keep hJ.out.held.keep)⟩
        simp only [Act.put, List.setIfInBounds_toArray, List.set_cons_zero, List.set_cons_succ, Nat.reduceAdd]
        refine Steps.held ?_ ?_
        · intro L v w' hJ
          go_wp2_with fail
          with_reducible refine (HON.out _).mono ?_
          rintro e w1 ⟨u, rfl, hu, hb⟩
          go_wp2_with fail
          exact ⟨rfl, rfl, hJ.out.call (by rfl) hb (hu)⟩
        simp only [Act.put, List.setIfInBounds_toArray, List.set_cons_zero, List.set_cons_succ, Nat.reduceAdd]
        refine Steps.held ?_ ?_
        · intro L v w' hJ
          have X0 := Lib.hid (show N64 w' (v 0) (low0) from hJ.out.fact 0 (by kernel_rfl))
          have X1 := Lib.hid (show N64 w' (v 1) (1) from hJ.out.fact 1 (by kernel_rfl))
          go_wp2_with fail
          with_reducible refine (HAD.out _ _ _ X0.out X1.out).mono ?_
          rintro e w1 ⟨u, rfl, hu, hb⟩
          go_wp2_with fail
          exact ⟨rfl, rfl, hJ.out.call (by rfl) hb (hu)⟩
        simp only [Act.put, List.setIfInBounds_toArray, List.set_cons_zero, List.set_cons_succ, Nat.reduceAdd]
        refine Steps.held ?_ ?_
        · intro L v w' hJ
          obtain ⟨hown, hst⟩ := hJ.out.oldbox 0 _ rfl (g11) rfl
          have hN : N64 w' (v 2) (low0 + 1) := hJ.out.fact 2 (by kernel_rfl)
          obtain ⟨P, c, hv, h1, h2, h3⟩ := hN
          have HN := Lib.hid (show N64 w' (.agg #[.slice P (wl 64 (low0 + 1)) c]) (low0 + 1) from ⟨P, c, rfl, h1, h2, h3⟩)
          have kb := hJ.out.box 0 _ rfl rfl (g11) hown
          have k0 : w'.cell? ⟨(g11), 0, none⟩ = some ((.slice PT0 (wl 64 low0) cpT0)) := kb.cell 0
          have f0 := kb.frozen 0
          have HO := Lib.hid hown
          have HS := Lib.hid hst
          clear kb h1 h2 h3 hown hst
          simp only [hv]
          clear hv
          go_wp2_with fail
          exact ⟨rfl, rfl, hJ.out.fill1 0 _ rfl rfl (by rfl) (g11) HO.out HS.out _ rfl rfl (fun W k => ⟨P, c, rfl, HN.out.keep k⟩) (fun _ => trivial)⟩
        simp only [Act.put, List.setIfInBounds_toArray, List.set_cons_zero, List.set_cons_succ, Nat.reduceAdd]
        refine Steps.nil ?_
        intro v w' hJ
        obtain ⟨cs, hblk, hf⟩ := hJ.end_old 0 _ rfl g11 rfl (Nat.le_of_ble_eq_true rfl)
        obtain ⟨PH, cH, rfl, hN⟩ := hf
        replace E9 := Lib.hid (hJ.but.blk E9.out (by simp [oldsOf, BS, Bx.nat, Bx.rat, Bx.ref]; omega))
        replace N9 := Lib.hid (N9.out.keep hJ.keep)
        replace N11 := Lib.hid hN
        replace E11 := Lib.hid (show Blk w' g11 26 _ from hblk)
        replace HB1 := Lib.hid (hJ.but.to_below HB1.out HB1.out.size (by intro g hg; simp [oldsOf, BS, Bx.nat, Bx.rat, Bx.ref] at hg; subst hg; have := HGE.out; omega))
        clear hJ hblk hN
        have BHI := Lib.hid (show Box w' g11 (low0 + 1) from ⟨PH, cH, E11.out, N11.out⟩)
        have BLO := Lib.hid (show Box w' g9 low0 from ⟨PT0, cpT0, E9.out, N9.out⟩)
        clear E9 N9 E11 N11
        go_wp2_with fail
        with_reducible refine (HON.out _).mono ?_
        rintro _ w4 ⟨u12, rfl, hu, hb⟩
        replace BLO := Lib.hid (BLO.out.below hb)
        replace BHI := Lib.hid (BHI.out.below hb)
        replace HB1 := Lib.hid (cbt HB1.out hb)
        have N1 := Lib.hid hu
        clear hu hb
        go_wp2_with fail
        with_reducible refine (HTW.out _ _ N1.out).mono ?_
        rintro _ w5 ⟨u13, rfl, hu, hb⟩
        replace BLO := Lib.hid (BLO.out.below hb)
        replace BHI := Lib.hid (BHI.out.below hb)
        replace HB1 := Lib.hid (cbt HB1.out hb)
        have N12 := Lib.hid hu
        clear hu hb N1
        have h1112 : g11 < w5.heap.size := by obtain ⟨_, _, h, _⟩ := BHI.out; exact h.lt
        have Z0 := N12.out
        obtain ⟨PV0, cpV0, rfl, _, _, _⟩ := Z0
        have e12 := Blk.new w5 26 #[.slice PV0 (wl 64 (T2)) cpV0]
        have hb := cba (Below.refl _ w5) (.cells #[.slice PV0 (wl 64 (T2)) cpV0] 26)
        go_upto_region 15 with (fail)
        obtain ⟨V, hS⟩ : ∃ S, (w5.alloc (.cells #[.slice PV0 (wl 64 (T2)) cpV0] 26)) = S := ⟨_, rfl⟩
        rw [hS] at e12 hb ⊢
        obtain ⟨g12, hg⟩ : ∃ g, w5.heap.size = g := ⟨_, rfl⟩
        rw [hg] at e12 h1112
        simp only [hg]
        replace N12 := Lib.hid (N12.out.below hb)
        replace BLO := Lib.hid (BLO.out.below hb)
        replace BHI := Lib.hid (BHI.out.below hb)
        replace HB1 := Lib.hid (cbt HB1.out hb)
        have E12 := Lib.hid e12
        clear hS hg hb e12
        have BT0 := Lib.hid (show Box V g12 T2 from ⟨_, _, E12.out, N12.out⟩)
        clear E12 N12
        have HNP := Lib.hid hNP.out
        clear HSC HTW HON E0r Har HWH HU1 HU2 HCM HNU HDE
        go_wp2_with fail
        go_loopw [13, 64] (fun v13 v64 wx => ∃ (i low high P Q : Nat) (out : Int), i ≤ b ∧ v64 = .int .i64 (i : Nat) ∧ v13 = .int .i64 out ∧ Hid (LogI n d D m i low high out P Q) ∧ Hid (Box wx g9 low) ∧ Hid (Box wx g11 high) ∧ Hid (Box wx g12 T2) ∧ Hid (Below wo.heap.size wo wx)) (fun _ v64 _ => b - (intOf v64).toNat)
        case atStart => exact ⟨0, _, _, P0, Q0, kk, Nat.zero_le b, rfl, rfl, HST, BLO, BHI, BT0, HB1⟩
        case round =>
          obtain ⟨i, low, high, P, Q, out, hib, rfl, rfl, HI, BL, BH, BT, HB⟩ := hrel
          obtain ⟨PL, cL, hk, hn⟩ := BL.out
          have E9 := Lib.hid hk
          have NL := Lib.hid hn
          obtain ⟨PH, cH, hk, hn⟩ := BH.out
          have E11 := Lib.hid hk
          have NH := Lib.hid hn
          clear hk hn BL BH BLO BHI BT0 HST HB1
          have hbb := HBB.out
          have hob := HI.out.bound HN0.out HD0.out HNM.out HDM'.out HMM.out (show i ≤ 12 by omega)
          by_cases hlt : i < b
          · have dlt : decide ((i : Int) < (b : Int)) = true := decide_eq_true (by omega)
            have hwl := HI.out.wls
            have hw2 : wrap64 (out * 2) = 2 * out := by rw [Go.IntWalk.wrap64_in (out * 2) (by omega)]; omega
            have hw3 : wrap64 ((i : Int) + 1) = ((i + 1 : Nat) : Int) := by rw [Go.IntWalk.wrap64_in _ (by omega)]; omega
            have HM1 := Lib.hid (fun va vb W h1 h2 => nmul_any va vb low low W h1 h2 (by omega) (by omega))
            have HM2 := Lib.hid (fun va vb W h1 h2 => nmul_any va vb high high W h1 h2 (by omega) (by omega))
            have HDW := Lib.hid (fun v W h => ndown_any v (low * low) W h (by omega) (D : Int) (by omega))
            rw [Int.toNat_natCast] at HDW
            have HHF := Lib.hid (fun v W h => lhalf_any v (high * high) D W h (by omega) (by omega))
            have HDW1 := Lib.hid (fun v W h => ndown_any v (low * low / 2 ^ D) W h (by omega) 1 (by omega))
            rw [show (1 : Int).toNat = 1 from rfl] at HDW1
            have HHF1 := Lib.hid (fun v W h => lhalf_any v (ceilD (high * high) D) 1 W h (by omega) (by omega))
            rw [show ((1 : Nat) : Int) = 1 from rfl] at HHF1
            have HC1 := Lib.hid (fun va vb W h1 h2 => ncmp_any va vb (low * low / 2 ^ D) T2 W h1 h2)
            have HC2 := Lib.hid (fun va vb W h1 h2 => ncmp_any va vb (ceilD (high * high) D) T2 W h1 h2)
            have HONE := Lib.hid (fun h : 2 ^ (D + 1) ≤ low * low / 2 ^ D => HI.out.one h)
            have HNONE := Lib.hid (fun h : ceilD (high * high) D ≤ 2 ^ (D + 1) => HI.out.none (HNP.out (i + 1)) h)
            have HFEW := Lib.hid (fun (h1 : low * low / 2 ^ D < 2 ^ (D + 1)) (h2 : 2 ^ (D + 1) < ceilD (high * high) D) => HI.out.few (HNP.out (i + 1)) h1 h2)
            rw [HT2.out] at HONE HNONE HFEW
            obtain ⟨lo2, hlo2⟩ : ∃ x, low * low / 2 ^ D = x := ⟨_, rfl⟩
            obtain ⟨hi2, hhi2⟩ : ∃ x, ceilD (high * high) D = x := ⟨_, rfl⟩
            rw [hlo2] at HDW HDW1 HC1 HONE HNONE HFEW
            rw [hhi2] at HHF HHF1 HC2 HONE HNONE HFEW
            clear hwl hlo2 hhi2 hbb
            go_wp2_with fail
            let FS : List Kept1 := [.n (low), .n (low), .n (low * low), .eq (.int .i64 (D : Nat)), .n (lo2), .n (high), .n (high), .n (high * high), .eq (.int .i64 (D : Nat)), .n (hi2), .any, .any]
            let BS : List Bx := [Bx.nat (.inr (g9)) 10 #[(.slice PL (wl 64 low) cL)] (lo2), Bx.nat (.inr (g11)) 11 #[(.slice PH (wl 64 high) cH)] (hi2)]
            refine region_mono (Held wr (fun j => FS.getD j .any) BS) (by kernel_rfl) (by kernel_rfl) (by kernel_rfl) (Held.start _ _ _ (by simp [BS, Bx.nat, Bx.rat, Bx.ref] <;> exact ⟨E9.out, E11.out⟩) (by simp [BS, Bx.nat, Bx.rat, Bx.ref] <;> omega)) ?_
            refine Steps.held ?_ ?_
            · intro L v w' hJ
              have kb := hJ.out.yet 0 _ rfl (g9) rfl (by kernel_rfl)
              have k0 : w'.cell? ⟨g9, 0, none⟩ = some (.slice PL (wl 64 low) cL) := kb.cell 0
              clear kb
              go_wp2_with fail
              exact ⟨rfl, rfl, hJ.out.same (by rfl) (NL.out.keep hJ.out.held.keep)⟩
            simp only [Act.put, List.setIfInBounds_toArray, List.set_cons_zero, List.set_cons_succ, Nat.reduceAdd]
            refine Steps.held ?_ ?_
            · intro L v w' hJ
              have kb := hJ.out.yet 0 _ rfl (g9) rfl (by kernel_rfl)
              have k0 : w'.cell? ⟨g9, 0, none⟩ = some (.slice PL (wl 64 low) cL) := kb.cell 0
              clear kb
              go_wp2_with fail
              exact ⟨rfl, rfl, hJ.out.same (by rfl) (NL.out.keep hJ.out.held.keep)⟩
            simp only [Act.put, List.setIfInBounds_toArray, List.set_cons_zero, List.set_cons_succ, Nat.reduceAdd]
            refine Steps.held ?_ ?_
            · intro L v w' hJ
              have X0 := Lib.hid (show N64 w' (v 0) (low) from hJ.out.fact 0 (by kernel_rfl))
              have X1 := Lib.hid (show N64 w' (v 1) (low) from hJ.out.fact 1 (by kernel_rfl))
              go_wp2_with fail
              with_reducible refine (HM1.out _ _ _ X0.out X1.out).mono ?_
              rintro e w1 ⟨u, rfl, hu, hb⟩
              go_wp2_with fail
              exact ⟨rfl, rfl, hJ.out.call (by rfl) hb (hu)⟩
            simp only [Act.put, List.setIfInBounds_toArray, List.set_cons_zero, List.set_cons_succ, Nat.reduceAdd]
            refine Steps.held ?_ ?_
            · intro L v w' hJ
              go_wp2_with fail
              exact ⟨rfl, rfl, hJ.out.same (by rfl) (rfl)⟩
            simp only [Act.put, List.setIfInBounds_toArray, List.set_cons_zero, List.set_cons_succ, Nat.reduceAdd]
            refine Steps.held ?_ ?_
            · intro L v w' hJ
              have hv3 : v 3 = .int .i64 (D : Nat) := hJ.out.fact 3 (by kernel_rfl)
              simp only [hv3]
              clear hv3
              have X0 := Lib.hid (show N64 w' (v 2) (low * low) from hJ.out.fact 2 (by kernel_rfl))
              go_wp2_with fail
              with_reducible refine (HDW.out _ _ X0.out).mono ?_
              rintro e w1 ⟨u, rfl, hu, hb⟩
              go_wp2_with fail
              exact ⟨rfl, rfl, hJ.out.call (by rfl) hb (hu)⟩
            simp only [Act.put, List.setIfInBounds_toArray, List.set_cons_zero, List.set_cons_succ, Nat.reduceAdd]
            refine Steps.held ?_ ?_
            · intro L v w' hJ
              have kb := hJ.out.yet 1 _ rfl (g11) rfl (by kernel_rfl)
              have k0 : w'.cell? ⟨g11, 0, none⟩ = some (.slice PH (wl 64 high) cH) := kb.cell 0
              clear kb
              go_wp2_with fail
              exact ⟨rfl, rfl, hJ.out.same (by rfl) (NH.out.keep hJ.out.held.keep)⟩
            simp only [Act.put, List.setIfInBounds_toArray, List.set_cons_zero, List.set_cons_succ, Nat.reduceAdd]
            refine Steps.held ?_ ?_
            · intro L v w' hJ
              have kb := hJ.out.yet 1 _ rfl (g11) rfl (by kernel_rfl)
              have k0 : w'.cell? ⟨g11, 0, none⟩ = some (.slice PH (wl 64 high) cH) := kb.cell 0
              clear kb
              go_wp2_with fail
              exact ⟨rfl, rfl, hJ.out.same (by rfl) (NH.out.keep hJ.out.held.keep)⟩
            simp only [Act.put, List.setIfInBounds_toArray, List.set_cons_zero, List.set_cons_succ, Nat.reduceAdd]
            refine Steps.held ?_ ?_
            · intro L v w' hJ
              have X0 := Lib.hid (show N64 w' (v 5) (high) from hJ.out.fact 5 (by kernel_rfl))
              have X1 := Lib.hid (show N64 w' (v 6) (high) from hJ.out.fact 6 (by kernel_rfl))
              go_wp2_with fail
              with_reducible refine (HM2.out _ _ _ X0.out X1.out).mono ?_
              rintro e w1 ⟨u, rfl, hu, hb⟩
              go_wp2_with fail
              exact ⟨rfl, rfl, hJ.out.call (by rfl) hb (hu)⟩
            simp only [Act.put, List.setIfInBounds_toArray, List.set_cons_zero, List.set_cons_succ, Nat.reduceAdd]
            refine Steps.held ?_ ?_
            · intro L v w' hJ
              go_wp2_with fail
              exact ⟨rfl, rfl, hJ.out.same (by rfl) (rfl)⟩
            simp only [Act.put, List.setIfInBounds_toArray, List.set_cons_zero, List.set_cons_succ, Nat.reduceAdd]
            refine Steps.held ?_ ?_
            · intro L v w' hJ
              have hv8 : v 8 = .int .i64 (D : Nat) := hJ.out.fact 8 (by kernel_rfl)
              simp only [hv8]
              clear hv8
              have X0 := Lib.hid (show N64 w' (v 7) (high * high) from hJ.out.fact 7 (by kernel_rfl))
              go_wp2_with fail
              with_reducible refine (HHF.out _ _ X0.out).mono ?_
              rintro e w1 ⟨u, rfl, hu, hb⟩
              go_wp2_with fail
              exact ⟨rfl, rfl, hJ.out.call (by rfl) hb (hu)⟩
            simp only [Act.put, List.setIfInBounds_toArray, List.set_cons_zero, List.set_cons_succ, Nat.reduceAdd]
            refine Steps.held ?_ ?_
            · intro L v w' hJ
              obtain ⟨hown, hst⟩ := hJ.out.oldbox 0 _ rfl (g9) rfl
              have hN : N64 w' (v 4) (lo2) := hJ.out.fact 4 (by kernel_rfl)
              obtain ⟨P, c, hv, h1, h2, h3⟩ := hN
              have HN := Lib.hid (show N64 w' (.agg #[.slice P (wl 64 (lo2)) c]) (lo2) from ⟨P, c, rfl, h1, h2, h3⟩)
              have kb := hJ.out.box 0 _ rfl rfl (g9) hown
              have k0 : w'.cell? ⟨(g9), 0, none⟩ = some ((.slice PL (wl 64 low) cL)) := kb.cell 0
              have f0 := kb.frozen 0
              have HO := Lib.hid hown
              have HS := Lib.hid hst
              clear kb h1 h2 h3 hown hst
              simp only [hv]
              clear hv
              go_wp2_with fail
              exact ⟨rfl, rfl, hJ.out.fill1 0 _ rfl rfl (by rfl) (g9) HO.out HS.out _ rfl rfl (fun W k => ⟨P, c, rfl, HN.out.keep k⟩) (fun _ => trivial)⟩
            simp only [Act.put, List.setIfInBounds_toArray, List.set_cons_zero, List.set_cons_succ, Nat.reduceAdd]
            refine Steps.held ?_ ?_
            · intro L v w' hJ
              obtain ⟨hown, hst⟩ := hJ.out.oldbox 1 _ rfl (g11) rfl
              have hN : N64 w' (v 9) (hi2) := hJ.out.fact 9 (by kernel_rfl)
              obtain ⟨P, c, hv, h1, h2, h3⟩ := hN
              have HN := Lib.hid (show N64 w' (.agg #[.slice P (wl 64 (hi2)) c]) (hi2) from ⟨P, c, rfl, h1, h2, h3⟩)
              have kb := hJ.out.box 1 _ rfl rfl (g11) hown
              have k0 : w'.cell? ⟨(g11), 0, none⟩ = some ((.slice PH (wl 64 high) cH)) := kb.cell 0
              have f0 := kb.frozen 0
              have HO := Lib.hid hown
              have HS := Lib.hid hst
              clear kb h1 h2 h3 hown hst
              simp only [hv]
              clear hv
              go_wp2_with fail
              exact ⟨rfl, rfl, hJ.out.fill1 1 _ rfl rfl (by rfl) (g11) HO.out HS.out _ rfl rfl (fun W k => ⟨P, c, rfl, HN.out.keep k⟩) (fun _ => trivial)⟩
            simp only [Act.put, List.setIfInBounds_toArray, List.set_cons_zero, List.set_cons_succ, Nat.reduceAdd]
            refine Steps.nil ?_
            intro v w' hJ
            obtain ⟨cs, hblk, hf⟩ := hJ.end_old 0 _ rfl g9 rfl (Nat.le_of_ble_eq_true rfl)
            obtain ⟨PL2, cPL2, rfl, hNL⟩ := hf
            obtain ⟨cs, hblk2, hf⟩ := hJ.end_old 1 _ rfl g11 rfl (Nat.le_of_ble_eq_true rfl)
            obtain ⟨PH2, cPH2, rfl, hNH⟩ := hf
            obtain ⟨PT, cT, hT, hTn⟩ := BT.out
            have hng : g12 ∉ oldsOf BS := by simp [oldsOf, BS, Bx.nat, Bx.rat, Bx.ref]; omega
            replace HB := Lib.hid (hJ.but.to_below HB.out HB.out.size (by intro g hg; have h1 := HGE.out; have h2 := HG9.out; simp [oldsOf, BS, Bx.nat, Bx.rat, Bx.ref] at hg; rcases hg with rfl | rfl <;> omega))
            replace BT := Lib.hid (show Box w' g12 T2 from ⟨PT, cT, hJ.but.blk hT hng, hTn.keep hJ.keep⟩)
            replace E9 := Lib.hid (show Blk w' g9 26 #[.slice PL2 (wl 64 (lo2)) cPL2] from hblk)
            replace E11 := Lib.hid (show Blk w' g11 26 #[.slice PH2 (wl 64 (hi2)) cPH2] from hblk2)
            replace NL := Lib.hid (show N64 w' (.agg #[.slice PL2 (wl 64 (lo2)) cPL2]) (lo2) from hNL)
            replace NH := Lib.hid (show N64 w' (.agg #[.slice PH2 (wl 64 (hi2)) cPH2]) (hi2) from hNH)
            clear hJ hblk hblk2 hNL hNH hT hTn hng
            clear BS FS
            obtain ⟨PT, cT, hT, hTn⟩ := BT.out
            have k9 := E9.out.cell 0
            have k12 := hT.cell 0
            go_wp2_with fail
            with_reducible refine (HC1.out _ _ _ NL.out hTn).mono ?_
            rintro _ w6 ⟨rfl, hb⟩
            clear hT hTn k9 k12
            replace E9 := Lib.hid (blk_below E9.out hb)
            replace E11 := Lib.hid (blk_below E11.out hb)
            replace NL := Lib.hid (NL.out.below hb)
            replace NH := Lib.hid (NH.out.below hb)
            replace BT := Lib.hid (BT.out.below hb)
            replace HB := Lib.hid (cbt HB.out hb)
            clear hb
            by_cases hge : T2 ≤ lo2
            · have dge : decide (0 ≤ cmpN lo2 T2) = true := decide_eq_true (cmpN_ge hge)
              go_wp2_with fail
              let FS : List Kept1 := [.n (lo2), .n (lo2 / 2 ^ 1), .n (hi2), .n (ceilD hi2 1), .any, .any]
              let BS : List Bx := [Bx.nat (.inr (g9)) 4 #[(.slice PL2 (wl 64 lo2) cPL2)] (lo2 / 2 ^ 1), Bx.nat (.inr (g11)) 5 #[(.slice PH2 (wl 64 hi2) cPH2)] (ceilD hi2 1)]
              refine region_mono (Held w6 (fun j => FS.getD j .any) BS) (by kernel_rfl) (by kernel_rfl) (by kernel_rfl) (Held.start _ _ _ (by simp [BS, Bx.nat, Bx.rat, Bx.ref] <;> exact ⟨E9.out, E11.out⟩) (by simp [BS, Bx.nat, Bx.rat, Bx.ref] <;> omega)) ?_
              refine Steps.held ?_ ?_
              · intro L v w' hJ
                have kb := hJ.out.yet 0 _ rfl (g9) rfl (by kernel_rfl)
                have k0 : w'.cell? ⟨g9, 0, none⟩ = some (.slice PL2 (wl 64 lo2) cPL2) := kb.cell 0
                clear kb
                go_wp2_with fail
                exact ⟨rfl, rfl, hJ.out.same (by rfl) (NL.out.keep hJ.out.held.keep)⟩
              simp only [Act.put, List.setIfInBounds_toArray, List.set_cons_zero, List.set_cons_succ, Nat.reduceAdd]
              refine Steps.held ?_ ?_
              · intro L v w' hJ
                have X0 := Lib.hid (show N64 w' (v 0) (lo2) from hJ.out.fact 0 (by kernel_rfl))
                go_wp2_with fail
                with_reducible refine (HDW1.out _ _ X0.out).mono ?_
                rintro e w1 ⟨u, rfl, hu, hb⟩
                go_wp2_with fail
                exact ⟨rfl, rfl, hJ.out.call (by rfl) hb (hu)⟩
              simp only [Act.put, List.setIfInBounds_toArray, List.set_cons_zero, List.set_cons_succ, Nat.reduceAdd]
              refine Steps.held ?_ ?_
              · intro L v w' hJ
                have kb := hJ.out.yet 1 _ rfl (g11) rfl (by kernel_rfl)
                have k0 : w'.cell? ⟨g11, 0, none⟩ = some (.slice PH2 (wl 64 hi2) cPH2) := kb.cell 0
                clear kb
                go_wp2_with fail
                exact ⟨rfl, rfl, hJ.out.same (by rfl) (NH.out.keep hJ.out.held.keep)⟩
              simp only [Act.put, List.setIfInBounds_toArray, List.set_cons_zero, List.set_cons_succ, Nat.reduceAdd]
              refine Steps.held ?_ ?_
              · intro L v w' hJ
                have X0 := Lib.hid (show N64 w' (v 2) (hi2) from hJ.out.fact 2 (by kernel_rfl))
                go_wp2_with fail
                with_reducible refine (HHF1.out _ _ X0.out).mono ?_
                rintro e w1 ⟨u, rfl, hu, hb⟩
                go_wp2_with fail
                exact ⟨rfl, rfl, hJ.out.call (by rfl) hb (hu)⟩
              simp only [Act.put, List.setIfInBounds_toArray, List.set_cons_zero, List.set_cons_succ, Nat.reduceAdd]
              refine Steps.held ?_ ?_
              · intro L v w' hJ
                obtain ⟨hown, hst⟩ := hJ.out.oldbox 0 _ rfl (g9) rfl
                have hN : N64 w' (v 1) (lo2 / 2 ^ 1) := hJ.out.fact 1 (by kernel_rfl)
                obtain ⟨P, c, hv, h1, h2, h3⟩ := hN
                have HN := Lib.hid (show N64 w' (.agg #[.slice P (wl 64 (lo2 / 2 ^ 1)) c]) (lo2 / 2 ^ 1) from ⟨P, c, rfl, h1, h2, h3⟩)
                have kb := hJ.out.box 0 _ rfl rfl (g9) hown
                have k0 : w'.cell? ⟨(g9), 0, none⟩ = some ((.slice PL2 (wl 64 lo2) cPL2)) := kb.cell 0
                have f0 := kb.frozen 0
                have HO := Lib.hid hown
                have HS := Lib.hid hst
                clear kb h1 h2 h3 hown hst
                simp only [hv]
                clear hv
                go_wp2_with fail
                exact ⟨rfl, rfl, hJ.out.fill1 0 _ rfl rfl (by rfl) (g9) HO.out HS.out _ rfl rfl (fun W k => ⟨P, c, rfl, HN.out.keep k⟩) (fun _ => trivial)⟩
              simp only [Act.put, List.setIfInBounds_toArray, List.set_cons_zero, List.set_cons_succ, Nat.reduceAdd]
              refine Steps.held ?_ ?_
              · intro L v w' hJ
                obtain ⟨hown, hst⟩ := hJ.out.oldbox 1 _ rfl (g11) rfl
                have hN : N64 w' (v 3) (ceilD hi2 1) := hJ.out.fact 3 (by kernel_rfl)
                obtain ⟨P, c, hv, h1, h2, h3⟩ := hN
                have HN := Lib.hid (show N64 w' (.agg #[.slice P (wl 64 (ceilD hi2 1)) c]) (ceilD hi2 1) from ⟨P, c, rfl, h1, h2, h3⟩)
                have kb := hJ.out.box 1 _ rfl rfl (g11) hown
                have k0 : w'.cell? ⟨(g11), 0, none⟩ = some ((.slice PH2 (wl 64 hi2) cPH2)) := kb.cell 0
                have f0 := kb.frozen 0
                have HO := Lib.hid hown
                have HS := Lib.hid hst
                clear kb h1 h2 h3 hown hst
                simp only [hv]
                clear hv
                go_wp2_with fail
                exact ⟨rfl, rfl, hJ.out.fill1 1 _ rfl rfl (by rfl) (g11) HO.out HS.out _ rfl rfl (fun W k => ⟨P, c, rfl, HN.out.keep k⟩) (fun _ => trivial)⟩
              simp only [Act.put, List.setIfInBounds_toArray, List.set_cons_zero, List.set_cons_succ, Nat.reduceAdd]
              refine Steps.nil ?_
              intro v w' hJ
              obtain ⟨cs, hblk, hf⟩ := hJ.end_old 0 _ rfl g9 rfl (Nat.le_of_ble_eq_true rfl)
              obtain ⟨PL3, cPL3, rfl, hNL⟩ := hf
              obtain ⟨cs, hblk2, hf⟩ := hJ.end_old 1 _ rfl g11 rfl (Nat.le_of_ble_eq_true rfl)
              obtain ⟨PH3, cPH3, rfl, hNH⟩ := hf
              obtain ⟨PT, cT, hT, hTn⟩ := BT.out
              have hng : g12 ∉ oldsOf BS := by simp [oldsOf, BS, Bx.nat, Bx.rat, Bx.ref]; omega
              replace HB := Lib.hid (hJ.but.to_below HB.out HB.out.size (by intro g hg; have h1 := HGE.out; have h2 := HG9.out; simp [oldsOf, BS, Bx.nat, Bx.rat, Bx.ref] at hg; rcases hg with rfl | rfl <;> omega))
              replace BT := Lib.hid (show Box w' g12 T2 from ⟨PT, cT, hJ.but.blk hT hng, hTn.keep hJ.keep⟩)
              replace E9 := Lib.hid (show Blk w' g9 26 #[.slice PL3 (wl 64 (lo2 / 2 ^ 1)) cPL3] from hblk)
              replace E11 := Lib.hid (show Blk w' g11 26 #[.slice PH3 (wl 64 (ceilD hi2 1)) cPH3] from hblk2)
              replace NL := Lib.hid (show N64 w' (.agg #[.slice PL3 (wl 64 (lo2 / 2 ^ 1)) cPL3]) (lo2 / 2 ^ 1) from hNL)
              replace NH := Lib.hid (show N64 w' (.agg #[.slice PH3 (wl 64 (ceilD hi2 1)) cPH3]) (ceilD hi2 1) from hNH)
              clear hJ hblk hblk2 hNL hNH hT hTn hng
              clear BS FS
              have HI2 := Lib.hid (HONE.out hge)
              go_wp2_with fail
              exact ⟨⟨i + 1, _, _, _, _, _, Nat.succ_le_of_lt hlt, congrArg (Value.int .i64) hw3, congrArg (Value.int .i64) (two_out1 out), HI2, Lib.hid ⟨_, _, E9.out, NL.out⟩, Lib.hid ⟨_, _, E11.out, NH.out⟩, BT, HB⟩, by rw [hw3]; exact less_i hlt⟩
            · have dge : decide (0 ≤ cmpN lo2 T2) = false := by rw [cmpN_lt (Nat.lt_of_not_le hge)]; rfl
              obtain ⟨PT, cT, hT, hTn⟩ := BT.out
              have k11 := E11.out.cell 0
              have k12 := hT.cell 0
              go_wp2_with fail
              with_reducible refine (HC2.out _ _ _ NH.out hTn).mono ?_
              rintro _ w7 ⟨rfl, hb⟩
              clear hT hTn k11 k12
              replace E9 := Lib.hid (blk_below E9.out hb)
              replace E11 := Lib.hid (blk_below E11.out hb)
              replace NL := Lib.hid (NL.out.below hb)
              replace NH := Lib.hid (NH.out.below hb)
              replace BT := Lib.hid (BT.out.below hb)
              replace HB := Lib.hid (cbt HB.out hb)
              clear hb
              by_cases hgt : T2 < hi2
              · have dgt : decide (0 < cmpN hi2 T2) = true := by rw [cmpN_gt hgt]; rfl
                have hf := HFEW.out (Nat.lt_of_not_le hge) hgt
                have hw5 := wrap_D hD hDM2
                have HN2 := Lib.hid (cbt hBr.out HB.out)
                have hD2 := few_D hf hlt HBB.out HDM.out
                have hD3 := hD1.out
                clear hf
                go_wp2_with fail
                exact ⟨⟨2 * D, congrArg (Value.int .i64) (two_D D), hD2, Lib.hid (two_pos_D hD3), HN2⟩, less_D hD3 hD2⟩
              · have dgt : decide (0 < cmpN hi2 T2) = false := by
                  rcases Nat.lt_or_eq_of_le (Nat.le_of_not_lt hgt) with h | h
                  · rw [cmpN_lt h]; rfl
                  · rw [h, cmpN_self]; rfl
                have HI2 := Lib.hid (HNONE.out (Nat.le_of_not_lt hgt))
                go_wp2_with fail
                exact ⟨⟨i + 1, _, _, _, _, _, Nat.succ_le_of_lt hlt, congrArg (Value.int .i64) hw3, congrArg (Value.int .i64) (Int.mul_comm out 2), HI2, Lib.hid ⟨_, _, E9.out, NL.out⟩, Lib.hid ⟨_, _, E11.out, NH.out⟩, BT, HB⟩, by rw [hw3]; exact less_i hlt⟩
          · have hie : i = b := by omega
            subst hie
            have dlt : decide ((i : Int) < (i : Int)) = false := decide_eq_false (by omega)
            have HW := Lib.hid (HI.out.e.w HI.out.pos HI.out.le HI.out.lt (pw_pos HD0.out i))
            have HEND := Lib.hid (cbt HB0.out (cbt hBr.out HB.out))
            go_wp2_with fail
            rw [Exit.noGoto_ret]
            exact bodyPost_ret (v := .tuple #[.int .i64 out, .int .i64 0]) (by simp [results, Try.results37, go_sem]) rfl ⟨out, rfl, HW.out, HEND.out⟩
end Go.Proofs.Yteikhnmmkanndaa
namespace Go.Proofs.Yteikhnmmkanndaa
open Go.RowKit Go.Proofs.YteikhnmmkanndaaW.PrintWords
set_option linter.unusedSimpArgs false
set_option linter.unusedVariables false
theorem wl8_bits {x m : Nat} (h : x < 2 ^ m) : wl 8 x ≤ m := Nat.le_trans (wl_le_bl (by decide) x) ((bl_le x m).2 h)
end Go.Proofs.Yteikhnmmkanndaa
namespace Go.Proofs.Yteikhnmmkanndaa
open Go.RowKit Go.Proofs.YteikhnmmkanndaaW.PrintWords Go.Proofs.Yteikhnmmkanndaa.PAll
set_option linter.unusedSimpArgs false
set_option linter.unusedVariables false
theorem LogW.to_start {n d : Nat} {k : Int} (h : LogW n d k) : LogE n d k (n * 2 ^ (-k).toNat) (d * 2 ^ k.toNat) := LogE.start n d k
theorem LogW.square {n d : Nat} {u v : Int} (hd : 0 < d) (hu : LogW n d u) (hv : LogW (n * n) (d * d) v) : u = v / 2 := by
  obtain ⟨P, hP⟩ : ∃ P, n * 2 ^ (-u).toNat = P := ⟨_, rfl⟩
  obtain ⟨Q, hQ⟩ : ∃ Q, d * 2 ^ u.toNat = Q := ⟨_, rfl⟩
  have he := (LogE.start n d u).sq
  have hq : 0 < d * 2 ^ u.toNat := Nat.mul_pos hd (Nat.two_pow_pos _)
  obtain ⟨h1, h2⟩ := hu
  rw [hP, hQ] at h1 h2 he
  rw [hQ] at hq
  have hqq := Nat.mul_pos hq hq
  have a := Nat.mul_le_mul h1 h1
  have b := Nat.mul_lt_mul'' h2 h2
  rw [Nat.mul_mul_mul_comm] at b
  by_cases h : P * P < 2 * (Q * Q)
  · have := (he.w hqq a h (Nat.mul_pos hd hd)).unique hv
    omega
  · have := (he.bit.w (by omega) (by omega) (by omega) (Nat.mul_pos hd hd)).unique hv
    omega
theorem LogW.down {n d : Nat} (hd : 0 < d) : ∀ (r a : Nat) {u v : Int}, LogW (n ^ 2 ^ a) (d ^ 2 ^ a) u → LogW (n ^ 2 ^ (a + r)) (d ^ 2 ^ (a + r)) v → n ≠ 0 → u = v / 2 ^ r
  | 0, a, u, v, hu, hv, _ => by rw [Int.pow_zero, Int.ediv_one]; exact hu.unique hv
  | r + 1, a, u, v, hu, hv, h0 => by
    have hn : 0 < n := Nat.pos_of_ne_zero h0
    have hw := wholeN_W (pw_pos hn (a + 1)) (pw_pos hd (a + 1))
    have h1 := LogW.down hd r (a + 1) hw (by rwa [show a + 1 + r = a + (r + 1) by omega]) h0
    rw [← pow_sq, ← pow_sq] at hw
    have h2 := hu.square (pw_pos hd a) hw
    rw [h2, pow_sq, pow_sq, h1]
    rw [Int.ediv_ediv_of_nonneg (by exact Int.le_of_lt (Int.pow_pos (by decide))), Int.pow_succ]
theorem LogE.prod (n d m e : Nat) (u v : Int) : LogE (n * m) (d * e) (u + v) (n * 2 ^ (-u).toNat * (m * 2 ^ (-v).toNat)) (d * 2 ^ u.toNat * (e * 2 ^ v.toNat)) := by
  unfold LogE
  have h : 2 ^ (-u).toNat * 2 ^ (-v).toNat * 2 ^ (u + v).toNat = 2 ^ (-(u + v)).toNat * (2 ^ u.toNat * 2 ^ v.toNat) := by
    rw [← Nat.pow_add, ← Nat.pow_add, ← Nat.pow_add, ← Nat.pow_add]
    congr 1
    omega
  rw [Nat.mul_mul_mul_comm n, Nat.mul_mul_mul_comm d, Nat.mul_mul_mul_comm (n * m), h, Nat.mul_mul_mul_comm (n * m)]
theorem LogW.prod {n d m e : Nat} {u v z : Int} (hd : 0 < d) (he : 0 < e) (hu : LogW n d u) (hv : LogW m e v) (hz : LogW (n * m) (d * e) z) : 0 ≤ z - u - v ∧ z - u - v ≤ 1 := by
  have hle := LogE.prod n d m e u v
  have hq : 0 < d * 2 ^ u.toNat := Nat.mul_pos hd (Nat.two_pow_pos _)
  have hs : 0 < e * 2 ^ v.toNat := Nat.mul_pos he (Nat.two_pow_pos _)
  obtain ⟨h1, h2⟩ := hu
  obtain ⟨h3, h4⟩ := hv
  have hde := Nat.mul_pos hd he
  generalize n * 2 ^ (-u).toNat = P at *
  generalize d * 2 ^ u.toNat = Q at *
  generalize m * 2 ^ (-v).toNat = R at *
  generalize e * 2 ^ v.toNat = S at *
  have hqs := Nat.mul_pos hq hs
  have a := Nat.mul_le_mul h1 h3
  have b := Nat.mul_lt_mul'' h2 h4
  rw [Nat.mul_mul_mul_comm] at b
  by_cases h : P * R < 2 * (Q * S)
  · have := (hle.w hqs a h hde).unique hz
    omega
  · have := (hle.bit.w (by omega) (by omega) (by omega) hde).unique hz
    omega
theorem LogW.mono {n d m e : Nat} {u v : Int} (hd : 0 < d) (h : n * e ≤ m * d) (hu : LogW n d u) (hv : LogW m e v) : u ≤ v := by
  have h1 : e * 2 ^ u.toNat ≤ m * 2 ^ (-u).toNat := by
    refine Nat.le_of_mul_le_mul_right ?_ hd
    calc e * 2 ^ u.toNat * d = e * (d * 2 ^ u.toNat) := by rw [Nat.mul_assoc, Nat.mul_comm (2 ^ u.toNat)]
      _ ≤ e * (n * 2 ^ (-u).toNat) := Nat.mul_le_mul_left _ hu.1
      _ = n * e * 2 ^ (-u).toNat := by rw [Nat.mul_left_comm, Nat.mul_assoc]
      _ ≤ m * d * 2 ^ (-u).toNat := Nat.mul_le_mul_right _ h
      _ = m * 2 ^ (-u).toNat * d := Nat.mul_right_comm _ _ _
  rcases (show u ≤ v ∨ v < u by omega) with hle | hlt
  · exact hle
  · exfalso
    have hc := pow_cross hlt
    have a := Nat.mul_lt_mul_of_pos_right hv.2 (Nat.two_pow_pos (-u).toNat)
    have b := Nat.mul_le_mul_right (2 ^ (-v).toNat) h1
    have c := Nat.mul_le_mul_left e hc
    have e1 : 2 * (e * 2 ^ v.toNat) * 2 ^ (-u).toNat = e * (2 ^ v.toNat * 2 * 2 ^ (-u).toNat) := by
      rw [Nat.mul_left_comm 2 e, Nat.mul_comm 2 (2 ^ v.toNat), Nat.mul_assoc, Nat.mul_assoc]
    have e2 : e * (2 ^ u.toNat * 2 ^ (-v).toNat) = e * 2 ^ u.toNat * 2 ^ (-v).toNat := by rw [Nat.mul_assoc]
    have e3 : m * 2 ^ (-v).toNat * 2 ^ (-u).toNat = m * 2 ^ (-u).toNat * 2 ^ (-v).toNat := Nat.mul_right_comm _ _ _
    rw [e1] at a
    rw [e2] at c
    omega
theorem pow_cross_le {n d m e : Nat} (h : n * e ≤ m * d) (k : Nat) : n ^ k * e ^ k ≤ m ^ k * d ^ k := by
  rw [← Nat.mul_pow, ← Nat.mul_pow]
  exact Nat.pow_le_pow_left h k
theorem LogW.mono_pow {n d m e b : Nat} {u v : Int} (hd : 0 < d) (h : n * e ≤ m * d) (hu : LogW (n ^ 2 ^ b) (d ^ 2 ^ b) u) (hv : LogW (m ^ 2 ^ b) (e ^ 2 ^ b) v) : u ≤ v := LogW.mono (pw_pos hd b) (pow_cross_le h _) hu hv
theorem LogW.same_pow {n d m e b : Nat} {u v : Int} (hd : 0 < d) (he : 0 < e) (h : n * e = m * d) (hu : LogW (n ^ 2 ^ b) (d ^ 2 ^ b) u) (hv : LogW (m ^ 2 ^ b) (e ^ 2 ^ b) v) : u = v :=
  Int.le_antisymm (LogW.mono_pow hd (Nat.le_of_eq h) hu hv) (LogW.mono_pow he (Nat.le_of_eq h.symm) hv hu)
theorem rint_lit (x : Nat) (hx : x < 2 ^ 64) (k : Int) (hk : k = (x : Int)) (W : World) : Calls Try.prog 74 #[.int .u64 k] W (MkF W x 1) := by
  subst hk
  exact rint_any x hx W
theorem llog_lit (v : Value) (n d b : Nat) (kb k : Int) (W : World) (ha : F64 W v n d) (hkb : kb = (b : Int)) (hn0 : 0 < n) (hd0 : 0 < d) (hn : n < 2 ^ 100) (hd : d < 2 ^ 100) (hb : b ≤ 12) (hk : LogW (n ^ 2 ^ b) (d ^ 2 ^ b) k) :
    Calls Try.prog 37 #[v, .int .i64 kb] W fun x w' => x = .returned (.tuple #[.int .i64 k, .int .i64 0]) ∧ Below W.heap.size W w' := by
  subst hkb
  refine (llog_any v n d 100 b W ha hn0 hd0 hn hd (by decide) hb).mono ?_
  rintro x w' ⟨z, rfl, hz, hb⟩
  rw [hz.unique hk]
  exact ⟨rfl, hb⟩
set_option maxRecDepth 100000 in
set_option maxHeartbeats 4000000 in
theorem live27_any (w : World) : Calls Try.prog 35 #[] w fun e w' => e = .returned (.bool true) ∧ Below w.heap.size w w' := by
  have O1 : Hid (∀ W, Calls Try.prog 74 #[.int .u64 1] W (MkF W 1 1)) := Lib.hid (fun W => rint_lit 1 (by decide) 1 rfl W)
  have O3 : Hid (∀ W, Calls Try.prog 74 #[.int .u64 3] W (MkF W 3 1)) := Lib.hid (fun W => rint_lit 3 (by decide) 3 rfl W)
  have O8 : Hid (∀ W, Calls Try.prog 74 #[.int .u64 8] W (MkF W 8 1)) := Lib.hid (fun W => rint_lit 8 (by decide) 8 rfl W)
  have L3 : Hid (∀ v W, F64 W v 3 1 → Calls Try.prog 37 #[v, .int .i64 4] W (fun x w' => x = .returned (.tuple #[.int .i64 25, .int .i64 0]) ∧ Below W.heap.size W w')) := Lib.hid (fun v W h => llog_lit v 3 1 4 4 25 W h rfl (by decide) (by decide) (by decide) (by decide) (by decide) (by unfold LogW; decide +kernel))
  have L13 : Hid (∀ v W, F64 W v 1 3 → Calls Try.prog 37 #[v, .int .i64 4] W (fun x w' => x = .returned (.tuple #[.int .i64 (-26), .int .i64 0]) ∧ Below W.heap.size W w')) := Lib.hid (fun v W h => llog_lit v 1 3 4 4 (-26) W h rfl (by decide) (by decide) (by decide) (by decide) (by decide) (by unfold LogW; decide +kernel))
  have L8 : Hid (∀ v W, F64 W v 8 1 → Calls Try.prog 37 #[v, .int .i64 4] W (fun x w' => x = .returned (.tuple #[.int .i64 48, .int .i64 0]) ∧ Below W.heap.size W w')) := Lib.hid (fun v W h => llog_lit v 8 1 4 4 48 W h rfl (by decide) (by decide) (by decide) (by decide) (by decide) (by unfold LogW; decide +kernel))
  have HDV : Hid (∀ va vb W, F64 W va 1 1 → F64 W vb 3 1 → Calls Try.prog 71 #[va, vb] W fun x w' => ∃ v, x = .returned (.tuple #[v, .int .i64 0]) ∧ F64 w' v 1 3 ∧ Below W.heap.size W w') := Lib.hid (fun va vb W h1 h2 => rdivF_any va vb 1 1 3 1 W h1 h2 (Nat.le_trans (w64_lit (by decide)) (by decide)) (Nat.le_trans (w64_lit (by decide)) (by decide)) (Nat.le_trans (w64_lit (by decide)) (by decide)) (Nat.le_trans (w64_lit (by decide)) (by decide)) (by decide))
  have HB0 := Lib.hid (Below.refl w.heap.size w)
  go_enter Try.func35, Try.ntmps35
  go_wp2_with fail
  with_reducible refine (O3.out _).mono ?_
  rintro e w1 ⟨u, rfl, hu, hb⟩
  replace HB0 := Lib.hid (cbt HB0.out hb)
  have NA := Lib.hid hu
  clear hb hu
  have Z0 := NA.out
  obtain ⟨AS0, pS0, cS0, BS0, qS0, eS0, xS0, rfl, _, _, _⟩ := Z0
  have e1 := Blk.new w1 47 #[.slice AS0 pS0 cS0, .slice BS0 qS0 eS0]
  have hb := cba (Below.refl _ w1) (.cells #[.slice AS0 pS0 cS0, .slice BS0 qS0 eS0] 47)
  go_upto_region 2 with (fail)
  obtain ⟨S, hS⟩ : ∃ S, (w1.alloc (.cells #[.slice AS0 pS0 cS0, .slice BS0 qS0 eS0] 47)) = S := ⟨_, rfl⟩
  rw [hS] at e1 hb ⊢
  obtain ⟨g1, hg⟩ : ∃ g, w1.heap.size = g := ⟨_, rfl⟩
  rw [hg] at e1
  simp only [hg]
  replace NA := Lib.hid (NA.out.below hb)
  replace HB0 := Lib.hid (cbt HB0.out hb)
  have E1 := Lib.hid e1
  clear hS hg hb e1
  let FS : List Kept1 := [.f (1) (1), .f (3) (1), .two (.f (1) (3)) (.eq (.int .i64 0)), .two (.f (1) (3)) (.eq (.int .i64 0)), .f (1) (3), .eq (.int .i64 0), .any, .any, .eq (.int .i64 0)]
  let BS : List Bx := [Bx.rat (.inl 6) 7 #[.slice none 0 0, .slice none 0 0] (1) (3)]
  refine region_mono (Held S (fun j => FS.getD j .any) BS) (by kernel_rfl) (by kernel_rfl) (by kernel_rfl) (Held.start _ _ _ (by simp [BS, Bx.nat, Bx.rat, Bx.ref]) (by simp [BS, Bx.nat, Bx.rat, Bx.ref])) ?_
  refine Steps.held ?_ ?_
  · intro L v w' hJ
    go_wp2_with fail
    with_reducible refine (O1.out _).mono ?_
    rintro e w1 ⟨u, rfl, hu, hb⟩
    go_wp2_with fail
    exact ⟨rfl, rfl, hJ.out.call (by rfl) hb (hu)⟩
  simp only [Act.put, List.setIfInBounds_toArray, List.set_cons_zero, List.set_cons_succ, Nat.reduceAdd]
  refine Steps.held ?_ ?_
  · intro L v w' hJ
    have kb := hJ.out.blk E1.out (by simp [oldsOf, BS, Bx.nat, Bx.rat, Bx.ref])
    have k0 := kb.cell 0
    have k1 := kb.cell 1
    clear kb
    go_wp2_with fail
    exact ⟨rfl, rfl, hJ.out.same (by rfl) (NA.out.keep hJ.out.held.keep)⟩
  simp only [Act.put, List.setIfInBounds_toArray, List.set_cons_zero, List.set_cons_succ, Nat.reduceAdd]
  refine Steps.held ?_ ?_
  · intro L v w' hJ
    have X0 := Lib.hid (show F64 w' (v 0) (1) (1) from hJ.out.fact 0 (by kernel_rfl))
    have X1 := Lib.hid (show F64 w' (v 1) (3) (1) from hJ.out.fact 1 (by kernel_rfl))
    go_wp2_with fail
    with_reducible refine (HDV.out _ _ _ X0.out X1.out).mono ?_
    rintro e w1 ⟨u, rfl, hu, hb⟩
    go_wp2_with fail
    exact ⟨rfl, rfl, hJ.out.call (by rfl) hb (⟨_, _, rfl, hu, rfl⟩)⟩
  simp only [Act.put, List.setIfInBounds_toArray, List.set_cons_zero, List.set_cons_succ, Nat.reduceAdd]
  refine Steps.held ?_ ?_
  · intro L v w' hJ
    go_wp2_with fail
    exact ⟨rfl, rfl, hJ.out.same (by rfl) (hJ.out.fact 2 (by kernel_rfl))⟩
  simp only [Act.put, List.setIfInBounds_toArray, List.set_cons_zero, List.set_cons_succ, Nat.reduceAdd]
  refine Steps.held ?_ ?_
  · intro L v w' hJ
    obtain ⟨x0, x1, hv, h0, h1⟩ := hJ.out.fact 3 (by kernel_rfl)
    simp only [hv]
    clear hv
    go_wp2_with fail
    exact ⟨rfl, rfl, hJ.out.same (by rfl) (h0)⟩
  simp only [Act.put, List.setIfInBounds_toArray, List.set_cons_zero, List.set_cons_succ, Nat.reduceAdd]
  refine Steps.held ?_ ?_
  · intro L v w' hJ
    obtain ⟨x0, x1, hv, h0, h1⟩ := hJ.out.fact 3 (by kernel_rfl)
    simp only [hv]
    clear hv
    go_wp2_with fail
    exact ⟨rfl, rfl, hJ.out.same (by rfl) (h1)⟩
  simp only [Act.put, List.setIfInBounds_toArray, List.set_cons_zero, List.set_cons_succ, Nat.reduceAdd]
  refine Steps.held ?_ ?_
  · intro L v w' hJ
    go_wp2_with fail
    exact ⟨rfl, rfl, hJ.out.made 0 _ rfl rfl (by rfl) trivial⟩
  simp only [Act.put, List.setIfInBounds_toArray, List.set_cons_zero, List.set_cons_succ, Nat.reduceAdd]
  refine Steps.held ?_ ?_
  · intro L v w' hJ
    obtain ⟨g, hg, hge, hown, hst⟩ := hJ.out.newbox 0 _ rfl 6 rfl (by kernel_rfl)
    have hN : F64 w' (v 4) (1) (3) := hJ.out.fact 4 (by kernel_rfl)
    obtain ⟨A1, p1, c1, B1, q1, e1, x1, hv, h1, h2, h3⟩ := hN
    have HN := Lib.hid (show F64 w' (.agg #[.slice A1 p1 c1, .slice B1 q1 e1]) (1) (3) from ⟨A1, p1, c1, B1, q1, e1, x1, rfl, h1, h2, h3⟩)
    have kb := hJ.out.box 0 _ rfl rfl g hown
    have k0 : w'.cell? ⟨g, 0, none⟩ = some (.slice none 0 0) := kb.cell 0
    have k1 : w'.cell? ⟨g, 1, none⟩ = some (.slice none 0 0) := kb.cell 1
    have f0 := kb.frozen 0
    have f1 := kb.frozen 1
    have HO := Lib.hid hown
    have HS := Lib.hid hst
    clear kb h1 h2 h3 hown hst
    simp only [hg, hv]
    clear hg hv
    go_wp2_with fail
    exact ⟨rfl, rfl, hJ.out.fill2 0 _ rfl rfl (by rfl) g HO.out HS.out _ _ rfl rfl rfl (fun W k => HN.out.keep k) (fun _ => trivial)⟩
  simp only [Act.put, List.setIfInBounds_toArray, List.set_cons_zero, List.set_cons_succ, Nat.reduceAdd]
  refine Steps.held ?_ ?_
  · intro L v w' hJ
    have hv5 : v 5 = .int .i64 0 := hJ.out.fact 5 (by kernel_rfl)
    simp only [hv5]
    clear hv5
    go_wp2_with fail
    exact ⟨rfl, rfl, hJ.out.same (by rfl) (rfl)⟩
  simp only [Act.put, List.setIfInBounds_toArray, List.set_cons_zero, List.set_cons_succ, Nat.reduceAdd]
  refine Steps.nil ?_
  intro v w' hJ
  have h8 : v 8 = .int .i64 0 := hJ.end_fact 8 (by decide)
  simp only [h8]
  clear h8
  obtain ⟨g2, cs6, hv6, hge6, hb6, hf6⟩ := hJ.end_new 0 _ rfl 6 rfl (by decide) (Nat.le_of_ble_eq_true rfl)
  have hfx : F64 w' (.agg cs6) 1 3 := hf6
  obtain ⟨A6, p6, c6, B6, q6, e6, x6, hcs6, h1, h2, h3⟩ := hfx
  have hcs6' := Value.agg.inj hcs6
  subst hcs6'
  simp only [hv6]
  have E2 := Lib.hid (show Blk w' g2 47 #[.slice A6 p6 c6, .slice B6 q6 e6] from hb6)
  have NE2 := Lib.hid (show F64 w' (.agg #[.slice A6 p6 c6, .slice B6 q6 e6]) 1 3 from hf6)
  clear hv6 hb6 hf6 hcs6 h1 h2
  have hbr := hJ.but.below
  replace NA := Lib.hid (NA.out.below hbr)
  replace E1 := Lib.hid (blk_below E1.out hbr)
  replace HB0 := Lib.hid (cbt HB0.out hbr)
  clear hJ hbr
  have k_E1_0 := E1.out.cell 0
  have k_E1_1 := E1.out.cell 1
  have k_E2_0 := E2.out.cell 0
  have k_E2_1 := E2.out.cell 1
  go_wp2_with fail
  with_reducible refine (L3.out _ _ NA.out).mono ?_
  rintro e w3 ⟨rfl, hb⟩
  clear k_E1_0 k_E1_1 k_E2_0 k_E2_1
  replace NA := Lib.hid (NA.out.below hb)
  replace NE2 := Lib.hid (NE2.out.below hb)
  replace E1 := Lib.hid (blk_below E1.out hb)
  replace E2 := Lib.hid (blk_below E2.out hb)
  replace HB0 := Lib.hid (cbt HB0.out hb)
  clear hb
  have k_E1_0 := E1.out.cell 0
  have k_E1_1 := E1.out.cell 1
  have k_E2_0 := E2.out.cell 0
  have k_E2_1 := E2.out.cell 1
  go_wp2_with fail
  with_reducible refine (L13.out _ _ NE2.out).mono ?_
  rintro e w4 ⟨rfl, hb⟩
  clear k_E1_0 k_E1_1 k_E2_0 k_E2_1
  replace NA := Lib.hid (NA.out.below hb)
  replace NE2 := Lib.hid (NE2.out.below hb)
  replace E1 := Lib.hid (blk_below E1.out hb)
  replace E2 := Lib.hid (blk_below E2.out hb)
  replace HB0 := Lib.hid (cbt HB0.out hb)
  clear hb
  have k_E1_0 := E1.out.cell 0
  have k_E1_1 := E1.out.cell 1
  have k_E2_0 := E2.out.cell 0
  have k_E2_1 := E2.out.cell 1
  go_wp2_with fail
  with_reducible refine (O8.out _).mono ?_
  rintro e w5 ⟨u, rfl, hu, hb⟩
  clear k_E1_0 k_E1_1 k_E2_0 k_E2_1
  replace NA := Lib.hid (NA.out.below hb)
  replace NE2 := Lib.hid (NE2.out.below hb)
  replace E1 := Lib.hid (blk_below E1.out hb)
  replace E2 := Lib.hid (blk_below E2.out hb)
  replace HB0 := Lib.hid (cbt HB0.out hb)
  have N8 := Lib.hid hu
  clear hb hu
  have k_E1_0 := E1.out.cell 0
  have k_E1_1 := E1.out.cell 1
  have k_E2_0 := E2.out.cell 0
  have k_E2_1 := E2.out.cell 1
  go_wp2_with fail
  with_reducible refine (L8.out _ _ N8.out).mono ?_
  rintro e w6 ⟨rfl, hb⟩
  clear k_E1_0 k_E1_1 k_E2_0 k_E2_1
  replace NA := Lib.hid (NA.out.below hb)
  replace NE2 := Lib.hid (NE2.out.below hb)
  replace N8 := Lib.hid (N8.out.below hb)
  replace E1 := Lib.hid (blk_below E1.out hb)
  replace E2 := Lib.hid (blk_below E2.out hb)
  replace HB0 := Lib.hid (cbt HB0.out hb)
  clear hb
  have k_E1_0 := E1.out.cell 0
  have k_E1_1 := E1.out.cell 1
  have k_E2_0 := E2.out.cell 0
  have k_E2_1 := E2.out.cell 1
  go_wp2_with fail
  go_ret
  exact ⟨rfl, HB0.out⟩
end Go.Proofs.Yteikhnmmkanndaa
namespace Go.Proofs.Yteikhnmmkanndaa
open Go.RowKit Go.Proofs.YteikhnmmkanndaaW.PrintWords
set_option linter.unusedSimpArgs false
set_option linter.unusedVariables false
theorem Sz.lt {B m : Nat} {a : Nat × Nat} (h : Sz B a) (hm : 8 * B ≤ m) : a.1 < 2 ^ m ∧ a.2 < 2 ^ m := by
  have h1 := (wl_le (by decide) a.1 B).1 h.1
  have h2 := (wl_le (by decide) a.2 B).1 h.2
  have h3 : 2 ^ (8 * B) ≤ 2 ^ m := Nat.pow_le_pow_right (by decide) hm
  omega
def lg (a : Nat × Nat) (b : Nat) : Int := wholeN (a.1 ^ 2 ^ b) (a.2 ^ 2 ^ b)
theorem lg_W {a : Nat × Nat} (h1 : 0 < a.1) (h2 : 0 < a.2) (b : Nat) : LogW (a.1 ^ 2 ^ b) (a.2 ^ 2 ^ b) (lg a b) := wholeN_W (pw_pos h1 b) (pw_pos h2 b)
theorem c_log {a : Nat × Nat} {v : Value} {W : World} {m b : Nat} {kb : Int} (ha : F64 W v a.1 a.2) (hkb : kb = (b : Int)) (h1 : 0 < a.1) (h2 : 0 < a.2) (h : a.1 < 2 ^ m ∧ a.2 < 2 ^ m) (hm : m ≤ 20000) (hb : b ≤ 12) :
    Calls Try.prog 37 #[v, .int .i64 kb] W fun x w' => x = .returned (.tuple #[.int .i64 (lg a b), .int .i64 0]) ∧ Below W.heap.size W w' := by
  subst hkb
  refine (llog_any v a.1 a.2 m b W ha h1 h2 h.1 h.2 hm hb).mono ?_
  rintro x w' ⟨z, rfl, hz, hb⟩
  rw [hz.unique (lg_W h1 h2 b)]
  exact ⟨rfl, hb⟩
end Go.Proofs.Yteikhnmmkanndaa
namespace Go.Proofs.Yteikhnmmkanndaa
open Go.RowKit Go.Proofs.YteikhnmmkanndaaW.PrintWords
set_option linter.unusedSimpArgs false
set_option linter.unusedVariables false
theorem u8_nat {k : Int} (h : (Lit.int .u8 k).wf = true) : ∃ a : Nat, k = (a : Int) ∧ a < 256 := by
  unfold Lit.wf at h
  rw [Bool.and_eq_true, decide_eq_true_iff, decide_eq_true_iff] at h
  have h1 : 0 ≤ k := h.1
  have h2 : k < 256 := by have := h.2; simp [IntKind.max, IntKind.bits, IntKind.signed] at this; omega
  exact ⟨k.toNat, by omega, by omega⟩
end Go.Proofs.Yteikhnmmkanndaa
namespace Go.Proofs.Yteikhnmmkanndaa
open Go.RowKit Go.Proofs.YteikhnmmkanndaaW.PrintWords
set_option linter.unusedSimpArgs false
set_option linter.unusedVariables false
theorem rn_pos {n d : Nat} (h : 0 < n) : 0 < rn n d := Nat.div_gcd_pos_of_pos_left d h
end Go.Proofs.Yteikhnmmkanndaa
namespace Go.Proofs.Yteikhnmmkanndaa
open Go.RowKit Go.Proofs.YteikhnmmkanndaaW.PrintWords
set_option linter.unusedSimpArgs false
set_option linter.unusedVariables false
theorem u16_nat {k : Int} (h : (Lit.int .u16 k).wf = true) : ∃ a : Nat, k = (a : Int) ∧ a < 65536 := by
  unfold Lit.wf at h
  rw [Bool.and_eq_true, decide_eq_true_iff, decide_eq_true_iff] at h
  have h1 : 0 ≤ k := h.1
  have h2 : k < 65536 := by have := h.2; simp [IntKind.max, IntKind.bits, IntKind.signed] at this; omega
  exact ⟨k.toNat, by omega, by omega⟩
theorem rn_one (n : Nat) : rn n 1 = n := by unfold rn; rw [Nat.gcd_one_right, Nat.div_one]
theorem rd_one (n : Nat) : rd n 1 = 1 := by unfold rd; rw [Nat.gcd_one_right]
theorem one_rn (d : Nat) : rn 1 d = 1 := by unfold rn; rw [Nat.gcd_one_left]
theorem one_rd (d : Nat) : rd 1 d = d := by unfold rd; rw [Nat.gcd_one_left, Nat.div_one]
theorem lg_exact {n d : Nat} {k : Int} (hn : 0 < n) (hd : 0 < d) (h : n * 2 ^ (-k).toNat = d * 2 ^ k.toNat) (b : Nat) : lg (n, d) b = k * 2 ^ b :=
  (lg_W (a := (n, d)) hn hd b).unique (LogW.of_eq (pw_pos hd b) (LogW.exact hd h b))
theorem lg_two (T b : Nat) : lg (2 ^ T, 1) b = ((T * 2 ^ b : Nat) : Int) := by
  rw [lg_exact (k := (T : Int)) (Nat.two_pow_pos T) Nat.one_pos (by rw [show (-(T : Int)).toNat = 0 by omega, Int.toNat_natCast, Nat.pow_zero, Nat.mul_one, Nat.one_mul]) b]
  simp
theorem lg_half (T b : Nat) : lg (1, 2 ^ T) b = -((T * 2 ^ b : Nat) : Int) := by
  rw [lg_exact (k := -(T : Int)) Nat.one_pos (Nat.two_pow_pos T) (by rw [show (-(T : Int)).toNat = 0 by omega, Int.neg_neg, Int.toNat_natCast, Nat.pow_zero, Nat.mul_one, Nat.one_mul]) b]
  simp [Int.neg_mul]
theorem LogW.below {N D K : Nat} {z : Int} (h : N < 2 ^ K * D) (hz : LogW N D z) : z < (K : Int) := by
  rcases (show z < (K : Int) ∨ (K : Int) ≤ z by omega) with h1 | h1
  · exact h1
  · exfalso
    have h2 := hz.1
    rw [show (-z).toNat = 0 by omega, Nat.pow_zero, Nat.mul_one] at h2
    have h3 : 2 ^ K ≤ 2 ^ z.toNat := Nat.pow_le_pow_right (by decide) (by omega)
    have h4 := Nat.mul_le_mul_left D h3
    rw [Nat.mul_comm D] at h4
    omega
theorem lg_below {a : Nat × Nat} {T : Nat} (h0 : 0 < a.1) (h2 : 0 < a.2) (h : a.1 < 2 ^ T * a.2) (b : Nat) : lg a b < ((T * 2 ^ b : Nat) : Int) := by
  refine LogW.below (N := a.1 ^ 2 ^ b) (D := a.2 ^ 2 ^ b) ?_ (lg_W h0 h2 b)
  rw [Nat.pow_mul, ← Nat.mul_pow]
  exact Nat.pow_lt_pow_left h (Nat.ne_of_gt (Nat.two_pow_pos b))
theorem rn_lt {n d M : Nat} (hd : 0 < d) (h : n < M * d) : rn n d < M * rd n d := by
  refine Nat.lt_of_mul_lt_mul_right (a := d) ?_
  rw [rn_mul]
  rw [Nat.mul_right_comm]
  exact Nat.mul_lt_mul_of_pos_right h (rd_pos hd)
theorem lessR_lt {T : Nat} {c : Nat × Nat} (h1 : 0 < c.1) (h2 : 0 < c.2) (h0 : 0 < (lessR (2 ^ T, 1) c).1) : (lessR (2 ^ T, 1) c).1 < 2 ^ T * (lessR (2 ^ T, 1) c).2 := by
  have hT := Nat.two_pow_pos T
  unfold lessR at h0 ⊢
  split at h0
  · exact absurd h0 (by simp)
  · rename_i hn
    rw [if_neg hn]
    dsimp only at hn h0 ⊢
    rw [Nat.mul_one, Nat.one_mul] at *
    refine rn_lt h2 ?_
    have := Nat.mul_pos hT h2
    omega
set_option maxRecDepth 100000 in
set_option maxHeartbeats 4000000 in
theorem logTwos_law (t k1 : Int) (A : Option Addr) (n c : Nat) (la : List Int) (w : World) (ht : (Lit.int .u16 t).wf = true) (hk1 : (Lit.int .u8 k1).wf = true) (hla : la.length = n) (ha : ByS w (.slice A n c) la) (hba : Bys la) : Calls Try.prog 13 #[.int .u16 t, .int .u8 k1, .slice A n c] w fun e w' => e = .returned (.bool true) ∧ Below w.heap.size w w' := by
  have HLV := Lib.hid live27_any
  obtain ⟨a1, rfl, ha1⟩ := u8_nat hk1
  obtain ⟨t1, rfl, ht1⟩ := u16_nat ht
  clear hk1 ht
  have HA := Lib.hid ha
  have HB0 := Lib.hid (Below.refl w.heap.size w)
  by_cases h1 : n ≤ 40
  · have d1 : decide (40 < (n : Int)) = false := decide_eq_false (by omega)
    have hb1 : a1 % 13 ≤ 12 := by omega
    have e1 : Int.tmod (a1 : Int) 13 = ((a1 % 13 : Nat) : Int) := rfl
    have e2 : Int.tmod (t1 : Int) 600 = ((t1 % 600 : Nat) : Int) := rfl
    obtain ⟨b1, hb1e⟩ : ∃ b, a1 % 13 = b := ⟨_, rfl⟩
    rw [hb1e] at hb1 e1
    have hT : t1 % 600 < 600 := Nat.mod_lt _ (by decide)
    obtain ⟨T, hTe⟩ : ∃ b, t1 % 600 = b := ⟨_, rfl⟩
    rw [hTe] at hT e2
    have O1 : Hid (∀ W, Calls Try.prog 50 #[.int .u64 1] W (fun e w' => ∃ v, e = .returned v ∧ N64 w' v 1 ∧ Below W.heap.size W w')) := Lib.hid (fun W => of_lit 1 (by decide) 1 rfl W)
    have w1l : wl 64 1 ≤ 1 := w64_lit (by decide)
    have w18 : wl 8 1 ≤ 1 := wl8_bits (m := 1) (by decide)
    have hl40 : la.length ≤ 40 := by omega
    have HRD := Lib.hid (fun v W h => nread_any v la W h hba (by omega))
    have hwx := Nat.le_trans (be_w64 hba) hl40
    have hwx8 := Nat.le_trans (be_wl hba) hl40
    obtain ⟨x, hxe⟩ : ∃ x, be la = x := ⟨_, rfl⟩
    rw [hxe] at HRD hwx hwx8
    have HAD := Lib.hid (fun va vb W h1 h2 => nadd_any va vb x 1 W h1 h2 (by omega) (by omega))
    have w3 := wl_add_le (k := 64) (by decide) hwx (Nat.le_trans w1l (by decide : 1 ≤ 40))
    have w38 := wl_add_le (k := 8) (by decide) hwx8 (Nat.le_trans w18 (by decide : 1 ≤ 40))
    obtain ⟨x1, hx1⟩ : ∃ y, x + 1 = y := ⟨_, rfl⟩
    rw [hx1] at HAD w3 w38
    have hx10 : 0 < x1 := by omega
    have hT2 : 2 ^ T < 2 ^ (T + 1) := Nat.pow_lt_pow_right (by decide) (Nat.lt_succ_self T)
    have hT20 := Nat.two_pow_pos T
    have w2 := Nat.le_trans (wl_bits hT2) (Nat.succ_le_of_lt hT)
    have w28 := Nat.le_trans (wl8_bits hT2) (Nat.succ_le_of_lt hT)
    have HU := Lib.hid (fun v W h => nup_any v 1 W h (by omega) (T : Int) (by omega))
    rw [Int.toNat_natCast, Nat.one_mul] at HU
    have HF1 := Lib.hid (fun va vb W h1 h2 => rof_lit va vb (2 ^ T) 1 (2 ^ T) 1 W h1 h2 (by omega) (by omega) (by decide) (rn_one _) (rd_one _))
    have HF2 := Lib.hid (fun va vb W h1 h2 => rof_lit va vb 1 (2 ^ T) 1 (2 ^ T) W h1 h2 (by omega) (by omega) hT20 (one_rn _) (one_rd _))
    have HF3 := Lib.hid (fun va vb W h1 h2 => rof_lit va vb 1 x1 1 x1 W h1 h2 (by omega) (by omega) hx10 (one_rn _) (one_rd _))
    have sA : Sz 600 (2 ^ T, 1) := ⟨w28, Nat.le_trans w18 (by decide)⟩
    have sI : Sz 600 (1, 2 ^ T) := ⟨Nat.le_trans w18 (by decide), w28⟩
    have sQ : Sz 41 (1, x1) := ⟨Nat.le_trans w18 (by decide), w38⟩
    have sQQ := sQ.mul sQ
    have sL := sA.less sQQ
    have HMU := Lib.hid (fun va vb W h1 h2 => c_mul (a := (1, x1)) (b := (1, x1)) (va := va) (vb := vb) (W := W) (B := 1000) (by decide) (sQ.mono (by decide)) (sQ.mono (by decide)) h1 h2)
    have HLE := Lib.hid (fun va vb W h1 h2 => c_less (a := (2 ^ T, 1)) (va := va) (vb := vb) (W := W) (B := 1000) (by decide) (sA.mono (by decide)) (sQQ.mono (by decide)) h1 h2)
    have rQ : Red (1, x1) := ⟨Nat.gcd_one_left _, hx10⟩
    have rA : Red (2 ^ T, 1) := ⟨Nat.gcd_one_right _, Nat.one_pos⟩
    have rQQ := mulR_red rQ rQ
    have rL := lessR_red rA rQQ
    have pQQ : 0 < (mulR (1, x1) (1, x1)).1 := rn_pos (Nat.one_pos)
    have HBL := Lib.hid (fun h => lg_below h rL.2 (lessR_lt pQQ rQQ.2 h) b1)
    have HL1 := Lib.hid (fun v W h => c_log (a := (2 ^ T, 1)) (v := v) (W := W) (kb := (b1 : Int)) h rfl hT20 Nat.one_pos (sA.lt (m := 10000) (by decide)) (by decide) hb1)
    have HL2 := Lib.hid (fun v W h => c_log (a := (1, 2 ^ T)) (v := v) (W := W) (kb := (b1 : Int)) h rfl Nat.one_pos hT20 (sI.lt (m := 10000) (by decide)) (by decide) hb1)
    rw [lg_two] at HL1
    rw [lg_half] at HL2
    have hpb : 2 ^ b1 ≤ 4096 := Nat.pow_le_pow_right (n := 2) (by decide) hb1
    have hKb : T * 2 ^ b1 ≤ 600 * 4096 := Nat.mul_le_mul (by omega) hpb
    have HKP : Hid (∀ p : Nat, p = 2 ^ b1 → (T : Int) * (p : Int) = ((T * 2 ^ b1 : Nat) : Int)) := Lib.hid (fun p h => by rw [h]; rfl)
    obtain ⟨K, hK⟩ : ∃ K, T * 2 ^ b1 = K := ⟨_, rfl⟩
    rw [hK] at HL1 HL2 HKP HBL hKb
    clear hK hpb
    have HLL := Lib.hid (fun h v W h' => c_log (a := lessR (2 ^ T, 1) (mulR (1, x1) (1, x1))) (v := v) (W := W) (kb := (b1 : Int)) h' rfl h rL.2 (sL.lt (m := 20000) (by decide)) (by decide) hb1)
    generalize lessR (2 ^ T, 1) (mulR (1, x1) (1, x1)) = s at *
    generalize mulR (1, x1) (1, x1) = r at *
    obtain ⟨T2, hT2e⟩ : ∃ y, 2 ^ T = y := ⟨_, rfl⟩
    rw [hT2e] at HU HF1 HF2 HLE HL1 HL2
    have HB12 := Lib.hid hb1
    clear hla ha hba h1 hb1 hb1e hTe w1l w18 hl40 hwx hwx8 hxe hx1 hx10 hT2 hT20 w2 w28 w3 w38 sA sI sQ sQQ sL rQ rA rQQ rL pQQ hT2e
    go_enter Try.func13, Try.ntmps13
    go_wp2_with fail
    with_reducible refine (O1.out _).mono ?_
    rintro e w1 ⟨u, rfl, hu, hb⟩
    replace HA := Lib.hid (HA.out.below hb)
    replace HB0 := Lib.hid (cbt HB0.out hb)
    have N1 := Lib.hid hu
    clear hb hu
    go_wp2_with fail
    with_reducible refine (HU.out _ _ N1.out).mono ?_
    rintro e w2 ⟨u, rfl, hu, hb⟩
    replace HA := Lib.hid (HA.out.below hb)
    replace N1 := Lib.hid (N1.out.below hb)
    replace HB0 := Lib.hid (cbt HB0.out hb)
    have N9 := Lib.hid hu
    clear hb hu
    clear N1
    have Z0 := N9.out
    obtain ⟨PS0, cpS0, rfl, _, _, _⟩ := Z0
    have e9 := Blk.new w2 26 #[.slice PS0 (wl 64 (T2)) cpS0]
    have hb := cba (Below.refl _ w2) (.cells #[.slice PS0 (wl 64 (T2)) cpS0] 26)
    go_upto_region 6 with (fail)
    obtain ⟨S, hS⟩ : ∃ S, (w2.alloc (.cells #[.slice PS0 (wl 64 (T2)) cpS0] 26)) = S := ⟨_, rfl⟩
    rw [hS] at e9 hb ⊢
    obtain ⟨g9, hg⟩ : ∃ g, w2.heap.size = g := ⟨_, rfl⟩
    rw [hg] at e9
    simp only [hg]
    replace N9 := Lib.hid (N9.out.below hb)
    replace HA := Lib.hid (HA.out.below hb)
    replace HB0 := Lib.hid (cbt HB0.out hb)
    have E9 := Lib.hid e9
    clear hS hg hb e9
    let FS : List Kept1 := [.n (T2), .n (1), .two (.f (T2) (1)) (.eq (.int .i64 0)), .two (.f (T2) (1)) (.eq (.int .i64 0)), .f (T2) (1), .eq (.int .i64 0), .any, .any, .eq (.int .i64 0)]
    let BS : List Bx := [Bx.rat (.inl 6) 7 #[.slice none 0 0, .slice none 0 0] (T2) (1)]
    refine region_mono (Held S (fun j => FS.getD j .any) BS) (by kernel_rfl) (by kernel_rfl) (by kernel_rfl) (Held.start _ _ _ (by simp [BS, Bx.nat, Bx.rat, Bx.ref]) (by simp [BS, Bx.nat, Bx.rat, Bx.ref])) ?_
    refine Steps.held ?_ ?_
    · intro L v w' hJ
      have kb := hJ.out.blk E9.out (by simp [oldsOf, BS, Bx.nat, Bx.rat, Bx.ref])
      have k0 := kb.cell 0
      clear kb
      go_wp2_with fail
      exact ⟨rfl, rfl, hJ.out.same (by rfl) (N9.out.keep hJ.out.held.keep)⟩
    simp only [Act.put, List.setIfInBounds_toArray, List.set_cons_zero, List.set_cons_succ, Nat.reduceAdd]
    refine Steps.held ?_ ?_
    · intro L v w' hJ
      go_wp2_with fail
      with_reducible refine (O1.out _).mono ?_
      rintro e w1 ⟨u, rfl, hu, hb⟩
      go_wp2_with fail
      exact ⟨rfl, rfl, hJ.out.call (by rfl) hb (hu)⟩
    simp only [Act.put, List.setIfInBounds_toArray, List.set_cons_zero, List.set_cons_succ, Nat.reduceAdd]
    refine Steps.held ?_ ?_
    · intro L v w' hJ
      have X0 := Lib.hid (show N64 w' (v 0) (T2) from hJ.out.fact 0 (by kernel_rfl))
      have X1 := Lib.hid (show N64 w' (v 1) (1) from hJ.out.fact 1 (by kernel_rfl))
      go_wp2_with fail
      with_reducible refine (HF1.out _ _ _ X0.out X1.out).mono ?_
      rintro e w1 ⟨u, rfl, hu, hb⟩
      go_wp2_with fail
      exact ⟨rfl, rfl, hJ.out.call (by rfl) hb (⟨_, _, rfl, hu, rfl⟩)⟩
    simp only [Act.put, List.setIfInBounds_toArray, List.set_cons_zero, List.set_cons_succ, Nat.reduceAdd]
    refine Steps.held ?_ ?_
    · intro L v w' hJ
      go_wp2_with fail
      exact ⟨rfl, rfl, hJ.out.same (by rfl) (hJ.out.fact 2 (by kernel_rfl))⟩
    simp only [Act.put, List.setIfInBounds_toArray, List.set_cons_zero, List.set_cons_succ, Nat.reduceAdd]
    refine Steps.held ?_ ?_
    · intro L v w' hJ
      obtain ⟨x0, x1, hv, h0, h1⟩ := hJ.out.fact 3 (by kernel_rfl)
      simp only [hv]
      clear hv
      go_wp2_with fail
      exact ⟨rfl, rfl, hJ.out.same (by rfl) (h0)⟩
    simp only [Act.put, List.setIfInBounds_toArray, List.set_cons_zero, List.set_cons_succ, Nat.reduceAdd]
    refine Steps.held ?_ ?_
    · intro L v w' hJ
      obtain ⟨x0, x1, hv, h0, h1⟩ := hJ.out.fact 3 (by kernel_rfl)
      simp only [hv]
      clear hv
      go_wp2_with fail
      exact ⟨rfl, rfl, hJ.out.same (by rfl) (h1)⟩
    simp only [Act.put, List.setIfInBounds_toArray, List.set_cons_zero, List.set_cons_succ, Nat.reduceAdd]
    refine Steps.held ?_ ?_
    · intro L v w' hJ
      go_wp2_with fail
      exact ⟨rfl, rfl, hJ.out.made 0 _ rfl rfl (by rfl) trivial⟩
    simp only [Act.put, List.setIfInBounds_toArray, List.set_cons_zero, List.set_cons_succ, Nat.reduceAdd]
    refine Steps.held ?_ ?_
    · intro L v w' hJ
      obtain ⟨g, hg, hge, hown, hst⟩ := hJ.out.newbox 0 _ rfl 6 rfl (by kernel_rfl)
      have hN : F64 w' (v 4) (T2) (1) := hJ.out.fact 4 (by kernel_rfl)
      obtain ⟨A1, p1, c1, B1, q1, e1, x1, hv, h1, h2, h3⟩ := hN
      have HN := Lib.hid (show F64 w' (.agg #[.slice A1 p1 c1, .slice B1 q1 e1]) (T2) (1) from ⟨A1, p1, c1, B1, q1, e1, x1, rfl, h1, h2, h3⟩)
      have kb := hJ.out.box 0 _ rfl rfl g hown
      have k0 : w'.cell? ⟨g, 0, none⟩ = some (.slice none 0 0) := kb.cell 0
      have k1 : w'.cell? ⟨g, 1, none⟩ = some (.slice none 0 0) := kb.cell 1
      have f0 := kb.frozen 0
      have f1 := kb.frozen 1
      have HO := Lib.hid hown
      have HS := Lib.hid hst
      clear kb h1 h2 h3 hown hst
      simp only [hg, hv]
      clear hg hv
      go_wp2_with fail
      exact ⟨rfl, rfl, hJ.out.fill2 0 _ rfl rfl (by rfl) g HO.out HS.out _ _ rfl rfl rfl (fun W k => HN.out.keep k) (fun _ => trivial)⟩
    simp only [Act.put, List.setIfInBounds_toArray, List.set_cons_zero, List.set_cons_succ, Nat.reduceAdd]
    refine Steps.held ?_ ?_
    · intro L v w' hJ
      have hv5 : v 5 = .int .i64 0 := hJ.out.fact 5 (by kernel_rfl)
      simp only [hv5]
      clear hv5
      go_wp2_with fail
      exact ⟨rfl, rfl, hJ.out.same (by rfl) (rfl)⟩
    simp only [Act.put, List.setIfInBounds_toArray, List.set_cons_zero, List.set_cons_succ, Nat.reduceAdd]
    refine Steps.nil ?_
    intro v w' hJ
    have h8 : v 8 = .int .i64 0 := hJ.end_fact 8 (by decide)
    simp only [h8]
    clear h8
    obtain ⟨g10, cs6, hv6, hge6, hb6, hf6⟩ := hJ.end_new 0 _ rfl 6 rfl (by decide) (Nat.le_of_ble_eq_true rfl)
    have hfx : F64 w' (.agg cs6) T2 1 := hf6
    obtain ⟨A6, p6, c6, B6, q6, e6, x6, hcs6, h1, h2, h3⟩ := hfx
    have hcs6' := Value.agg.inj hcs6
    subst hcs6'
    simp only [hv6]
    have E10 := Lib.hid (show Blk w' g10 47 #[.slice A6 p6 c6, .slice B6 q6 e6] from hb6)
    have NE10 := Lib.hid (show F64 w' (.agg #[.slice A6 p6 c6, .slice B6 q6 e6]) T2 1 from hf6)
    clear hv6 hb6 hf6 hcs6 h1 h2
    have hbr := hJ.but.below
    replace N9 := Lib.hid (N9.out.below hbr)
    replace HA := Lib.hid (HA.out.below hbr)
    replace E9 := Lib.hid (blk_below E9.out hbr)
    replace HB0 := Lib.hid (cbt HB0.out hbr)
    clear hJ hbr
    go_wp2_with fail
    let FS : List Kept1 := [.n (1), .n (T2), .two (.f (1) (T2)) (.eq (.int .i64 0)), .two (.f (1) (T2)) (.eq (.int .i64 0)), .f (1) (T2), .eq (.int .i64 0), .any, .any, .eq (.int .i64 0)]
    let BS : List Bx := [Bx.rat (.inl 6) 7 #[.slice none 0 0, .slice none 0 0] (1) (T2)]
    refine region_mono (Held w' (fun j => FS.getD j .any) BS) (by kernel_rfl) (by kernel_rfl) (by kernel_rfl) (Held.start _ _ _ (by simp [BS, Bx.nat, Bx.rat, Bx.ref]) (by simp [BS, Bx.nat, Bx.rat, Bx.ref])) ?_
    refine Steps.held ?_ ?_
    · intro L v w' hJ
      go_wp2_with fail
      with_reducible refine (O1.out _).mono ?_
      rintro e w1 ⟨u, rfl, hu, hb⟩
      go_wp2_with fail
      exact ⟨rfl, rfl, hJ.out.call (by rfl) hb (hu)⟩
    simp only [Act.put, List.setIfInBounds_toArray, List.set_cons_zero, List.set_cons_succ, Nat.reduceAdd]
    refine Steps.held ?_ ?_
    · intro L v w' hJ
      have kb := hJ.out.blk E9.out (by simp [oldsOf, BS, Bx.nat, Bx.rat, Bx.ref])
      have k0 := kb.cell 0
      clear kb
      go_wp2_with fail
      exact ⟨rfl, rfl, hJ.out.same (by rfl) (N9.out.keep hJ.out.held.keep)⟩
    simp only [Act.put, List.setIfInBounds_toArray, List.set_cons_zero, List.set_cons_succ, Nat.reduceAdd]
    refine Steps.held ?_ ?_
    · intro L v w' hJ
      have X0 := Lib.hid (show N64 w' (v 0) (1) from hJ.out.fact 0 (by kernel_rfl))
      have X1 := Lib.hid (show N64 w' (v 1) (T2) from hJ.out.fact 1 (by kernel_rfl))
      go_wp2_with fail
      with_reducible refine (HF2.out _ _ _ X0.out X1.out).mono ?_
      rintro e w1 ⟨u, rfl, hu, hb⟩
      go_wp2_with fail
      exact ⟨rfl, rfl, hJ.out.call (by rfl) hb (⟨_, _, rfl, hu, rfl⟩)⟩
    simp only [Act.put, List.setIfInBounds_toArray, List.set_cons_zero, List.set_cons_succ, Nat.reduceAdd]
    refine Steps.held ?_ ?_
    · intro L v w' hJ
      go_wp2_with fail
      exact ⟨rfl, rfl, hJ.out.same (by rfl) (hJ.out.fact 2 (by kernel_rfl))⟩
    simp only [Act.put, List.setIfInBounds_toArray, List.set_cons_zero, List.set_cons_succ, Nat.reduceAdd]
    refine Steps.held ?_ ?_
    · intro L v w' hJ
      obtain ⟨x0, x1, hv, h0, h1⟩ := hJ.out.fact 3 (by kernel_rfl)
      simp only [hv]
      clear hv
      go_wp2_with fail
      exact ⟨rfl, rfl, hJ.out.same (by rfl) (h0)⟩
    simp only [Act.put, List.setIfInBounds_toArray, List.set_cons_zero, List.set_cons_succ, Nat.reduceAdd]
    refine Steps.held ?_ ?_
    · intro L v w' hJ
      obtain ⟨x0, x1, hv, h0, h1⟩ := hJ.out.fact 3 (by kernel_rfl)
      simp only [hv]
      clear hv
      go_wp2_with fail
      exact ⟨rfl, rfl, hJ.out.same (by rfl) (h1)⟩
    simp only [Act.put, List.setIfInBounds_toArray, List.set_cons_zero, List.set_cons_succ, Nat.reduceAdd]
    refine Steps.held ?_ ?_
    · intro L v w' hJ
      go_wp2_with fail
      exact ⟨rfl, rfl, hJ.out.made 0 _ rfl rfl (by rfl) trivial⟩
    simp only [Act.put, List.setIfInBounds_toArray, List.set_cons_zero, List.set_cons_succ, Nat.reduceAdd]
    refine Steps.held ?_ ?_
    · intro L v w' hJ
      obtain ⟨g, hg, hge, hown, hst⟩ := hJ.out.newbox 0 _ rfl 6 rfl (by kernel_rfl)
      have hN : F64 w' (v 4) (1) (T2) := hJ.out.fact 4 (by kernel_rfl)
      obtain ⟨A1, p1, c1, B1, q1, e1, x1, hv, h1, h2, h3⟩ := hN
      have HN := Lib.hid (show F64 w' (.agg #[.slice A1 p1 c1, .slice B1 q1 e1]) (1) (T2) from ⟨A1, p1, c1, B1, q1, e1, x1, rfl, h1, h2, h3⟩)
      have kb := hJ.out.box 0 _ rfl rfl g hown
      have k0 : w'.cell? ⟨g, 0, none⟩ = some (.slice none 0 0) := kb.cell 0
      have k1 : w'.cell? ⟨g, 1, none⟩ = some (.slice none 0 0) := kb.cell 1
      have f0 := kb.frozen 0
      have f1 := kb.frozen 1
      have HO := Lib.hid hown
      have HS := Lib.hid hst
      clear kb h1 h2 h3 hown hst
      simp only [hg, hv]
      clear hg hv
      go_wp2_with fail
      exact ⟨rfl, rfl, hJ.out.fill2 0 _ rfl rfl (by rfl) g HO.out HS.out _ _ rfl rfl rfl (fun W k => HN.out.keep k) (fun _ => trivial)⟩
    simp only [Act.put, List.setIfInBounds_toArray, List.set_cons_zero, List.set_cons_succ, Nat.reduceAdd]
    refine Steps.held ?_ ?_
    · intro L v w' hJ
      have hv5 : v 5 = .int .i64 0 := hJ.out.fact 5 (by kernel_rfl)
      simp only [hv5]
      clear hv5
      go_wp2_with fail
      exact ⟨rfl, rfl, hJ.out.same (by rfl) (rfl)⟩
    simp only [Act.put, List.setIfInBounds_toArray, List.set_cons_zero, List.set_cons_succ, Nat.reduceAdd]
    refine Steps.nil ?_
    intro v w' hJ
    have h8 : v 8 = .int .i64 0 := hJ.end_fact 8 (by decide)
    simp only [h8]
    clear h8
    obtain ⟨g12, cs7, hv7, hge7, hb7, hf7⟩ := hJ.end_new 0 _ rfl 6 rfl (by decide) (Nat.le_of_ble_eq_true rfl)
    have hfx : F64 w' (.agg cs7) 1 T2 := hf7
    obtain ⟨A7, p7, c7, B7, q7, e7, x7, hcs7, h1, h2, h3⟩ := hfx
    have hcs7' := Value.agg.inj hcs7
    subst hcs7'
    simp only [hv7]
    have E12 := Lib.hid (show Blk w' g12 47 #[.slice A7 p7 c7, .slice B7 q7 e7] from hb7)
    have NE12 := Lib.hid (show F64 w' (.agg #[.slice A7 p7 c7, .slice B7 q7 e7]) 1 T2 from hf7)
    clear hv7 hb7 hf7 hcs7 h1 h2
    have hbr := hJ.but.below
    replace NE10 := Lib.hid (NE10.out.below hbr)
    replace HA := Lib.hid (HA.out.below hbr)
    replace E10 := Lib.hid (blk_below E10.out hbr)
    replace HB0 := Lib.hid (cbt HB0.out hbr)
    clear hJ hbr
    clear N9 E9
    have k_E10_0 := E10.out.cell 0
    have k_E10_1 := E10.out.cell 1
    have k_E12_0 := E12.out.cell 0
    have k_E12_1 := E12.out.cell 1
    go_wp2_with fail
    with_reducible refine (O1.out _).mono ?_
    rintro e w3 ⟨u, rfl, hu, hb⟩
    clear k_E10_0 k_E10_1 k_E12_0 k_E12_1
    replace NE10 := Lib.hid (NE10.out.below hb)
    replace NE12 := Lib.hid (NE12.out.below hb)
    replace HA := Lib.hid (HA.out.below hb)
    replace E10 := Lib.hid (blk_below E10.out hb)
    replace E12 := Lib.hid (blk_below E12.out hb)
    replace HB0 := Lib.hid (cbt HB0.out hb)
    have N1 := Lib.hid hu
    clear hb hu
    have k_E10_0 := E10.out.cell 0
    have k_E10_1 := E10.out.cell 1
    have k_E12_0 := E12.out.cell 0
    have k_E12_1 := E12.out.cell 1
    go_wp2_with fail
    with_reducible refine (HRD.out _ _ HA.out).mono ?_
    rintro e w4 ⟨u, rfl, hu, hb⟩
    clear k_E10_0 k_E10_1 k_E12_0 k_E12_1
    replace NE10 := Lib.hid (NE10.out.below hb)
    replace NE12 := Lib.hid (NE12.out.below hb)
    replace HA := Lib.hid (HA.out.below hb)
    replace N1 := Lib.hid (N1.out.below hb)
    replace E10 := Lib.hid (blk_below E10.out hb)
    replace E12 := Lib.hid (blk_below E12.out hb)
    replace HB0 := Lib.hid (cbt HB0.out hb)
    have NX := Lib.hid hu
    clear hb hu
    have k_E10_0 := E10.out.cell 0
    have k_E10_1 := E10.out.cell 1
    have k_E12_0 := E12.out.cell 0
    have k_E12_1 := E12.out.cell 1
    go_wp2_with fail
    with_reducible refine (O1.out _).mono ?_
    rintro e w5 ⟨u, rfl, hu, hb⟩
    clear k_E10_0 k_E10_1 k_E12_0 k_E12_1
    replace NE10 := Lib.hid (NE10.out.below hb)
    replace NE12 := Lib.hid (NE12.out.below hb)
    replace HA := Lib.hid (HA.out.below hb)
    replace N1 := Lib.hid (N1.out.below hb)
    replace NX := Lib.hid (NX.out.below hb)
    replace E10 := Lib.hid (blk_below E10.out hb)
    replace E12 := Lib.hid (blk_below E12.out hb)
    replace HB0 := Lib.hid (cbt HB0.out hb)
    have N2 := Lib.hid hu
    clear hb hu
    have k_E10_0 := E10.out.cell 0
    have k_E10_1 := E10.out.cell 1
    have k_E12_0 := E12.out.cell 0
    have k_E12_1 := E12.out.cell 1
    go_wp2_with fail
    with_reducible refine (HAD.out _ _ _ NX.out N2.out).mono ?_
    rintro e w6 ⟨u, rfl, hu, hb⟩
    clear k_E10_0 k_E10_1 k_E12_0 k_E12_1
    replace NE10 := Lib.hid (NE10.out.below hb)
    replace NE12 := Lib.hid (NE12.out.below hb)
    replace HA := Lib.hid (HA.out.below hb)
    replace N1 := Lib.hid (N1.out.below hb)
    replace NX := Lib.hid (NX.out.below hb)
    replace N2 := Lib.hid (N2.out.below hb)
    replace E10 := Lib.hid (blk_below E10.out hb)
    replace E12 := Lib.hid (blk_below E12.out hb)
    replace HB0 := Lib.hid (cbt HB0.out hb)
    have NY := Lib.hid hu
    clear hb hu
    have k_E10_0 := E10.out.cell 0
    have k_E10_1 := E10.out.cell 1
    have k_E12_0 := E12.out.cell 0
    have k_E12_1 := E12.out.cell 1
    go_wp2_with fail
    with_reducible refine (HF3.out _ _ _ N1.out NY.out).mono ?_
    rintro e w7 ⟨u, rfl, hu, hb⟩
    clear k_E10_0 k_E10_1 k_E12_0 k_E12_1
    replace NE10 := Lib.hid (NE10.out.below hb)
    replace NE12 := Lib.hid (NE12.out.below hb)
    replace HA := Lib.hid (HA.out.below hb)
    replace N1 := Lib.hid (N1.out.below hb)
    replace NX := Lib.hid (NX.out.below hb)
    replace N2 := Lib.hid (N2.out.below hb)
    replace NY := Lib.hid (NY.out.below hb)
    replace E10 := Lib.hid (blk_below E10.out hb)
    replace E12 := Lib.hid (blk_below E12.out hb)
    replace HB0 := Lib.hid (cbt HB0.out hb)
    have NF := Lib.hid hu
    clear hb hu
    have k_E10_0 := E10.out.cell 0
    have k_E10_1 := E10.out.cell 1
    have k_E12_0 := E12.out.cell 0
    have k_E12_1 := E12.out.cell 1
    clear N1 N2 NX NY HA
    have Z0 := NF.out
    obtain ⟨AV0, pV0, cV0, BV0, qV0, eV0, xV0, rfl, _, _, _⟩ := Z0
    have e14 := Blk.new w7 47 #[.slice AV0 pV0 cV0, .slice BV0 qV0 eV0]
    have hb := cba (Below.refl _ w7) (.cells #[.slice AV0 pV0 cV0, .slice BV0 qV0 eV0] 47)
    go_upto_region 9 with (fail)
    obtain ⟨V, hS⟩ : ∃ S, (w7.alloc (.cells #[.slice AV0 pV0 cV0, .slice BV0 qV0 eV0] 47)) = S := ⟨_, rfl⟩
    rw [hS] at e14 hb ⊢
    obtain ⟨g14, hg⟩ : ∃ g, w7.heap.size = g := ⟨_, rfl⟩
    rw [hg] at e14
    simp only [hg]
    replace NE10 := Lib.hid (NE10.out.below hb)
    replace NE12 := Lib.hid (NE12.out.below hb)
    replace NF := Lib.hid (NF.out.below hb)
    replace E10 := Lib.hid (blk_below E10.out hb)
    replace E12 := Lib.hid (blk_below E12.out hb)
    replace HB0 := Lib.hid (cbt HB0.out hb)
    have E14 := Lib.hid e14
    clear hS hg hb e14 k_E10_0 k_E10_1 k_E12_0 k_E12_1
    let FS : List Kept1 := [.f (T2) (1), .f (1) (x1), .f (1) (x1), .f (r.1) (r.2), .f (s.1) (s.2), .any, .any]
    let BS : List Bx := [Bx.rat (.inl 5) 6 #[.slice none 0 0, .slice none 0 0] (s.1) (s.2)]
    refine region_mono (Held V (fun j => FS.getD j .any) BS) (by kernel_rfl) (by kernel_rfl) (by kernel_rfl) (Held.start _ _ _ (by simp [BS, Bx.nat, Bx.rat, Bx.ref]) (by simp [BS, Bx.nat, Bx.rat, Bx.ref])) ?_
    refine Steps.held ?_ ?_
    · intro L v w' hJ
      have kb := hJ.out.blk E10.out (by simp [oldsOf, BS, Bx.nat, Bx.rat, Bx.ref])
      have k0 := kb.cell 0
      have k1 := kb.cell 1
      clear kb
      go_wp2_with fail
      exact ⟨rfl, rfl, hJ.out.same (by rfl) (NE10.out.keep hJ.out.held.keep)⟩
    simp only [Act.put, List.setIfInBounds_toArray, List.set_cons_zero, List.set_cons_succ, Nat.reduceAdd]
    refine Steps.held ?_ ?_
    · intro L v w' hJ
      have kb := hJ.out.blk E14.out (by simp [oldsOf, BS, Bx.nat, Bx.rat, Bx.ref])
      have k0 := kb.cell 0
      have k1 := kb.cell 1
      clear kb
      go_wp2_with fail
      exact ⟨rfl, rfl, hJ.out.same (by rfl) (NF.out.keep hJ.out.held.keep)⟩
    simp only [Act.put, List.setIfInBounds_toArray, List.set_cons_zero, List.set_cons_succ, Nat.reduceAdd]
    refine Steps.held ?_ ?_
    · intro L v w' hJ
      have kb := hJ.out.blk E14.out (by simp [oldsOf, BS, Bx.nat, Bx.rat, Bx.ref])
      have k0 := kb.cell 0
      have k1 := kb.cell 1
      clear kb
      go_wp2_with fail
      exact ⟨rfl, rfl, hJ.out.same (by rfl) (NF.out.keep hJ.out.held.keep)⟩
    simp only [Act.put, List.setIfInBounds_toArray, List.set_cons_zero, List.set_cons_succ, Nat.reduceAdd]
    refine Steps.held ?_ ?_
    · intro L v w' hJ
      have X0 := Lib.hid (show F64 w' (v 1) (1) (x1) from hJ.out.fact 1 (by kernel_rfl))
      have X1 := Lib.hid (show F64 w' (v 2) (1) (x1) from hJ.out.fact 2 (by kernel_rfl))
      go_wp2_with fail
      with_reducible refine (HMU.out _ _ _ X0.out X1.out).mono ?_
      rintro e w1 ⟨u, rfl, hu, hb⟩
      go_wp2_with fail
      exact ⟨rfl, rfl, hJ.out.call (by rfl) hb (hu)⟩
    simp only [Act.put, List.setIfInBounds_toArray, List.set_cons_zero, List.set_cons_succ, Nat.reduceAdd]
    refine Steps.held ?_ ?_
    · intro L v w' hJ
      have X0 := Lib.hid (show F64 w' (v 0) (T2) (1) from hJ.out.fact 0 (by kernel_rfl))
      have X1 := Lib.hid (show F64 w' (v 3) (r.1) (r.2) from hJ.out.fact 3 (by kernel_rfl))
      go_wp2_with fail
      with_reducible refine (HLE.out _ _ _ X0.out X1.out).mono ?_
      rintro e w1 ⟨u, rfl, hu, hb⟩
      go_wp2_with fail
      exact ⟨rfl, rfl, hJ.out.call (by rfl) hb (hu)⟩
    simp only [Act.put, List.setIfInBounds_toArray, List.set_cons_zero, List.set_cons_succ, Nat.reduceAdd]
    refine Steps.held ?_ ?_
    · intro L v w' hJ
      go_wp2_with fail
      exact ⟨rfl, rfl, hJ.out.made 0 _ rfl rfl (by rfl) trivial⟩
    simp only [Act.put, List.setIfInBounds_toArray, List.set_cons_zero, List.set_cons_succ, Nat.reduceAdd]
    refine Steps.held ?_ ?_
    · intro L v w' hJ
      obtain ⟨g, hg, hge, hown, hst⟩ := hJ.out.newbox 0 _ rfl 5 rfl (by kernel_rfl)
      have hN : F64 w' (v 4) (s.1) (s.2) := hJ.out.fact 4 (by kernel_rfl)
      obtain ⟨A1, p1, c1, B1, q1, e1, x1, hv, h1, h2, h3⟩ := hN
      have HN := Lib.hid (show F64 w' (.agg #[.slice A1 p1 c1, .slice B1 q1 e1]) (s.1) (s.2) from ⟨A1, p1, c1, B1, q1, e1, x1, rfl, h1, h2, h3⟩)
      have kb := hJ.out.box 0 _ rfl rfl g hown
      have k0 : w'.cell? ⟨g, 0, none⟩ = some (.slice none 0 0) := kb.cell 0
      have k1 : w'.cell? ⟨g, 1, none⟩ = some (.slice none 0 0) := kb.cell 1
      have f0 := kb.frozen 0
      have f1 := kb.frozen 1
      have HO := Lib.hid hown
      have HS := Lib.hid hst
      clear kb h1 h2 h3 hown hst
      simp only [hg, hv]
      clear hg hv
      go_wp2_with fail
      exact ⟨rfl, rfl, hJ.out.fill2 0 _ rfl rfl (by rfl) g HO.out HS.out _ _ rfl rfl rfl (fun W k => HN.out.keep k) (fun _ => trivial)⟩
    simp only [Act.put, List.setIfInBounds_toArray, List.set_cons_zero, List.set_cons_succ, Nat.reduceAdd]
    refine Steps.nil ?_
    intro v w' hJ
    obtain ⟨g16, cs5, hv5, hge5, hb5, hf5⟩ := hJ.end_new 0 _ rfl 5 rfl (by decide) (Nat.le_of_ble_eq_true rfl)
    have hfx : F64 w' (.agg cs5) s.1 s.2 := hf5
    obtain ⟨A5, p5, c5, B5, q5, e5, x5, hcs5, h1, h2, h3⟩ := hfx
    have hcs5' := Value.agg.inj hcs5
    subst hcs5'
    simp only [hv5]
    have E16 := Lib.hid (show Blk w' g16 47 #[.slice A5 p5 c5, .slice B5 q5 e5] from hb5)
    have NE16 := Lib.hid (show F64 w' (.agg #[.slice A5 p5 c5, .slice B5 q5 e5]) s.1 s.2 from hf5)
    clear hv5 hb5 hf5 hcs5 h1 h2
    have hbr := hJ.but.below
    replace NE10 := Lib.hid (NE10.out.below hbr)
    replace NE12 := Lib.hid (NE12.out.below hbr)
    replace E10 := Lib.hid (blk_below E10.out hbr)
    replace E12 := Lib.hid (blk_below E12.out hbr)
    replace HB0 := Lib.hid (cbt HB0.out hbr)
    clear hJ hbr
    clear NF E14
    have k_E10_0 := E10.out.cell 0
    have k_E10_1 := E10.out.cell 1
    have k_E12_0 := E12.out.cell 0
    have k_E12_1 := E12.out.cell 1
    have k_E16_0 := E16.out.cell 0
    have k_E16_1 := E16.out.cell 1
    go_wp2_with fail
    with_reducible refine (HL1.out _ _ NE10.out).mono ?_
    rintro e w8 ⟨rfl, hb⟩
    clear k_E10_0 k_E10_1 k_E12_0 k_E12_1 k_E16_0 k_E16_1
    replace NE10 := Lib.hid (NE10.out.below hb)
    replace NE12 := Lib.hid (NE12.out.below hb)
    replace NE16 := Lib.hid (NE16.out.below hb)
    replace E10 := Lib.hid (blk_below E10.out hb)
    replace E12 := Lib.hid (blk_below E12.out hb)
    replace E16 := Lib.hid (blk_below E16.out hb)
    replace HB0 := Lib.hid (cbt HB0.out hb)
    clear hb
    have k_E10_0 := E10.out.cell 0
    have k_E10_1 := E10.out.cell 1
    have k_E12_0 := E12.out.cell 0
    have k_E12_1 := E12.out.cell 1
    have k_E16_0 := E16.out.cell 0
    have k_E16_1 := E16.out.cell 1
    go_wp2_with fail
    with_reducible refine (HL2.out _ _ NE12.out).mono ?_
    rintro e w10 ⟨rfl, hb⟩
    clear k_E10_0 k_E10_1 k_E12_0 k_E12_1 k_E16_0 k_E16_1
    replace NE10 := Lib.hid (NE10.out.below hb)
    replace NE12 := Lib.hid (NE12.out.below hb)
    replace NE16 := Lib.hid (NE16.out.below hb)
    replace E10 := Lib.hid (blk_below E10.out hb)
    replace E12 := Lib.hid (blk_below E12.out hb)
    replace E16 := Lib.hid (blk_below E16.out hb)
    replace HB0 := Lib.hid (cbt HB0.out hb)
    clear hb
    have k_E10_0 := E10.out.cell 0
    have k_E10_1 := E10.out.cell 1
    have k_E12_0 := E12.out.cell 0
    have k_E12_1 := E12.out.cell 1
    have k_E16_0 := E16.out.cell 0
    have k_E16_1 := E16.out.cell 1
    go_wp2_with fail
    clear k_E10_0 k_E10_1 k_E12_0 k_E12_1 k_E16_0 k_E16_1
    have hB := HB12.out
    go_loopw [21, 22] (fun v21 v22 wr => ∃ i p : Nat, i ≤ b1 ∧ v22 = .int .i64 (i : Nat) ∧ v21 = .int .i64 (p : Nat) ∧ Hid (p = 2 ^ i) ∧ p ≤ 4096 ∧ wr = w10) (fun _ v22 _ => b1 - (intOf v22).toNat)
    case atStart => exact ⟨0, 1, Nat.zero_le _, rfl, rfl, Lib.hid rfl, by decide, rfl⟩
    case round =>
      obtain ⟨i, p, hib, rfl, rfl, hp, hp4, rfl⟩ := hrel
      by_cases hlt : i < b1
      · have dlt : decide ((i : Int) < (b1 : Int)) = true := decide_eq_true (by omega)
        have hp2 : 2 * p = 2 ^ (i + 1) := by rw [hp.out, Nat.pow_succ, Nat.mul_comm]
        have hp3 : 2 ^ (i + 1) ≤ 2 ^ 12 := Nat.pow_le_pow_right (by decide) (by omega)
        have hp5 : p * 2 ≤ 4096 := by omega
        have HP2 := Lib.hid (show p * 2 = 2 ^ (i + 1) by rw [← hp2, Nat.mul_comm])
        clear hp2 hp3
        go_wp2_with fail
        exact ⟨⟨i + 1, p * 2, Nat.succ_le_of_lt hlt, congrArg (Value.int .i64) (Int.natCast_succ i).symm, congrArg (Value.int .i64) (by omega), HP2, hp5, trivial⟩, less_i hlt⟩
      · have hie : i = b1 := by omega
        have dlt : decide ((i : Int) < (b1 : Int)) = false := decide_eq_false (by omega)
        have hw : (T : Int) * (p : Int) = (K : Int) := HKP.out p (by rw [hp.out, hie])
        clear hie hp hib
        by_cases hs : s.1 = 0
        · have HZ := Lib.hid (fun v W h => rzero_yes v s.1 s.2 W h hs)
          clear hs
          have k_E10_0 := E10.out.cell 0
          have k_E10_1 := E10.out.cell 1
          have k_E12_0 := E12.out.cell 0
          have k_E12_1 := E12.out.cell 1
          have k_E16_0 := E16.out.cell 0
          have k_E16_1 := E16.out.cell 1
          go_wp2_with fail
          with_reducible refine (HZ.out _ _ NE16.out).mono ?_
          rintro e w11 ⟨rfl, hb⟩
          clear k_E10_0 k_E10_1 k_E12_0 k_E12_1 k_E16_0 k_E16_1
          replace NE10 := Lib.hid (NE10.out.below hb)
          replace NE12 := Lib.hid (NE12.out.below hb)
          replace NE16 := Lib.hid (NE16.out.below hb)
          replace E10 := Lib.hid (blk_below E10.out hb)
          replace E12 := Lib.hid (blk_below E12.out hb)
          replace E16 := Lib.hid (blk_below E16.out hb)
          replace HB0 := Lib.hid (cbt HB0.out hb)
          clear hb
          have k_E10_0 := E10.out.cell 0
          have k_E10_1 := E10.out.cell 1
          have k_E12_0 := E12.out.cell 0
          have k_E12_1 := E12.out.cell 1
          have k_E16_0 := E16.out.cell 0
          have k_E16_1 := E16.out.cell 1
          go_wp2_with fail
          with_reducible refine (HLV.out _).mono ?_
          rintro e w9 ⟨rfl, hb⟩
          clear k_E10_0 k_E10_1 k_E12_0 k_E12_1 k_E16_0 k_E16_1
          replace NE10 := Lib.hid (NE10.out.below hb)
          replace NE12 := Lib.hid (NE12.out.below hb)
          replace NE16 := Lib.hid (NE16.out.below hb)
          replace E10 := Lib.hid (blk_below E10.out hb)
          replace E12 := Lib.hid (blk_below E12.out hb)
          replace E16 := Lib.hid (blk_below E16.out hb)
          replace HB0 := Lib.hid (cbt HB0.out hb)
          clear hb
          have k_E10_0 := E10.out.cell 0
          have k_E10_1 := E10.out.cell 1
          have k_E12_0 := E12.out.cell 0
          have k_E12_1 := E12.out.cell 1
          have k_E16_0 := E16.out.cell 0
          have k_E16_1 := E16.out.cell 1
          go_wp2_with fail
          go_ret
          exact ⟨rfl, HB0.out⟩
        · have hs0 : 0 < s.1 := Nat.pos_of_ne_zero hs
          have HZ := Lib.hid (fun v W h => rzero_no v s.1 s.2 W h hs0)
          have HL3 := Lib.hid (HLL.out hs0)
          have hbl := HBL.out hs0
          obtain ⟨z, hz⟩ : ∃ z, lg s b1 = z := ⟨_, rfl⟩
          rw [hz] at HL3 hbl
          have dz : decide (z < (K : Int)) = true := decide_eq_true hbl
          clear hs hs0 hz hbl
          have k_E10_0 := E10.out.cell 0
          have k_E10_1 := E10.out.cell 1
          have k_E12_0 := E12.out.cell 0
          have k_E12_1 := E12.out.cell 1
          have k_E16_0 := E16.out.cell 0
          have k_E16_1 := E16.out.cell 1
          go_wp2_with fail
          with_reducible refine (HZ.out _ _ NE16.out).mono ?_
          rintro e w11 ⟨rfl, hb⟩
          clear k_E10_0 k_E10_1 k_E12_0 k_E12_1 k_E16_0 k_E16_1
          replace NE10 := Lib.hid (NE10.out.below hb)
          replace NE12 := Lib.hid (NE12.out.below hb)
          replace NE16 := Lib.hid (NE16.out.below hb)
          replace E10 := Lib.hid (blk_below E10.out hb)
          replace E12 := Lib.hid (blk_below E12.out hb)
          replace E16 := Lib.hid (blk_below E16.out hb)
          replace HB0 := Lib.hid (cbt HB0.out hb)
          clear hb
          have k_E10_0 := E10.out.cell 0
          have k_E10_1 := E10.out.cell 1
          have k_E12_0 := E12.out.cell 0
          have k_E12_1 := E12.out.cell 1
          have k_E16_0 := E16.out.cell 0
          have k_E16_1 := E16.out.cell 1
          go_wp2_with fail
          with_reducible refine (HL3.out _ _ NE16.out).mono ?_
          rintro e w12 ⟨rfl, hb⟩
          clear k_E10_0 k_E10_1 k_E12_0 k_E12_1 k_E16_0 k_E16_1
          replace NE10 := Lib.hid (NE10.out.below hb)
          replace NE12 := Lib.hid (NE12.out.below hb)
          replace NE16 := Lib.hid (NE16.out.below hb)
          replace E10 := Lib.hid (blk_below E10.out hb)
          replace E12 := Lib.hid (blk_below E12.out hb)
          replace E16 := Lib.hid (blk_below E16.out hb)
          replace HB0 := Lib.hid (cbt HB0.out hb)
          clear hb
          have k_E10_0 := E10.out.cell 0
          have k_E10_1 := E10.out.cell 1
          have k_E12_0 := E12.out.cell 0
          have k_E12_1 := E12.out.cell 1
          have k_E16_0 := E16.out.cell 0
          have k_E16_1 := E16.out.cell 1
          go_wp2_with fail
          with_reducible refine (HLV.out _).mono ?_
          rintro e w9 ⟨rfl, hb⟩
          clear k_E10_0 k_E10_1 k_E12_0 k_E12_1 k_E16_0 k_E16_1
          replace NE10 := Lib.hid (NE10.out.below hb)
          replace NE12 := Lib.hid (NE12.out.below hb)
          replace NE16 := Lib.hid (NE16.out.below hb)
          replace E10 := Lib.hid (blk_below E10.out hb)
          replace E12 := Lib.hid (blk_below E12.out hb)
          replace E16 := Lib.hid (blk_below E16.out hb)
          replace HB0 := Lib.hid (cbt HB0.out hb)
          clear hb
          have k_E10_0 := E10.out.cell 0
          have k_E10_1 := E10.out.cell 1
          have k_E12_0 := E12.out.cell 0
          have k_E12_1 := E12.out.cell 1
          have k_E16_0 := E16.out.cell 0
          have k_E16_1 := E16.out.cell 1
          go_wp2_with fail
          go_ret
          exact ⟨rfl, HB0.out⟩
  · have d1 : decide (40 < (n : Int)) = true := decide_eq_true (by omega)
    clear hla ha hba h1
    go_enter Try.func13, Try.ntmps13
    go_wp2_with fail
    with_reducible refine (HLV.out _).mono ?_
    rintro e w9 ⟨rfl, hb⟩
    replace HB0 := Lib.hid (cbt HB0.out hb)
    clear hb
    go_wp2_with fail
    go_ret
    exact ⟨rfl, HB0.out⟩
end Go.Proofs.Yteikhnmmkanndaa
