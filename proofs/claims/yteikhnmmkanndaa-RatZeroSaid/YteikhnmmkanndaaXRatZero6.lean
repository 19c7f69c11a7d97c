/- Laid together by prune.py out of the texts that the row needs: the declarations that its theorem uses. -/
import Derived.Test.YteikhnmmkanndaaXRatZero5
import Derived.ChangeSlices
import Derived.ChangeSame
import Derived.OpenShut
import Derived.ChangeOld
namespace Go.Proofs.Yteikhnmmkanndaa
open Go.RowKit Go.Proofs.YteikhnmmkanndaaW.PrintWords
set_option linter.unusedSimpArgs false
set_option linter.unusedVariables false
def Frc (w : World) (v : Value) (l m : List Int) : Prop := ∃ A n c B k d, v = .agg #[.slice A n c, .slice B k d] ∧ ByS w (.slice A n c) l ∧ ByS w (.slice B k d) m ∧ l.length = n ∧ m.length = k
theorem Frc.keep {w w' : World} {v : Value} {l m : List Int} (h : Frc w v l m) (k : Keep w w') : Frc w' v l m := by
  obtain ⟨A, n, c, B, p, d, hv, h1, h2, h3⟩ := h
  exact ⟨A, n, c, B, p, d, hv, h1.keep k, h2.keep k, h3⟩
theorem Frc.below {w w' : World} {v : Value} {l m : List Int} (h : Frc w v l m) (hb : Below w.heap.size w w') : Frc w' v l m := h.keep (Keep.of_below hb)
def Kept1.frc (l m : List Int) : Kept1 := ⟨fun v w => Frc w v l m, fun h k => h.keep k⟩
def den1 (y : Nat) : Nat := if y = 0 then 1 else y
theorem den1_pos (y : Nat) : 0 < den1 y := by unfold den1; split <;> omega
theorem den1_wl {k y b : Nat} (hk : 0 < k) (h : wl k y ≤ b) : wl k (den1 y) ≤ b + 1 := by
  unfold den1
  split
  · refine Nat.le_trans ((wl_le hk 1 1).2 ?_) (by omega)
    exact Nat.one_lt_two_pow (by omega)
  · omega
set_option maxRecDepth 100000 in
set_option maxHeartbeats 4000000 in
theorem rtext_of (v : Value) (n d : Nat) (sn sd : ByteArray) (w : World) (ha : F64 w v n d) (t1 : ∀ (u : Value) (W : World), N64 W u n → Calls Try.prog 46 #[u] W fun x w' => x = .returned (.string sn) ∧ Below W.heap.size W w') (t2 : ∀ (u : Value) (W : World), N64 W u d → Calls Try.prog 46 #[u] W fun x w' => x = .returned (.string sd) ∧ Below W.heap.size W w') (z1 : sn.size ≤ 100000) (z2 : sd.size ≤ 100000) : Calls Try.prog 72 #[v] w fun x w' => x = .returned (.string (sn ++ ⟨#[47]⟩ ++ sd)) ∧ Below w.heap.size w w' := by
  have Ha := Lib.hid ha
  obtain ⟨Pa, pa, ca, Qa, qa, ea, xa, rfl, _, _, _⟩ := ha
  have HNU := Lib.hid num_any
  have HDE := Lib.hid den_any
  have HT1 := Lib.hid t1
  have HT2 := Lib.hid t2
  have q1 : ¬ 9223372036854775807 < sn.size + 1 := by omega
  have q2 : ¬ 9223372036854775807 < sn.size + 1 + sd.size := by omega
  clear t1 t2 z1 z2
  have e0 := Blk.new (w) 47 #[(.slice Pa pa ca), (.slice Qa qa ea)]
  have hb := cba (Below.refl _ w) (.cells #[(.slice Pa pa ca), (.slice Qa qa ea)] 47)
  have hsz : w.heap.size ≤ w.heap.size := Nat.le_refl _
  go_enter Try.func72, Try.ntmps72
  go_upto_region 1 with (fail)
  obtain ⟨S, hS⟩ : ∃ S, (w).alloc (.cells #[(.slice Pa pa ca), (.slice Qa qa ea)] 47) = S := ⟨_, rfl⟩
  rw [hS] at e0 hb ⊢
  replace Ha := Lib.hid (Ha.out.below hb)
  have HB0 := Lib.hid hb
  have E0 := Lib.hid e0
  clear hS hb hsz e0
  go_wp2_with fail
  let FS : List Kept1 := [.f (n) (d), .n (n), .eq (.string sn), .eq (.string (sn ++ ⟨#[47]⟩)), .f (n) (d), .n (d), .eq (.string sd), .eq (.string (sn ++ ⟨#[47]⟩ ++ sd)), .eq (.string (sn ++ ⟨#[47]⟩ ++ sd))]
  refine region_mono (Held S (fun j => FS.getD j .any) []) (by kernel_rfl) (by kernel_rfl) (by kernel_rfl) (Held.start _ _ _ (by simp) (by simp)) ?_
  refine Steps.held ?_ ?_
  · intro L v w' hJ
    have kb := hJ.out.blk E0.out (by simp [oldsOf])
    have k0 := kb.cell 0
    have k1 := kb.cell 1
    clear kb
    go_wp2_with fail
    exact ⟨rfl, rfl, hJ.out.same (by rfl) (Ha.out.keep hJ.out.held.keep)⟩
  simp only [Act.put, List.setIfInBounds_toArray, List.set_cons_zero, List.set_cons_succ, Nat.reduceAdd]
  refine Steps.held ?_ ?_
  · intro L v w' hJ
    have X0 := Lib.hid (show F64 w' (v 0) (n) (d) from hJ.out.fact 0 (by kernel_rfl))
    go_wp2_with fail
    with_reducible refine (HNU.out _ _ _ _ X0.out).mono ?_
    rintro e w1 ⟨u, rfl, hu, hb⟩
    go_wp2_with fail
    exact ⟨rfl, rfl, hJ.out.call (by rfl) hb (hu)⟩
  simp only [Act.put, List.setIfInBounds_toArray, List.set_cons_zero, List.set_cons_succ, Nat.reduceAdd]
  refine Steps.held ?_ ?_
  · intro L v w' hJ
    have X0 := Lib.hid (show N64 w' (v 1) (n) from hJ.out.fact 1 (by kernel_rfl))
    go_wp2_with fail
    with_reducible refine (HT1.out _ _ X0.out).mono ?_
    rintro e w1 ⟨rfl, hb⟩
    go_wp2_with fail
    exact ⟨rfl, rfl, hJ.out.call (by rfl) hb (rfl)⟩
  simp only [Act.put, List.setIfInBounds_toArray, List.set_cons_zero, List.set_cons_succ, Nat.reduceAdd]
  refine Steps.held ?_ ?_
  · intro L v w' hJ
    have hv2 : v 2 = .string sn := hJ.out.fact 2 (by kernel_rfl)
    simp only [hv2]
    clear hv2
    go_wp2_with fail
    exact ⟨rfl, rfl, hJ.out.same (by rfl) (rfl)⟩
  simp only [Act.put, List.setIfInBounds_toArray, List.set_cons_zero, List.set_cons_succ, Nat.reduceAdd]
  refine Steps.held ?_ ?_
  · intro L v w' hJ
    have kb := hJ.out.blk E0.out (by simp [oldsOf])
    have k0 := kb.cell 0
    have k1 := kb.cell 1
    clear kb
    go_wp2_with fail
    exact ⟨rfl, rfl, hJ.out.same (by rfl) (Ha.out.keep hJ.out.held.keep)⟩
  simp only [Act.put, List.setIfInBounds_toArray, List.set_cons_zero, List.set_cons_succ, Nat.reduceAdd]
  refine Steps.held ?_ ?_
  · intro L v w' hJ
    have X0 := Lib.hid (show F64 w' (v 4) (n) (d) from hJ.out.fact 4 (by kernel_rfl))
    go_wp2_with fail
    with_reducible refine (HDE.out _ _ _ _ X0.out).mono ?_
    rintro e w1 ⟨u, rfl, hu, hb⟩
    go_wp2_with fail
    exact ⟨rfl, rfl, hJ.out.call (by rfl) hb (hu)⟩
  simp only [Act.put, List.setIfInBounds_toArray, List.set_cons_zero, List.set_cons_succ, Nat.reduceAdd]
  refine Steps.held ?_ ?_
  · intro L v w' hJ
    have X0 := Lib.hid (show N64 w' (v 5) (d) from hJ.out.fact 5 (by kernel_rfl))
    go_wp2_with fail
    with_reducible refine (HT2.out _ _ X0.out).mono ?_
    rintro e w1 ⟨rfl, hb⟩
    go_wp2_with fail
    exact ⟨rfl, rfl, hJ.out.call (by rfl) hb (rfl)⟩
  simp only [Act.put, List.setIfInBounds_toArray, List.set_cons_zero, List.set_cons_succ, Nat.reduceAdd]
  refine Steps.held ?_ ?_
  · intro L v w' hJ
    have hv3 : v 3 = .string (sn ++ ⟨#[47]⟩) := hJ.out.fact 3 (by kernel_rfl)
    simp only [hv3]
    clear hv3
    have hv6 : v 6 = .string sd := hJ.out.fact 6 (by kernel_rfl)
    simp only [hv6]
    clear hv6
    go_wp2_with fail
    exact ⟨rfl, rfl, hJ.out.same (by rfl) (rfl)⟩
  simp only [Act.put, List.setIfInBounds_toArray, List.set_cons_zero, List.set_cons_succ, Nat.reduceAdd]
  refine Steps.held ?_ ?_
  · intro L v w' hJ
    have hv7 : v 7 = .string (sn ++ ⟨#[47]⟩ ++ sd) := hJ.out.fact 7 (by kernel_rfl)
    simp only [hv7]
    clear hv7
    go_wp2_with fail
    exact ⟨rfl, rfl, hJ.out.same (by rfl) (rfl)⟩
  simp only [Act.put, List.setIfInBounds_toArray, List.set_cons_zero, List.set_cons_succ, Nat.reduceAdd]
  refine Steps.nil ?_
  intro v w' hJ
  have h8 : v 8 = .string (sn ++ ⟨#[47]⟩ ++ sd) := hJ.end_fact 8 (by decide)
  have HF := Lib.hid (cbt HB0.out hJ.but.below)
  clear hJ
  simp only [h8]
  clear h8
  go_wp2_with fail
  go_ret
  exact ⟨rfl, HF.out⟩
set_option maxRecDepth 100000 in
set_option maxHeartbeats 4000000 in
theorem to_any (v : Value) (l m : List Int) (w : World) (h : Frc w v l m) (hl : Bys l) (hm : Bys m) (h1 : l.length ≤ 10000) (h2 : m.length ≤ 10000) : Calls Try.prog 36 #[v] w (MkF w (rn (be l) (den1 (be m))) (rd (be l) (den1 (be m)))) := by
  obtain ⟨A, p, c, B, q, d, rfl, hA, hB, hla, hlb⟩ := h
  have HA := Lib.hid hA
  have HBB := Lib.hid hB
  have x64 := be_w64 hl
  have y64 := be_w64 hm
  have HRX := Lib.hid (fun v W h => nread_any v l W h hl (by omega))
  have HRY := Lib.hid (fun v W h => nread_any v m W h hm (by omega))
  obtain ⟨x, hx⟩ : ∃ x, be l = x := ⟨_, rfl⟩
  obtain ⟨y, hy⟩ : ∃ x, be m = x := ⟨_, rfl⟩
  rw [hx] at x64 HRX ⊢
  rw [hy] at y64 HRY ⊢
  have hdw := den1_wl (k := 64) (by decide) y64
  have HOF := Lib.hid (fun va vb W h1 h2 => rofF_any va vb x (den1 y) W h1 h2 (by omega) (by omega) (den1_pos y))
  clear hA hB hla hlb hx hy x64 hdw h1 h2 hl hm
  by_cases hy0 : y = 0
  · have hyy := Lib.hid hy0
    have HZ := Lib.hid (fun v W h => zero_eq v y W h hy0)
    have HON : Hid (∀ W, Calls Try.prog 50 #[.int .u64 1] W (fun e w' => ∃ v, e = .returned v ∧ N64 w' v 1 ∧ Below W.heap.size W w')) := Lib.hid (fun W => of_any 1 (by decide) W)
    have hdy : den1 y = 1 := by unfold den1; rw [if_pos hy0]
    rw [hdy] at HOF ⊢
    clear hy0 hdy y64
    have e0 := (Blk.new (w) 45 #[(.slice A p c), (.slice B q d)]).alloc (.cells #[(.slice none 0 0), (.slice none 0 0)] 47)
    have e1 := Blk.new ((w).alloc (.cells #[(.slice A p c), (.slice B q d)] 45)) 47 #[(.slice none 0 0), (.slice none 0 0)]
    have hb := cba (cba (Below.refl _ w) (.cells #[(.slice A p c), (.slice B q d)] 45)) (.cells #[(.slice none 0 0), (.slice none 0 0)] 47)
    simp only [World.size_alloc] at e1
    have hsz : w.heap.size ≤ w.heap.size := Nat.le_refl _
    go_enter Try.func36, Try.ntmps36
    go_upto_region 1 with (fail)
    obtain ⟨S, hS⟩ : ∃ S, ((w).alloc (.cells #[(.slice A p c), (.slice B q d)] 45)).alloc (.cells #[(.slice none 0 0), (.slice none 0 0)] 47) = S := ⟨_, rfl⟩
    rw [hS] at e0 e1 hb ⊢
    replace HA := Lib.hid (HA.out.below hb)
    replace HBB := Lib.hid (HBB.out.below hb)
    have HB0 := Lib.hid hb
    have E0 := Lib.hid e0
    have E1 := Lib.hid e1
    clear hS hb hsz e0 e1
    have k_E0_0 := E0.out.cell 0
    have k_E0_1 := E0.out.cell 1
    have k_E1_0 := E1.out.cell 0
    have k_E1_1 := E1.out.cell 1
    go_wp2_with fail
    with_reducible refine (HRY.out _ _ HBB.out).mono ?_
    rintro e w1 ⟨u, rfl, hu, hb⟩
    clear k_E0_0 k_E0_1 k_E1_0 k_E1_1
    replace HA := Lib.hid (HA.out.below hb)
    replace HBB := Lib.hid (HBB.out.below hb)
    replace E0 := Lib.hid (blk_below E0.out hb)
    replace E1 := Lib.hid (blk_below E1.out hb)
    replace HB0 := Lib.hid (cbt HB0.out hb)
    have NY := Lib.hid hu
    clear hb hu
    have k_E0_0 := E0.out.cell 0
    have k_E0_1 := E0.out.cell 1
    have k_E1_0 := E1.out.cell 0
    have k_E1_1 := E1.out.cell 1
    have hlt := E1.out.lt
    have Z0 := NY.out
    obtain ⟨PT0, cpT0, rfl, _, _, _⟩ := Z0
    have e3 := Blk.new w1 26 #[.slice PT0 (wl 64 (y)) cpT0]
    have hb := cba (Below.refl _ w1) (.cells #[.slice PT0 (wl 64 (y)) cpT0] 26)
    go_upto_region 2 with (fail)
    obtain ⟨T, hS⟩ : ∃ S, (w1.alloc (.cells #[.slice PT0 (wl 64 (y)) cpT0] 26)) = S := ⟨_, rfl⟩
    rw [hS] at e3 hb ⊢
    obtain ⟨g3, hg⟩ : ∃ g, w1.heap.size = g := ⟨_, rfl⟩
    rw [hg] at e3 hlt
    simp only [hg]
    replace HA := Lib.hid (HA.out.below hb)
    replace HBB := Lib.hid (HBB.out.below hb)
    replace NY := Lib.hid (NY.out.below hb)
    replace E0 := Lib.hid (blk_below E0.out hb)
    replace E1 := Lib.hid (blk_below E1.out hb)
    replace HB0 := Lib.hid (cbt HB0.out hb)
    have E3 := Lib.hid e3
    clear hS hg hb e3 k_E0_0 k_E0_1 k_E1_0 k_E1_1
    have k_E0_0 := E0.out.cell 0
    have k_E0_1 := E0.out.cell 1
    have k_E1_0 := E1.out.cell 0
    have k_E1_1 := E1.out.cell 1
    have k_E3_0 := E3.out.cell 0
    go_wp2_with fail
    with_reducible refine (HZ.out _ _ NY.out).mono ?_
    rintro e w2 ⟨rfl, hb⟩
    clear k_E0_0 k_E0_1 k_E1_0 k_E1_1 k_E3_0
    replace HA := Lib.hid (HA.out.below hb)
    replace HBB := Lib.hid (HBB.out.below hb)
    replace NY := Lib.hid (NY.out.below hb)
    replace E0 := Lib.hid (blk_below E0.out hb)
    replace E1 := Lib.hid (blk_below E1.out hb)
    replace E3 := Lib.hid (blk_below E3.out hb)
    replace HB0 := Lib.hid (cbt HB0.out hb)
    clear hb
    have k_E0_0 := E0.out.cell 0
    have k_E0_1 := E0.out.cell 1
    have k_E1_0 := E1.out.cell 0
    have k_E1_1 := E1.out.cell 1
    have k_E3_0 := E3.out.cell 0
    go_wp2_with fail
    with_reducible refine (HON.out _).mono ?_
    rintro e w3 ⟨u, rfl, hu, hb⟩
    clear k_E0_0 k_E0_1 k_E1_0 k_E1_1 k_E3_0
    replace HA := Lib.hid (HA.out.below hb)
    replace HBB := Lib.hid (HBB.out.below hb)
    replace NY := Lib.hid (NY.out.below hb)
    replace E0 := Lib.hid (blk_below E0.out hb)
    replace E1 := Lib.hid (blk_below E1.out hb)
    replace E3 := Lib.hid (blk_below E3.out hb)
    replace HB0 := Lib.hid (cbt HB0.out hb)
    have N1 := Lib.hid hu
    clear hb hu
    have k_E0_0 := E0.out.cell 0
    have k_E0_1 := E0.out.cell 1
    have k_E1_0 := E1.out.cell 0
    have k_E1_1 := E1.out.cell 1
    have k_E3_0 := E3.out.cell 0
    have Z1 := N1.out
    obtain ⟨P1, c1, rfl, _, _, _⟩ := Z1
    clear k_E0_0 k_E0_1 k_E1_0 k_E1_1 k_E3_0
    have k0 := E3.out.cell 0
    have f0 := E3.out.frozen 0
    go_upto_region 4 with (fail)
    have hk := Keep.set E3.out 0 rfl (.slice P1 (wl 64 1) c1)
    replace HA := Lib.hid (HA.out.keep hk)
    replace HBB := Lib.hid (HBB.out.keep hk)
    replace N1 := Lib.hid (N1.out.keep hk)
    replace E0 := Lib.hid (E0.out.far (p := ⟨g3, 0, none⟩) (by simp only []; omega) (.slice P1 (wl 64 1) c1))
    replace E1 := Lib.hid (E1.out.far (p := ⟨g3, 0, none⟩) (by simp only []; omega) (.slice P1 (wl 64 1) c1))
    replace E3 := Lib.hid (E3.out.set_ 0 (.slice P1 (wl 64 1) c1))
    replace HB0 := Lib.hid (HB0.out.setCell (p := ⟨g3, 0, none⟩) (by simp only []; omega) (.slice P1 (wl 64 1) c1))
    obtain ⟨X, hX⟩ : ∃ X, w3.setCell ⟨g3, 0, none⟩ (.slice P1 (wl 64 1) c1) = X := ⟨_, rfl⟩
    rw [hX] at HA HBB N1 E0 E1 E3 HB0 ⊢
    clear hX hk k0 f0
    let FS : List Kept1 := [.eq (.pointer (some ⟨w.heap.size, 0, none⟩)), .by_ (l), .n (x), .n (1), .two (.f (rn x (1)) (rd x (1))) (.eq (.int .i64 0)), .two (.f (rn x (1)) (rd x (1))) (.eq (.int .i64 0)), .f (rn x (1)) (rd x (1)), .eq (.int .i64 0), .any, .any, .eq (.int .i64 0)]
    let BS : List Bx := [Bx.rat (.inl 8) 9 #[.slice none 0 0, .slice none 0 0] (rn x (1)) (rd x (1))]
    refine region_mono (Held X (fun j => FS.getD j .any) BS) (by kernel_rfl) (by kernel_rfl) (by kernel_rfl) (Held.start _ _ _ (by simp [BS, Bx.nat, Bx.rat, Bx.ref]) (by simp [BS, Bx.nat, Bx.rat, Bx.ref])) ?_
    refine Steps.held ?_ ?_
    · intro L v w' hJ
      go_wp2_with fail
      exact ⟨rfl, rfl, hJ.out.same (by rfl) (rfl)⟩
    simp only [Act.put, List.setIfInBounds_toArray, List.set_cons_zero, List.set_cons_succ, Nat.reduceAdd]
    refine Steps.held ?_ ?_
    · intro L v w' hJ
      have hv0 : v 0 = .pointer (some ⟨w.heap.size, 0, none⟩) := hJ.out.fact 0 (by kernel_rfl)
      simp only [hv0]
      clear hv0
      have kb := hJ.out.blk E0.out (by simp [oldsOf, BS, Bx.nat, Bx.rat, Bx.ref])
      have k0 := kb.cell 0
      have k1 := kb.cell 1
      clear kb
      go_wp2_with fail
      exact ⟨rfl, rfl, hJ.out.same (by rfl) (HA.out.keep hJ.out.held.keep)⟩
    simp only [Act.put, List.setIfInBounds_toArray, List.set_cons_zero, List.set_cons_succ, Nat.reduceAdd]
    refine Steps.held ?_ ?_
    · intro L v w' hJ
      have X0 := Lib.hid (show ByS w' (v 1) (l) from hJ.out.fact 1 (by kernel_rfl))
      go_wp2_with fail
      with_reducible refine (HRX.out _ _ X0.out).mono ?_
      rintro e w1 ⟨u, rfl, hu, hb⟩
      go_wp2_with fail
      exact ⟨rfl, rfl, hJ.out.call (by rfl) hb (hu)⟩
    simp only [Act.put, List.setIfInBounds_toArray, List.set_cons_zero, List.set_cons_succ, Nat.reduceAdd]
    refine Steps.held ?_ ?_
    · intro L v w' hJ
      have kb := hJ.out.blk E3.out (by simp [oldsOf, BS, Bx.nat, Bx.rat, Bx.ref])
      have k0 := kb.cell 0
      clear kb
      go_wp2_with fail
      exact ⟨rfl, rfl, hJ.out.same (by rfl) (N1.out.keep hJ.out.held.keep)⟩
    simp only [Act.put, List.setIfInBounds_toArray, List.set_cons_zero, List.set_cons_succ, Nat.reduceAdd]
    refine Steps.held ?_ ?_
    · intro L v w' hJ
      have X0 := Lib.hid (show N64 w' (v 2) (x) from hJ.out.fact 2 (by kernel_rfl))
      have X1 := Lib.hid (show N64 w' (v 3) (1) from hJ.out.fact 3 (by kernel_rfl))
      go_wp2_with fail
      with_reducible refine (HOF.out _ _ _ X0.out X1.out).mono ?_
      rintro e w1 ⟨u, rfl, hu, hb⟩
      go_wp2_with fail
      exact ⟨rfl, rfl, hJ.out.call (by rfl) hb (⟨_, _, rfl, hu, rfl⟩)⟩
    simp only [Act.put, List.setIfInBounds_toArray, List.set_cons_zero, List.set_cons_succ, Nat.reduceAdd]
    refine Steps.held ?_ ?_
    · intro L v w' hJ
      go_wp2_with fail
      exact ⟨rfl, rfl, hJ.out.same (by rfl) (hJ.out.fact 4 (by kernel_rfl))⟩
    simp only [Act.put, List.setIfInBounds_toArray, List.set_cons_zero, List.set_cons_succ, Nat.reduceAdd]
    refine Steps.held ?_ ?_
    · intro L v w' hJ
      obtain ⟨x0, x1, hv, h0, h1⟩ := hJ.out.fact 5 (by kernel_rfl)
      simp only [hv]
      clear hv
      go_wp2_with fail
      exact ⟨rfl, rfl, hJ.out.same (by rfl) (h0)⟩
    simp only [Act.put, List.setIfInBounds_toArray, List.set_cons_zero, List.set_cons_succ, Nat.reduceAdd]
    refine Steps.held ?_ ?_
    · intro L v w' hJ
      obtain ⟨x0, x1, hv, h0, h1⟩ := hJ.out.fact 5 (by kernel_rfl)
      simp only [hv]
      clear hv
      go_wp2_with fail
      exact ⟨rfl, rfl, hJ.out.same (by rfl) (h1)⟩
    simp only [Act.put, List.setIfInBounds_toArray, List.set_cons_zero, List.set_cons_succ, Nat.reduceAdd]
    refine Steps.held ?_ ?_
    · intro L v w' hJ
      go_wp2_with fail
      exact ⟨rfl, rfl, hJ.out.made 0 _ rfl rfl (by rfl) trivial⟩
    simp only [Act.put, List.setIfInBounds_toArray, List.set_cons_zero, List.set_cons_succ, Nat.reduceAdd]
    refine Steps.held ?_ ?_
    · intro L v w' hJ
      obtain ⟨g, hg, hge, hown, hst⟩ := hJ.out.newbox 0 _ rfl 8 rfl (by kernel_rfl)
      have hN : F64 w' (v 6) (rn x (1)) (rd x (1)) := hJ.out.fact 6 (by kernel_rfl)
      obtain ⟨A1, p1, c1, B1, q1, e1, x1, hv, h1, h2, h3⟩ := hN
      have HN := Lib.hid (show F64 w' (.agg #[.slice A1 p1 c1, .slice B1 q1 e1]) (rn x (1)) (rd x (1)) from ⟨A1, p1, c1, B1, q1, e1, x1, rfl, h1, h2, h3⟩)
      have kb := hJ.out.box 0 _ rfl rfl g hown
      have k0 : w'.cell? ⟨g, 0, none⟩ = some (.slice none 0 0) := kb.cell 0
      have k1 : w'.cell? ⟨g, 1, none⟩ = some (.slice none 0 0) := kb.cell 1
      have f0 := kb.frozen 0
      have f1 := kb.frozen 1
      have HO := Lib.hid hown
      have HS := Lib.hid hst
      clear kb h1 h2 h3 hown hst
      simp only [hg, hv]
      clear hg hv
      go_wp2_with fail
      exact ⟨rfl, rfl, hJ.out.fill2 0 _ rfl rfl (by rfl) g HO.out HS.out _ _ rfl rfl rfl (fun W k => HN.out.keep k) (fun _ => trivial)⟩
    simp only [Act.put, List.setIfInBounds_toArray, List.set_cons_zero, List.set_cons_succ, Nat.reduceAdd]
    refine Steps.held ?_ ?_
    · intro L v w' hJ
      have hv7 : v 7 = .int .i64 0 := hJ.out.fact 7 (by kernel_rfl)
      simp only [hv7]
      clear hv7
      go_wp2_with fail
      exact ⟨rfl, rfl, hJ.out.same (by rfl) (rfl)⟩
    simp only [Act.put, List.setIfInBounds_toArray, List.set_cons_zero, List.set_cons_succ, Nat.reduceAdd]
    refine Steps.nil ?_
    intro v w' hJ
    obtain ⟨g4, cs4, hv8, hge8, hb8, hf8⟩ := hJ.end_new 0 _ rfl 8 rfl (by decide) (Nat.le_of_ble_eq_true rfl)
    have hf' : F64 w' (.agg cs4) (rn x (1)) (rd x (1)) := hf8
    obtain ⟨A1, p1, c1', B1, q1, e1, x1, hcs, h1, h2, h3⟩ := hf'
    have hcs' := Value.agg.inj hcs
    subst hcs'
    have NF := Lib.hid (show F64 w' (.agg #[.slice A1 p1 c1', .slice B1 q1 e1]) (rn x (1)) (rd x (1)) from hf8)
    simp only [hv8]
    have hbr := hJ.but.below
    replace E1 := Lib.hid (blk_below E1.out hbr)
    replace HB0 := Lib.hid (cbt HB0.out hbr)
    have k40 := hb8.cell 0
    have k41 := hb8.cell 1
    have k10 := E1.out.cell 0
    have k11 := E1.out.cell 1
    have f0 := E1.out.frozen 0
    have f1 := E1.out.frozen 1
    have HX := Lib.hid (show MkF w (rn x (1)) (rd x (1)) (.returned (.agg #[.slice A1 p1 c1', .slice B1 q1 e1])) ((w'.setCell ⟨w.heap.size + 1, 0, none⟩ (.slice A1 p1 c1')).setCell ⟨w.heap.size + 1, 1, none⟩ (.slice B1 q1 e1)) from
      ⟨_, rfl, (NF.out.keep (Keep.set E1.out 0 rfl _)).keep (Keep.set (E1.out.set_ 0 _) 1 rfl _), (HB0.out.setCell (p := ⟨w.heap.size + 1, 0, none⟩) (by simp only []; omega) _).setCell (p := ⟨w.heap.size + 1, 1, none⟩) (by simp only []; omega) _⟩)
    clear hJ hbr hf8 hb8 h1 h2 hcs hv8
    go_wp2
    exact bodyPost_ret (v := .agg #[.slice A1 p1 c1', .slice B1 q1 e1]) (by simp [results, Try.results36, go_sem, k10, k11]) rfl HX.out
  · have hyy := Lib.hid hy0
    have HZ := Lib.hid (fun v W h => zero_no v y W h (Nat.pos_of_ne_zero hy0))
    have hdy : den1 y = y := by unfold den1; rw [if_neg hy0]
    rw [hdy] at HOF ⊢
    clear hy0 hdy y64
    have e0 := (Blk.new (w) 45 #[(.slice A p c), (.slice B q d)]).alloc (.cells #[(.slice none 0 0), (.slice none 0 0)] 47)
    have e1 := Blk.new ((w).alloc (.cells #[(.slice A p c), (.slice B q d)] 45)) 47 #[(.slice none 0 0), (.slice none 0 0)]
    have hb := cba (cba (Below.refl _ w) (.cells #[(.slice A p c), (.slice B q d)] 45)) (.cells #[(.slice none 0 0), (.slice none 0 0)] 47)
    simp only [World.size_alloc] at e1
    have hsz : w.heap.size ≤ w.heap.size := Nat.le_refl _
    go_enter Try.func36, Try.ntmps36
    go_upto_region 1 with (fail)
    obtain ⟨S, hS⟩ : ∃ S, ((w).alloc (.cells #[(.slice A p c), (.slice B q d)] 45)).alloc (.cells #[(.slice none 0 0), (.slice none 0 0)] 47) = S := ⟨_, rfl⟩
    rw [hS] at e0 e1 hb ⊢
    replace HA := Lib.hid (HA.out.below hb)
    replace HBB := Lib.hid (HBB.out.below hb)
    have HB0 := Lib.hid hb
    have E0 := Lib.hid e0
    have E1 := Lib.hid e1
    clear hS hb hsz e0 e1
    have k_E0_0 := E0.out.cell 0
    have k_E0_1 := E0.out.cell 1
    have k_E1_0 := E1.out.cell 0
    have k_E1_1 := E1.out.cell 1
    go_wp2_with fail
    with_reducible refine (HRY.out _ _ HBB.out).mono ?_
    rintro e w1 ⟨u, rfl, hu, hb⟩
    clear k_E0_0 k_E0_1 k_E1_0 k_E1_1
    replace HA := Lib.hid (HA.out.below hb)
    replace HBB := Lib.hid (HBB.out.below hb)
    replace E0 := Lib.hid (blk_below E0.out hb)
    replace E1 := Lib.hid (blk_below E1.out hb)
    replace HB0 := Lib.hid (cbt HB0.out hb)
    have NY := Lib.hid hu
    clear hb hu
    have k_E0_0 := E0.out.cell 0
    have k_E0_1 := E0.out.cell 1
    have k_E1_0 := E1.out.cell 0
    have k_E1_1 := E1.out.cell 1
    have hlt := E1.out.lt
    have Z0 := NY.out
    obtain ⟨PT0, cpT0, rfl, _, _, _⟩ := Z0
    have e3 := Blk.new w1 26 #[.slice PT0 (wl 64 (y)) cpT0]
    have hb := cba (Below.refl _ w1) (.cells #[.slice PT0 (wl 64 (y)) cpT0] 26)
    go_upto_region 2 with (fail)
    obtain ⟨T, hS⟩ : ∃ S, (w1.alloc (.cells #[.slice PT0 (wl 64 (y)) cpT0] 26)) = S := ⟨_, rfl⟩
    rw [hS] at e3 hb ⊢
    obtain ⟨g3, hg⟩ : ∃ g, w1.heap.size = g := ⟨_, rfl⟩
    rw [hg] at e3 hlt
    simp only [hg]
    replace HA := Lib.hid (HA.out.below hb)
    replace HBB := Lib.hid (HBB.out.below hb)
    replace NY := Lib.hid (NY.out.below hb)
    replace E0 := Lib.hid (blk_below E0.out hb)
    replace E1 := Lib.hid (blk_below E1.out hb)
    replace HB0 := Lib.hid (cbt HB0.out hb)
    have E3 := Lib.hid e3
    clear hS hg hb e3 k_E0_0 k_E0_1 k_E1_0 k_E1_1
    have k_E0_0 := E0.out.cell 0
    have k_E0_1 := E0.out.cell 1
    have k_E1_0 := E1.out.cell 0
    have k_E1_1 := E1.out.cell 1
    have k_E3_0 := E3.out.cell 0
    go_wp2_with fail
    with_reducible refine (HZ.out _ _ NY.out).mono ?_
    rintro e w2 ⟨rfl, hb⟩
    clear k_E0_0 k_E0_1 k_E1_0 k_E1_1 k_E3_0
    replace HA := Lib.hid (HA.out.below hb)
    replace HBB := Lib.hid (HBB.out.below hb)
    replace NY := Lib.hid (NY.out.below hb)
    replace E0 := Lib.hid (blk_below E0.out hb)
    replace E1 := Lib.hid (blk_below E1.out hb)
    replace E3 := Lib.hid (blk_below E3.out hb)
    replace HB0 := Lib.hid (cbt HB0.out hb)
    clear hb
    have k_E0_0 := E0.out.cell 0
    have k_E0_1 := E0.out.cell 1
    have k_E1_0 := E1.out.cell 0
    have k_E1_1 := E1.out.cell 1
    have k_E3_0 := E3.out.cell 0
    go_wp2_with fail
    clear k_E0_0 k_E0_1 k_E1_0 k_E1_1 k_E3_0
    let FS : List Kept1 := [.eq (.pointer (some ⟨w.heap.size, 0, none⟩)), .by_ (l), .n (x), .n (y), .two (.f (rn x (y)) (rd x (y))) (.eq (.int .i64 0)), .two (.f (rn x (y)) (rd x (y))) (.eq (.int .i64 0)), .f (rn x (y)) (rd x (y)), .eq (.int .i64 0), .any, .any, .eq (.int .i64 0)]
    let BS : List Bx := [Bx.rat (.inl 8) 9 #[.slice none 0 0, .slice none 0 0] (rn x (y)) (rd x (y))]
    refine region_mono (Held w2 (fun j => FS.getD j .any) BS) (by kernel_rfl) (by kernel_rfl) (by kernel_rfl) (Held.start _ _ _ (by simp [BS, Bx.nat, Bx.rat, Bx.ref]) (by simp [BS, Bx.nat, Bx.rat, Bx.ref])) ?_
    refine Steps.held ?_ ?_
    · intro L v w' hJ
      go_wp2_with fail
      exact ⟨rfl, rfl, hJ.out.same (by rfl) (rfl)⟩
    simp only [Act.put, List.setIfInBounds_toArray, List.set_cons_zero, List.set_cons_succ, Nat.reduceAdd]
    refine Steps.held ?_ ?_
    · intro L v w' hJ
      have hv0 : v 0 = .pointer (some ⟨w.heap.size, 0, none⟩) := hJ.out.fact 0 (by kernel_rfl)
      simp only [hv0]
      clear hv0
      have kb := hJ.out.blk E0.out (by simp [oldsOf, BS, Bx.nat, Bx.rat, Bx.ref])
      have k0 := kb.cell 0
      have k1 := kb.cell 1
      clear kb
      go_wp2_with fail
      exact ⟨rfl, rfl, hJ.out.same (by rfl) (HA.out.keep hJ.out.held.keep)⟩
    simp only [Act.put, List.setIfInBounds_toArray, List.set_cons_zero, List.set_cons_succ, Nat.reduceAdd]
    refine Steps.held ?_ ?_
    · intro L v w' hJ
      have X0 := Lib.hid (show ByS w' (v 1) (l) from hJ.out.fact 1 (by kernel_rfl))
      go_wp2_with fail
      with_reducible refine (HRX.out _ _ X0.out).mono ?_
      rintro e w1 ⟨u, rfl, hu, hb⟩
      go_wp2_with fail
      exact ⟨rfl, rfl, hJ.out.call (by rfl) hb (hu)⟩
    simp only [Act.put, List.setIfInBounds_toArray, List.set_cons_zero, List.set_cons_succ, Nat.reduceAdd]
    refine Steps.held ?_ ?_
    · intro L v w' hJ
      have kb := hJ.out.blk E3.out (by simp [oldsOf, BS, Bx.nat, Bx.rat, Bx.ref])
      have k0 := kb.cell 0
      clear kb
      go_wp2_with fail
      exact ⟨rfl, rfl, hJ.out.same (by rfl) (NY.out.keep hJ.out.held.keep)⟩
    simp only [Act.put, List.setIfInBounds_toArray, List.set_cons_zero, List.set_cons_succ, Nat.reduceAdd]
    refine Steps.held ?_ ?_
    · intro L v w' hJ
      have X0 := Lib.hid (show N64 w' (v 2) (x) from hJ.out.fact 2 (by kernel_rfl))
      have X1 := Lib.hid (show N64 w' (v 3) (y) from hJ.out.fact 3 (by kernel_rfl))
      go_wp2_with fail
      with_reducible refine (HOF.out _ _ _ X0.out X1.out).mono ?_
      rintro e w1 ⟨u, rfl, hu, hb⟩
      go_wp2_with fail
      exact ⟨rfl, rfl, hJ.out.call (by rfl) hb (⟨_, _, rfl, hu, rfl⟩)⟩
    simp only [Act.put, List.setIfInBounds_toArray, List.set_cons_zero, List.set_cons_succ, Nat.reduceAdd]
    refine Steps.held ?_ ?_
    · intro L v w' hJ
      go_wp2_with fail
      exact ⟨rfl, rfl, hJ.out.same (by rfl) (hJ.out.fact 4 (by kernel_rfl))⟩
    simp only [Act.put, List.setIfInBounds_toArray, List.set_cons_zero, List.set_cons_succ, Nat.reduceAdd]
    refine Steps.held ?_ ?_
    · intro L v w' hJ
      obtain ⟨x0, x1, hv, h0, h1⟩ := hJ.out.fact 5 (by kernel_rfl)
      simp only [hv]
      clear hv
      go_wp2_with fail
      exact ⟨rfl, rfl, hJ.out.same (by rfl) (h0)⟩
    simp only [Act.put, List.setIfInBounds_toArray, List.set_cons_zero, List.set_cons_succ, Nat.reduceAdd]
    refine Steps.held ?_ ?_
    · intro L v w' hJ
      obtain ⟨x0, x1, hv, h0, h1⟩ := hJ.out.fact 5 (by kernel_rfl)
      simp only [hv]
      clear hv
      go_wp2_with fail
      exact ⟨rfl, rfl, hJ.out.same (by rfl) (h1)⟩
    simp only [Act.put, List.setIfInBounds_toArray, List.set_cons_zero, List.set_cons_succ, Nat.reduceAdd]
    refine Steps.held ?_ ?_
    · intro L v w' hJ
      go_wp2_with fail
      exact ⟨rfl, rfl, hJ.out.made 0 _ rfl rfl (by rfl) trivial⟩
    simp only [Act.put, List.setIfInBounds_toArray, List.set_cons_zero, List.set_cons_succ, Nat.reduceAdd]
    refine Steps.held ?_ ?_
    · intro L v w' hJ
      obtain ⟨g, hg, hge, hown, hst⟩ := hJ.out.newbox 0 _ rfl 8 rfl (by kernel_rfl)
      have hN : F64 w' (v 6) (rn x (y)) (rd x (y)) := hJ.out.fact 6 (by kernel_rfl)
      obtain ⟨A1, p1, c1, B1, q1, e1, x1, hv, h1, h2, h3⟩ := hN
      have HN := Lib.hid (show F64 w' (.agg #[.slice A1 p1 c1, .slice B1 q1 e1]) (rn x (y)) (rd x (y)) from ⟨A1, p1, c1, B1, q1, e1, x1, rfl, h1, h2, h3⟩)
      have kb := hJ.out.box 0 _ rfl rfl g hown
      have k0 : w'.cell? ⟨g, 0, none⟩ = some (.slice none 0 0) := kb.cell 0
      have k1 : w'.cell? ⟨g, 1, none⟩ = some (.slice none 0 0) := kb.cell 1
      have f0 := kb.frozen 0
      have f1 := kb.frozen 1
      have HO := Lib.hid hown
      have HS := Lib.hid hst
      clear kb h1 h2 h3 hown hst
      simp only [hg, hv]
      clear hg hv
      go_wp2_with fail
      exact ⟨rfl, rfl, hJ.out.fill2 0 _ rfl rfl (by rfl) g HO.out HS.out _ _ rfl rfl rfl (fun W k => HN.out.keep k) (fun _ => trivial)⟩
    simp only [Act.put, List.setIfInBounds_toArray, List.set_cons_zero, List.set_cons_succ, Nat.reduceAdd]
    refine Steps.held ?_ ?_
    · intro L v w' hJ
      have hv7 : v 7 = .int .i64 0 := hJ.out.fact 7 (by kernel_rfl)
      simp only [hv7]
      clear hv7
      go_wp2_with fail
      exact ⟨rfl, rfl, hJ.out.same (by rfl) (rfl)⟩
    simp only [Act.put, List.setIfInBounds_toArray, List.set_cons_zero, List.set_cons_succ, Nat.reduceAdd]
    refine Steps.nil ?_
    intro v w' hJ
    obtain ⟨g4, cs4, hv8, hge8, hb8, hf8⟩ := hJ.end_new 0 _ rfl 8 rfl (by decide) (Nat.le_of_ble_eq_true rfl)
    have hf' : F64 w' (.agg cs4) (rn x (y)) (rd x (y)) := hf8
    obtain ⟨A1, p1, c1', B1, q1, e1, x1, hcs, h1, h2, h3⟩ := hf'
    have hcs' := Value.agg.inj hcs
    subst hcs'
    have NF := Lib.hid (show F64 w' (.agg #[.slice A1 p1 c1', .slice B1 q1 e1]) (rn x (y)) (rd x (y)) from hf8)
    simp only [hv8]
    have hbr := hJ.but.below
    replace E1 := Lib.hid (blk_below E1.out hbr)
    replace HB0 := Lib.hid (cbt HB0.out hbr)
    have k40 := hb8.cell 0
    have k41 := hb8.cell 1
    have k10 := E1.out.cell 0
    have k11 := E1.out.cell 1
    have f0 := E1.out.frozen 0
    have f1 := E1.out.frozen 1
    have HX := Lib.hid (show MkF w (rn x (y)) (rd x (y)) (.returned (.agg #[.slice A1 p1 c1', .slice B1 q1 e1])) ((w'.setCell ⟨w.heap.size + 1, 0, none⟩ (.slice A1 p1 c1')).setCell ⟨w.heap.size + 1, 1, none⟩ (.slice B1 q1 e1)) from
      ⟨_, rfl, (NF.out.keep (Keep.set E1.out 0 rfl _)).keep (Keep.set (E1.out.set_ 0 _) 1 rfl _), (HB0.out.setCell (p := ⟨w.heap.size + 1, 0, none⟩) (by simp only []; omega) _).setCell (p := ⟨w.heap.size + 1, 1, none⟩) (by simp only []; omega) _⟩)
    clear hJ hbr hf8 hb8 h1 h2 hcs hv8
    go_wp2
    exact bodyPost_ret (v := .agg #[.slice A1 p1 c1', .slice B1 q1 e1]) (by simp [results, Try.results36, go_sem, k10, k11]) rfl HX.out
set_option maxRecDepth 100000 in
set_option maxHeartbeats 4000000 in
theorem small_any (v : Value) (l m : List Int) (k : Nat) (w : World) (h : Frc w v l m) : Calls Try.prog 64 #[v, .int .i64 (k : Nat)] w fun x w' => x = .returned (.bool (decide (l.length ≤ k) && decide (m.length ≤ k))) ∧ Below w.heap.size w w' := by
  obtain ⟨A, p, c, B, q, d, rfl, hA, hB, hla, hlb⟩ := h
  rw [hla, hlb]
  clear hla hlb hA hB
  by_cases h1 : p ≤ k
  · by_cases h2 : q ≤ k
    · have ea : decide (p ≤ k) = true := decide_eq_true (by omega)
      have eb : decide (q ≤ k) = true := decide_eq_true (by omega)
      rw [ea, eb]
      clear h1 h2
      have e0 := Blk.new (w) 45 #[(.slice A p c), (.slice B q d)]
      have hb := cba (Below.refl _ w) (.cells #[(.slice A p c), (.slice B q d)] 45)
      have hsz : w.heap.size ≤ w.heap.size := Nat.le_refl _
      go_enter Try.func64, Try.ntmps64
      go_upto_region 1 with (fail)
      obtain ⟨S, hS⟩ : ∃ S, (w).alloc (.cells #[(.slice A p c), (.slice B q d)] 45) = S := ⟨_, rfl⟩
      rw [hS] at e0 hb ⊢
      have HB0 := Lib.hid hb
      have E0 := Lib.hid e0
      clear hS hb hsz e0
      have k0 := E0.out.cell 0
      have k1 := E0.out.cell 1
      go_wp2_with fail
      go_ret
      exact ⟨rfl, HB0.out⟩
    · have ea : decide (p ≤ k) = true := decide_eq_true (by omega)
      have eb : decide (q ≤ k) = false := decide_eq_false (by omega)
      rw [ea, eb]
      clear h1 h2
      have e0 := Blk.new (w) 45 #[(.slice A p c), (.slice B q d)]
      have hb := cba (Below.refl _ w) (.cells #[(.slice A p c), (.slice B q d)] 45)
      have hsz : w.heap.size ≤ w.heap.size := Nat.le_refl _
      go_enter Try.func64, Try.ntmps64
      go_upto_region 1 with (fail)
      obtain ⟨S, hS⟩ : ∃ S, (w).alloc (.cells #[(.slice A p c), (.slice B q d)] 45) = S := ⟨_, rfl⟩
      rw [hS] at e0 hb ⊢
      have HB0 := Lib.hid hb
      have E0 := Lib.hid e0
      clear hS hb hsz e0
      have k0 := E0.out.cell 0
      have k1 := E0.out.cell 1
      go_wp2_with fail
      go_ret
      exact ⟨rfl, HB0.out⟩
  · have ea : decide (p ≤ k) = false := decide_eq_false (by omega)
    rw [ea]
    clear h1
    have e0 := Blk.new (w) 45 #[(.slice A p c), (.slice B q d)]
    have hb := cba (Below.refl _ w) (.cells #[(.slice A p c), (.slice B q d)] 45)
    have hsz : w.heap.size ≤ w.heap.size := Nat.le_refl _
    go_enter Try.func64, Try.ntmps64
    go_upto_region 1 with (fail)
    obtain ⟨S, hS⟩ : ∃ S, (w).alloc (.cells #[(.slice A p c), (.slice B q d)] 45) = S := ⟨_, rfl⟩
    rw [hS] at e0 hb ⊢
    have HB0 := Lib.hid hb
    have E0 := Lib.hid e0
    clear hS hb hsz e0
    have k0 := E0.out.cell 0
    have k1 := E0.out.cell 1
    go_wp2_with fail
    go_ret
    exact ⟨rfl, HB0.out⟩
end Go.Proofs.Yteikhnmmkanndaa
namespace Go.Proofs.Yteikhnmmkanndaa
open Go.RowKit Go.Proofs.YteikhnmmkanndaaW.PrintWords
set_option linter.unusedSimpArgs false
set_option linter.unusedVariables false
theorem dig_5 : nat_digits_f 100 5 [53] := ⟨by kernel_rfl, by decide, by decide⟩
theorem dig_6 : nat_digits_f 100 6 [54] := ⟨by kernel_rfl, by decide, by decide⟩
theorem dig_3 : nat_digits_f 100 3 [51] := ⟨by kernel_rfl, by decide, by decide⟩
theorem dig_2 : nat_digits_f 100 2 [50] := ⟨by kernel_rfl, by decide, by decide⟩
theorem dig_1 : nat_digits_f 100 1 [49] := ⟨by kernel_rfl, by decide, by decide⟩
theorem dig_0 : nat_digits_f 100 0 [48] := ⟨by kernel_rfl, by decide, by decide⟩
theorem rtext_lit (v : Value) (n d : Nat) (ln ld : List Int) (s : ByteArray) (w : World) (ha : F64 w v n d) (hn : n < 10 ^ 19) (hd : d < 10 ^ 19) (hln : nat_digits_f 100 n ln) (hld : nat_digits_f 100 d ld) (z1 : (strOfNums ln).size ≤ 100000) (z2 : (strOfNums ld).size ≤ 100000) (hs : strOfNums ln ++ ⟨#[47]⟩ ++ strOfNums ld = s) :
    Calls Try.prog 72 #[v] w fun x w' => x = .returned (.string s) ∧ Below w.heap.size w w' := by
  have := rtext_of v n d _ _ w ha (fun u W h => ntext_one u n ln W h hn hln) (fun u W h => ntext_one u d ld W h hd hld) z1 z2
  rwa [hs] at this
theorem of_lit (x : Nat) (hx : x < 2 ^ 64) (k : Int) (hk : k = (x : Int)) (W : World) : Calls Try.prog 50 #[.int .u64 k] W (fun e w' => ∃ v, e = .returned v ∧ N64 w' v x ∧ Below W.heap.size W w') := by
  subst hk
  exact of_any x hx W
theorem rof_lit (va vb : Value) (n d a b : Nat) (W : World) (ha : N64 W va n) (hb : N64 W vb d) (hn : wl 64 n ≤ 100000000) (hd : wl 64 d ≤ 100000000) (h0 : 0 < d) (e1 : rn n d = a) (e2 : rd n d = b) : Calls Try.prog 61 #[va, vb] W fun x w' => ∃ v, x = .returned (.tuple #[v, .int .i64 0]) ∧ F64 w' v a b ∧ Below W.heap.size W w' := by
  subst e1 e2
  exact rofF_any va vb n d W ha hb hn hd h0
theorem w64_lit {x : Nat} (h : x < 2 ^ 64) : wl 64 x ≤ 1 := (wl_le (by decide) x 1).2 h
set_option maxRecDepth 100000 in
set_option maxHeartbeats 4000000 in
theorem live26_any (w : World) : Calls Try.prog 65 #[] w fun e w' => e = .returned (.bool true) ∧ Below w.heap.size w w' := by
  have O1 : Hid (∀ W, Calls Try.prog 50 #[.int .u64 1] W (fun e w' => ∃ v, e = .returned v ∧ N64 w' v 1 ∧ Below W.heap.size W w')) := Lib.hid (fun W => of_lit 1 (by decide) 1 rfl W)
  have O2 : Hid (∀ W, Calls Try.prog 50 #[.int .u64 2] W (fun e w' => ∃ v, e = .returned v ∧ N64 w' v 2 ∧ Below W.heap.size W w')) := Lib.hid (fun W => of_lit 2 (by decide) 2 rfl W)
  have O3 : Hid (∀ W, Calls Try.prog 50 #[.int .u64 3] W (fun e w' => ∃ v, e = .returned v ∧ N64 w' v 3 ∧ Below W.heap.size W w')) := Lib.hid (fun W => of_lit 3 (by decide) 3 rfl W)
  have O6 : Hid (∀ W, Calls Try.prog 50 #[.int .u64 6] W (fun e w' => ∃ v, e = .returned v ∧ N64 w' v 6 ∧ Below W.heap.size W w')) := Lib.hid (fun W => of_lit 6 (by decide) 6 rfl W)
  have O4 : Hid (∀ W, Calls Try.prog 50 #[.int .u64 4] W (fun e w' => ∃ v, e = .returned v ∧ N64 w' v 4 ∧ Below W.heap.size W w')) := Lib.hid (fun W => of_lit 4 (by decide) 4 rfl W)
  have R12 : Hid (∀ va vb W, N64 W va 1 → N64 W vb 2 → Calls Try.prog 61 #[va, vb] W fun x w' => ∃ v, x = .returned (.tuple #[v, .int .i64 0]) ∧ F64 w' v 1 2 ∧ Below W.heap.size W w') := Lib.hid (fun va vb W h1 h2 => rof_lit va vb 1 2 1 2 W h1 h2 (Nat.le_trans (w64_lit (by decide)) (by decide)) (Nat.le_trans (w64_lit (by decide)) (by decide)) (by decide) (by decide) (by decide))
  have R13 : Hid (∀ va vb W, N64 W va 1 → N64 W vb 3 → Calls Try.prog 61 #[va, vb] W fun x w' => ∃ v, x = .returned (.tuple #[v, .int .i64 0]) ∧ F64 w' v 1 3 ∧ Below W.heap.size W w') := Lib.hid (fun va vb W h1 h2 => rof_lit va vb 1 3 1 3 W h1 h2 (Nat.le_trans (w64_lit (by decide)) (by decide)) (Nat.le_trans (w64_lit (by decide)) (by decide)) (by decide) (by decide) (by decide))
  have R64 : Hid (∀ va vb W, N64 W va 6 → N64 W vb 4 → Calls Try.prog 61 #[va, vb] W fun x w' => ∃ v, x = .returned (.tuple #[v, .int .i64 0]) ∧ F64 w' v 3 2 ∧ Below W.heap.size W w') := Lib.hid (fun va vb W h1 h2 => rof_lit va vb 6 4 3 2 W h1 h2 (Nat.le_trans (w64_lit (by decide)) (by decide)) (Nat.le_trans (w64_lit (by decide)) (by decide)) (by decide) (by decide) (by decide))
  have T56 : Hid (∀ v W, F64 W v 5 6 → Calls Try.prog 72 #[v] W (fun x w' => x = .returned (.string ⟨#[53, 47, 54]⟩) ∧ Below W.heap.size W w')) := Lib.hid (fun v W h => rtext_lit v 5 6 [53] [54] _ W h (by decide) (by decide) dig_5 dig_6 (by decide) (by decide) (by kernel_rfl))
  have T32 : Hid (∀ v W, F64 W v 3 2 → Calls Try.prog 72 #[v] W (fun x w' => x = .returned (.string ⟨#[51, 47, 50]⟩) ∧ Below W.heap.size W w')) := Lib.hid (fun v W h => rtext_lit v 3 2 [51] [50] _ W h (by decide) (by decide) dig_3 dig_2 (by decide) (by decide) (by kernel_rfl))
  have T01 : Hid (∀ v W, F64 W v 0 1 → Calls Try.prog 72 #[v] W (fun x w' => x = .returned (.string ⟨#[48, 47, 49]⟩) ∧ Below W.heap.size W w')) := Lib.hid (fun v W h => rtext_lit v 0 1 [48] [49] _ W h (by decide) (by decide) dig_0 dig_1 (by decide) (by decide) (by kernel_rfl))
  have HAD : Hid (∀ v W, RowF W v 2 (ofL [(1, 2), (1, 3)]) → Calls Try.prog 66 #[v] W (MkF W 5 6)) := Lib.hid (fun v W h => radd_two v 1 2 1 3 1 W (by decide) h (by decide) (by decide) (w64_lit (by decide)) (w64_lit (by decide)) (w64_lit (by decide)) (w64_lit (by decide)))
  have HLE : Hid (∀ va vb W, F64 W va 1 3 → F64 W vb 1 2 → Calls Try.prog 62 #[va, vb] W (MkF W 0 1)) := Lib.hid (fun va vb W h1 h2 => rlessF_no va vb 1 3 1 2 W h1 h2 (Nat.le_trans (w64_lit (by decide)) (by decide)) (Nat.le_trans (w64_lit (by decide)) (by decide)) (Nat.le_trans (w64_lit (by decide)) (by decide)) (Nat.le_trans (w64_lit (by decide)) (by decide)) (by decide))
  have HB0 := Lib.hid (Below.refl w.heap.size w)
  go_enter Try.func65, Try.ntmps65
  go_wp2_with fail
  with_reducible refine (O1.out _).mono ?_
  rintro e w1a ⟨u, rfl, hu, hb⟩
  replace HB0 := Lib.hid (cbt HB0.out hb)
  have N1 := Lib.hid hu
  clear hb hu
  go_wp2_with fail
  with_reducible refine (O2.out _).mono ?_
  rintro e w1b ⟨u, rfl, hu, hb⟩
  replace N1 := Lib.hid (N1.out.below hb)
  replace HB0 := Lib.hid (cbt HB0.out hb)
  have N2 := Lib.hid hu
  clear hb hu
  go_wp2_with fail
  with_reducible refine (R12.out _ _ _ N1.out N2.out).mono ?_
  rintro e w1c ⟨u, rfl, hu, hb⟩
  replace N1 := Lib.hid (N1.out.below hb)
  replace N2 := Lib.hid (N2.out.below hb)
  replace HB0 := Lib.hid (cbt HB0.out hb)
  have NA := Lib.hid hu
  clear hb hu
  clear N1 N2
  have Z0 := NA.out
  obtain ⟨AS0, pS0, cS0, BS0, qS0, eS0, xS0, rfl, _, _, _⟩ := Z0
  have e1 := Blk.new w1c 47 #[.slice AS0 pS0 cS0, .slice BS0 qS0 eS0]
  have hb := cba (Below.refl _ w1c) (.cells #[.slice AS0 pS0 cS0, .slice BS0 qS0 eS0] 47)
  go_upto_region 2 with (fail)
  obtain ⟨S, hS⟩ : ∃ S, (w1c.alloc (.cells #[.slice AS0 pS0 cS0, .slice BS0 qS0 eS0] 47)) = S := ⟨_, rfl⟩
  rw [hS] at e1 hb ⊢
  obtain ⟨g1, hg⟩ : ∃ g, w1c.heap.size = g := ⟨_, rfl⟩
  rw [hg] at e1
  simp only [hg]
  replace NA := Lib.hid (NA.out.below hb)
  replace HB0 := Lib.hid (cbt HB0.out hb)
  have E1 := Lib.hid e1
  clear hS hg hb e1
  have k_E1_0 := E1.out.cell 0
  have k_E1_1 := E1.out.cell 1
  go_wp2_with fail
  with_reducible refine (O1.out _).mono ?_
  rintro e w2a ⟨u, rfl, hu, hb⟩
  clear k_E1_0 k_E1_1
  replace NA := Lib.hid (NA.out.below hb)
  replace E1 := Lib.hid (blk_below E1.out hb)
  replace HB0 := Lib.hid (cbt HB0.out hb)
  have N1 := Lib.hid hu
  clear hb hu
  have k_E1_0 := E1.out.cell 0
  have k_E1_1 := E1.out.cell 1
  go_wp2_with fail
  with_reducible refine (O3.out _).mono ?_
  rintro e w2b ⟨u, rfl, hu, hb⟩
  clear k_E1_0 k_E1_1
  replace NA := Lib.hid (NA.out.below hb)
  replace N1 := Lib.hid (N1.out.below hb)
  replace E1 := Lib.hid (blk_below E1.out hb)
  replace HB0 := Lib.hid (cbt HB0.out hb)
  have N2 := Lib.hid hu
  clear hb hu
  have k_E1_0 := E1.out.cell 0
  have k_E1_1 := E1.out.cell 1
  go_wp2_with fail
  with_reducible refine (R13.out _ _ _ N1.out N2.out).mono ?_
  rintro e w2c ⟨u, rfl, hu, hb⟩
  clear k_E1_0 k_E1_1
  replace NA := Lib.hid (NA.out.below hb)
  replace N1 := Lib.hid (N1.out.below hb)
  replace N2 := Lib.hid (N2.out.below hb)
  replace E1 := Lib.hid (blk_below E1.out hb)
  replace HB0 := Lib.hid (cbt HB0.out hb)
  have NB := Lib.hid hu
  clear hb hu
  have k_E1_0 := E1.out.cell 0
  have k_E1_1 := E1.out.cell 1
  clear N1 N2
  have Z0 := NB.out
  obtain ⟨AT0, pT0, cT0, BT0, qT0, eT0, xT0, rfl, _, _, _⟩ := Z0
  have e2 := Blk.new w2c 47 #[.slice AT0 pT0 cT0, .slice BT0 qT0 eT0]
  have hb := cba (Below.refl _ w2c) (.cells #[.slice AT0 pT0 cT0, .slice BT0 qT0 eT0] 47)
  go_upto_region 3 with (fail)
  obtain ⟨T, hS⟩ : ∃ S, (w2c.alloc (.cells #[.slice AT0 pT0 cT0, .slice BT0 qT0 eT0] 47)) = S := ⟨_, rfl⟩
  rw [hS] at e2 hb ⊢
  obtain ⟨g2, hg⟩ : ∃ g, w2c.heap.size = g := ⟨_, rfl⟩
  rw [hg] at e2
  simp only [hg]
  replace NA := Lib.hid (NA.out.below hb)
  replace NB := Lib.hid (NB.out.below hb)
  replace E1 := Lib.hid (blk_below E1.out hb)
  replace HB0 := Lib.hid (cbt HB0.out hb)
  have E2 := Lib.hid e2
  clear hS hg hb e2 k_E1_0 k_E1_1
  have k_E1_0 := E1.out.cell 0
  have k_E1_1 := E1.out.cell 1
  have k_E2_0 := E2.out.cell 0
  have k_E2_1 := E2.out.cell 1
  go_wp2_with fail
  with_reducible refine (O6.out _).mono ?_
  rintro e w3a ⟨u, rfl, hu, hb⟩
  clear k_E1_0 k_E1_1 k_E2_0 k_E2_1
  replace NA := Lib.hid (NA.out.below hb)
  replace NB := Lib.hid (NB.out.below hb)
  replace E1 := Lib.hid (blk_below E1.out hb)
  replace E2 := Lib.hid (blk_below E2.out hb)
  replace HB0 := Lib.hid (cbt HB0.out hb)
  have N1 := Lib.hid hu
  clear hb hu
  have k_E1_0 := E1.out.cell 0
  have k_E1_1 := E1.out.cell 1
  have k_E2_0 := E2.out.cell 0
  have k_E2_1 := E2.out.cell 1
  go_wp2_with fail
  with_reducible refine (O4.out _).mono ?_
  rintro e w3b ⟨u, rfl, hu, hb⟩
  clear k_E1_0 k_E1_1 k_E2_0 k_E2_1
  replace NA := Lib.hid (NA.out.below hb)
  replace NB := Lib.hid (NB.out.below hb)
  replace N1 := Lib.hid (N1.out.below hb)
  replace E1 := Lib.hid (blk_below E1.out hb)
  replace E2 := Lib.hid (blk_below E2.out hb)
  replace HB0 := Lib.hid (cbt HB0.out hb)
  have N2 := Lib.hid hu
  clear hb hu
  have k_E1_0 := E1.out.cell 0
  have k_E1_1 := E1.out.cell 1
  have k_E2_0 := E2.out.cell 0
  have k_E2_1 := E2.out.cell 1
  go_wp2_with fail
  with_reducible refine (R64.out _ _ _ N1.out N2.out).mono ?_
  rintro e w3c ⟨u, rfl, hu, hb⟩
  clear k_E1_0 k_E1_1 k_E2_0 k_E2_1
  replace NA := Lib.hid (NA.out.below hb)
  replace NB := Lib.hid (NB.out.below hb)
  replace N1 := Lib.hid (N1.out.below hb)
  replace N2 := Lib.hid (N2.out.below hb)
  replace E1 := Lib.hid (blk_below E1.out hb)
  replace E2 := Lib.hid (blk_below E2.out hb)
  replace HB0 := Lib.hid (cbt HB0.out hb)
  have NC := Lib.hid hu
  clear hb hu
  have k_E1_0 := E1.out.cell 0
  have k_E1_1 := E1.out.cell 1
  have k_E2_0 := E2.out.cell 0
  have k_E2_1 := E2.out.cell 1
  clear N1 N2
  have Z0 := NC.out
  obtain ⟨AU0, pU0, cU0, BU0, qU0, eU0, xU0, rfl, _, _, _⟩ := Z0
  have e3 := Blk.new w3c 47 #[.slice AU0 pU0 cU0, .slice BU0 qU0 eU0]
  have hb := cba (Below.refl _ w3c) (.cells #[.slice AU0 pU0 cU0, .slice BU0 qU0 eU0] 47)
  go_upto_region 4 with (fail)
  obtain ⟨U, hS⟩ : ∃ S, (w3c.alloc (.cells #[.slice AU0 pU0 cU0, .slice BU0 qU0 eU0] 47)) = S := ⟨_, rfl⟩
  rw [hS] at e3 hb ⊢
  obtain ⟨g3, hg⟩ : ∃ g, w3c.heap.size = g := ⟨_, rfl⟩
  rw [hg] at e3
  simp only [hg]
  replace NA := Lib.hid (NA.out.below hb)
  replace NB := Lib.hid (NB.out.below hb)
  replace NC := Lib.hid (NC.out.below hb)
  replace E1 := Lib.hid (blk_below E1.out hb)
  replace E2 := Lib.hid (blk_below E2.out hb)
  replace HB0 := Lib.hid (cbt HB0.out hb)
  have E3 := Lib.hid e3
  clear hS hg hb e3 k_E1_0 k_E1_1 k_E2_0 k_E2_1
  have k_E1_0 := E1.out.cell 0
  have k_E1_1 := E1.out.cell 1
  have k_E2_0 := E2.out.cell 0
  have k_E2_1 := E2.out.cell 1
  have k_E3_0 := E3.out.cell 0
  have k_E3_1 := E3.out.cell 1
  have HROW := Lib.hid (RowF.two (Blk.new U 47 #[.slice AS0 pS0 cS0, .slice BS0 qS0 eS0, .slice AT0 pT0 cT0, .slice BT0 qT0 eT0]) (NA.out.below (cba (Below.refl _ U) (.cells #[.slice AS0 pS0 cS0, .slice BS0 qS0 eS0, .slice AT0 pT0 cT0, .slice BT0 qT0 eT0] 47))) (NB.out.below (cba (Below.refl _ U) (.cells #[.slice AS0 pS0 cS0, .slice BS0 qS0 eS0, .slice AT0 pT0 cT0, .slice BT0 qT0 eT0] 47))))
  go_wp2_with fail
  with_reducible refine (HAD.out _ _ HROW.out).mono ?_
  rintro e w4 ⟨u, rfl, hu, hb'⟩
  have hb := cbt (cba (Below.refl _ U) (.cells #[.slice AS0 pS0 cS0, .slice BS0 qS0 eS0, .slice AT0 pT0 cT0, .slice BT0 qT0 eT0] 47)) hb'
  clear hb' HROW
  clear k_E1_0 k_E1_1 k_E2_0 k_E2_1 k_E3_0 k_E3_1
  replace NA := Lib.hid (NA.out.below hb)
  replace NB := Lib.hid (NB.out.below hb)
  replace NC := Lib.hid (NC.out.below hb)
  replace E1 := Lib.hid (blk_below E1.out hb)
  replace E2 := Lib.hid (blk_below E2.out hb)
  replace E3 := Lib.hid (blk_below E3.out hb)
  replace HB0 := Lib.hid (cbt HB0.out hb)
  have NS := Lib.hid hu
  clear hb hu
  have k_E1_0 := E1.out.cell 0
  have k_E1_1 := E1.out.cell 1
  have k_E2_0 := E2.out.cell 0
  have k_E2_1 := E2.out.cell 1
  have k_E3_0 := E3.out.cell 0
  have k_E3_1 := E3.out.cell 1
  go_wp2_with fail
  with_reducible refine (T56.out _ _ NS.out).mono ?_
  rintro e w5 ⟨rfl, hb⟩
  clear k_E1_0 k_E1_1 k_E2_0 k_E2_1 k_E3_0 k_E3_1
  replace NA := Lib.hid (NA.out.below hb)
  replace NB := Lib.hid (NB.out.below hb)
  replace NC := Lib.hid (NC.out.below hb)
  replace NS := Lib.hid (NS.out.below hb)
  replace E1 := Lib.hid (blk_below E1.out hb)
  replace E2 := Lib.hid (blk_below E2.out hb)
  replace E3 := Lib.hid (blk_below E3.out hb)
  replace HB0 := Lib.hid (cbt HB0.out hb)
  clear hb
  have k_E1_0 := E1.out.cell 0
  have k_E1_1 := E1.out.cell 1
  have k_E2_0 := E2.out.cell 0
  have k_E2_1 := E2.out.cell 1
  have k_E3_0 := E3.out.cell 0
  have k_E3_1 := E3.out.cell 1
  go_wp2_with fail
  with_reducible refine (T32.out _ _ NC.out).mono ?_
  rintro e w6 ⟨rfl, hb⟩
  clear k_E1_0 k_E1_1 k_E2_0 k_E2_1 k_E3_0 k_E3_1
  replace NA := Lib.hid (NA.out.below hb)
  replace NB := Lib.hid (NB.out.below hb)
  replace NC := Lib.hid (NC.out.below hb)
  replace NS := Lib.hid (NS.out.below hb)
  replace E1 := Lib.hid (blk_below E1.out hb)
  replace E2 := Lib.hid (blk_below E2.out hb)
  replace E3 := Lib.hid (blk_below E3.out hb)
  replace HB0 := Lib.hid (cbt HB0.out hb)
  clear hb
  have k_E1_0 := E1.out.cell 0
  have k_E1_1 := E1.out.cell 1
  have k_E2_0 := E2.out.cell 0
  have k_E2_1 := E2.out.cell 1
  have k_E3_0 := E3.out.cell 0
  have k_E3_1 := E3.out.cell 1
  go_wp2_with fail
  with_reducible refine (HLE.out _ _ _ NB.out NA.out).mono ?_
  rintro e w7 ⟨u, rfl, hu, hb⟩
  clear k_E1_0 k_E1_1 k_E2_0 k_E2_1 k_E3_0 k_E3_1
  replace NA := Lib.hid (NA.out.below hb)
  replace NB := Lib.hid (NB.out.below hb)
  replace NC := Lib.hid (NC.out.below hb)
  replace NS := Lib.hid (NS.out.below hb)
  replace E1 := Lib.hid (blk_below E1.out hb)
  replace E2 := Lib.hid (blk_below E2.out hb)
  replace E3 := Lib.hid (blk_below E3.out hb)
  replace HB0 := Lib.hid (cbt HB0.out hb)
  have NL := Lib.hid hu
  clear hb hu
  have k_E1_0 := E1.out.cell 0
  have k_E1_1 := E1.out.cell 1
  have k_E2_0 := E2.out.cell 0
  have k_E2_1 := E2.out.cell 1
  have k_E3_0 := E3.out.cell 0
  have k_E3_1 := E3.out.cell 1
  go_wp2_with fail
  with_reducible refine (T01.out _ _ NL.out).mono ?_
  rintro e w8 ⟨rfl, hb⟩
  clear k_E1_0 k_E1_1 k_E2_0 k_E2_1 k_E3_0 k_E3_1
  replace NA := Lib.hid (NA.out.below hb)
  replace NB := Lib.hid (NB.out.below hb)
  replace NC := Lib.hid (NC.out.below hb)
  replace NS := Lib.hid (NS.out.below hb)
  replace NL := Lib.hid (NL.out.below hb)
  replace E1 := Lib.hid (blk_below E1.out hb)
  replace E2 := Lib.hid (blk_below E2.out hb)
  replace E3 := Lib.hid (blk_below E3.out hb)
  replace HB0 := Lib.hid (cbt HB0.out hb)
  clear hb
  have k_E1_0 := E1.out.cell 0
  have k_E1_1 := E1.out.cell 1
  have k_E2_0 := E2.out.cell 0
  have k_E2_1 := E2.out.cell 1
  have k_E3_0 := E3.out.cell 0
  have k_E3_1 := E3.out.cell 1
  go_wp2_with fail
  go_ret
  exact ⟨rfl, HB0.out⟩
end Go.Proofs.Yteikhnmmkanndaa
namespace Go.Proofs.Yteikhnmmkanndaa
open Go.RowKit Go.Proofs.YteikhnmmkanndaaW.PrintWords
def Red (a : Nat × Nat) : Prop := Nat.gcd a.1 a.2 = 1 ∧ 0 < a.2
theorem Red.rn {a : Nat × Nat} (h : Red a) : rn a.1 a.2 = a.1 := by unfold Yteikhnmmkanndaa.rn; rw [h.1, Nat.div_one]
theorem Red.rd {a : Nat × Nat} (h : Red a) : rd a.1 a.2 = a.2 := by unfold Yteikhnmmkanndaa.rd; rw [h.1, Nat.div_one]
theorem red_of {n d : Nat} (h : 0 < d) : Red (Yteikhnmmkanndaa.rn n d, Yteikhnmmkanndaa.rd n d) := ⟨Nat.coprime_div_gcd_div_gcd (Nat.gcd_pos_of_pos_right n h), rd_pos h⟩
theorem red_zero : Red (0, 1) := ⟨rfl, Nat.one_pos⟩
def lessR (a b : Nat × Nat) : Nat × Nat := if a.1 * b.2 < b.1 * a.2 then (0, 1) else (rn (a.1 * b.2 - b.1 * a.2) (a.2 * b.2), rd (a.1 * b.2 - b.1 * a.2) (a.2 * b.2))
def mulR (a b : Nat × Nat) : Nat × Nat := (rn (a.1 * b.1) (a.2 * b.2), rd (a.1 * b.1) (a.2 * b.2))
def divR (a b : Nat × Nat) : Nat × Nat := (rn (a.1 * b.2) (a.2 * b.1), rd (a.1 * b.2) (a.2 * b.1))
theorem addR_zero {a : Nat × Nat} (h : Red a) : addR (0, 1) a = a := by
  unfold addR
  simp only [Nat.zero_mul, Nat.zero_add, Nat.mul_one, Nat.one_mul]
  rw [h.rn, h.rd]
theorem less_zero {a : Nat × Nat} (h : Red a) : lessR a (0, 1) = a := by
  unfold lessR
  simp only [Nat.zero_mul, Nat.mul_one, Nat.sub_zero]
  rw [if_neg (by omega), h.rn, h.rd]
theorem zero_less (a : Nat × Nat) : (lessR (0, 1) a).1 = 0 := by
  unfold lessR
  split
  · rfl
  · simp only [Nat.zero_mul, Nat.zero_sub, rn_zero]
theorem add_zero {a : Nat × Nat} (h : Red a) : addR a (0, 1) = a := by
  unfold addR
  simp only [Nat.zero_mul, Nat.add_zero, Nat.mul_one]
  rw [h.rn, h.rd]
theorem zero_mulR (a : Nat × Nat) : (mulR (0, 1) a).1 = 0 := by
  unfold mulR
  simp only [Nat.zero_mul, rn_zero]
def Sz (B : Nat) (a : Nat × Nat) : Prop := wl 8 a.1 ≤ B ∧ wl 8 a.2 ≤ B
theorem wl64_le (x : Nat) : wl 64 x ≤ wl 8 x := by
  rw [wl_le (by decide)]
  exact Nat.lt_of_lt_of_le (wl_lt (k := 8) (by decide) x) (Nat.pow_le_pow_right (by decide) (by omega))
theorem Sz.mono {B C : Nat} {a : Nat × Nat} (h : Sz B a) (hc : B ≤ C) : Sz C a := ⟨Nat.le_trans h.1 hc, Nat.le_trans h.2 hc⟩
theorem Sz.add {B C : Nat} {a b : Nat × Nat} (ha : Sz B a) (hb : Sz C b) : Sz (B + C + 1) (addR a b) := by
  have h1 := wl_mul_le (k := 8) (by decide) ha.1 hb.2
  have h2 := wl_mul_le (k := 8) (by decide) hb.1 ha.2
  have h3 := wl_mul_le (k := 8) (by decide) ha.2 hb.2
  have h4 := wl_add_le (k := 8) (x := a.1 * b.2) (y := b.1 * a.2) (a := B + C) (by decide) h1 (by omega)
  exact ⟨wl_rn (by decide) h4, wl_rd (by decide) (by omega)⟩
theorem Sz.less {B C : Nat} {a b : Nat × Nat} (ha : Sz B a) (hb : Sz C b) : Sz (B + C + 1) (lessR a b) := by
  have h1 := wl_mul_le (k := 8) (by decide) ha.1 hb.2
  have h3 := wl_mul_le (k := 8) (by decide) ha.2 hb.2
  have h4 := wl_mono (k := 8) (by decide) (Nat.sub_le (a.1 * b.2) (b.1 * a.2))
  unfold lessR
  split
  · refine ⟨?_, ?_⟩
    · show wl 8 0 ≤ _
      rw [wl_zero (by decide)]; omega
    · show wl 8 1 ≤ _
      rw [show wl 8 1 = 1 by decide +kernel]; omega
  · exact ⟨wl_rn (by decide) (by omega), wl_rd (by decide) (by omega)⟩
theorem Sz.mul {B C : Nat} {a b : Nat × Nat} (ha : Sz B a) (hb : Sz C b) : Sz (B + C) (mulR a b) :=
  ⟨wl_rn (by decide) (wl_mul_le (k := 8) (by decide) ha.1 hb.1), wl_rd (by decide) (wl_mul_le (k := 8) (by decide) ha.2 hb.2)⟩
theorem Sz.div {B C : Nat} {a b : Nat × Nat} (ha : Sz B a) (hb : Sz C b) : Sz (B + C) (divR a b) :=
  ⟨wl_rn (by decide) (wl_mul_le (k := 8) (by decide) ha.1 hb.2), wl_rd (by decide) (wl_mul_le (k := 8) (by decide) ha.2 hb.1)⟩
theorem Sz.w1 {B : Nat} {a : Nat × Nat} (h : Sz B a) : wl 64 a.1 ≤ B := Nat.le_trans (wl64_le _) h.1
theorem Sz.w2 {B : Nat} {a : Nat × Nat} (h : Sz B a) : wl 64 a.2 ≤ B := Nat.le_trans (wl64_le _) h.2
theorem Sz.zero : Sz 1 (0, 1) := ⟨by decide +kernel, by decide +kernel⟩
section
variable {a b c : Nat × Nat} {va vb v : Value} {W : World} {B : Nat}
theorem c_add2 (hB : B ≤ 100000) (ha : Red a) (hb : Red b) (sa : Sz B a) (sb : Sz B b) (h : RowF W v 2 (ofL [a, b])) : Calls Try.prog 66 #[v] W (MkF W (addR a b).1 (addR a b).2) := by
  have := radd_two v a.1 a.2 b.1 b.2 B W hB h ha.2 hb.2 sa.w1 sa.w2 sb.w1 sb.w2
  rwa [show (a.1, a.2) = a from rfl, show (b.1, b.2) = b from rfl, addR_zero ha] at this
theorem c_less (hB : B ≤ 100000) (sa : Sz B a) (sb : Sz B b) (h1 : F64 W va a.1 a.2) (h2 : F64 W vb b.1 b.2) : Calls Try.prog 62 #[va, vb] W (MkF W (lessR a b).1 (lessR a b).2) := by
  have q1 := sa.w1; have q2 := sa.w2; have q3 := sb.w1; have q4 := sb.w2
  unfold lessR
  split
  · rename_i h
    exact rlessF_no va vb a.1 a.2 b.1 b.2 W h1 h2 (by omega) (by omega) (by omega) (by omega) h
  · rename_i h
    exact rlessF_any va vb a.1 a.2 b.1 b.2 W h1 h2 (by omega) (by omega) (by omega) (by omega) (by omega)
theorem c_mul (hB : B ≤ 100000) (sa : Sz B a) (sb : Sz B b) (h1 : F64 W va a.1 a.2) (h2 : F64 W vb b.1 b.2) : Calls Try.prog 43 #[va, vb] W (MkF W (mulR a b).1 (mulR a b).2) := by
  have q1 := sa.w1; have q2 := sa.w2; have q3 := sb.w1; have q4 := sb.w2
  exact rmulF_any va vb a.1 a.2 b.1 b.2 W h1 h2 (by omega) (by omega) (by omega) (by omega)
theorem c_divno (h0 : b.1 = 0) (h1 : F64 W va a.1 a.2) (h2 : F64 W vb b.1 b.2) : Calls Try.prog 71 #[va, vb] W fun x w' => ∃ v, x = .returned (.tuple #[v, .int .i64 1]) ∧ F64 w' v 0 1 ∧ Below W.heap.size W w' :=
  rdivF_no va vb a.1 a.2 b.1 b.2 W h1 h2 h0
theorem c_cmp (hB : B ≤ 100000) (sa : Sz B a) (sb : Sz B b) (h1 : F64 W va a.1 a.2) (h2 : F64 W vb b.1 b.2) : Calls Try.prog 44 #[va, vb] W fun x w' => x = .returned (.int .i64 (cmpN (a.1 * b.2) (b.1 * a.2))) ∧ Below W.heap.size W w' := by
  have q1 := sa.w1; have q2 := sa.w2; have q3 := sb.w1; have q4 := sb.w2
  exact rcmpF_any va vb a.1 a.2 b.1 b.2 W h1 h2 (by omega) (by omega) (by omega) (by omega)
theorem c_cmpeq (hB : B ≤ 100000) (sa : Sz B a) (sb : Sz B b) (he : a.1 * b.2 = b.1 * a.2) (h1 : F64 W va a.1 a.2) (h2 : F64 W vb b.1 b.2) : Calls Try.prog 44 #[va, vb] W fun x w' => x = .returned (.int .i64 0) ∧ Below W.heap.size W w' := by
  have := c_cmp hB sa sb h1 h2
  rwa [he, cmpN_self] at this
end
def frcR (l m : List Int) : Nat × Nat := (rn (be l) (den1 (be m)), rd (be l) (den1 (be m)))
theorem frcR_red (l m : List Int) : Red (frcR l m) := red_of (den1_pos _)
theorem frcR_sz {l m : List Int} {B : Nat} (hl : Bys l) (hm : Bys m) (h1 : l.length ≤ B) (h2 : m.length ≤ B) : Sz (B + 1) (frcR l m) :=
  ⟨wl_rn (by decide) (Nat.le_trans (be_wl hl) (by omega)), wl_rd (by decide) (Nat.le_trans (den1_wl (b := B) (by decide) (Nat.le_trans (be_wl hm) h2)) (Nat.le_refl _))⟩
theorem c_to {v : Value} {l m : List Int} {W : World} (h : Frc W v l m) (hl : Bys l) (hm : Bys m) (h1 : l.length ≤ 10000) (h2 : m.length ≤ 10000) : Calls Try.prog 36 #[v] W (MkF W (frcR l m).1 (frcR l m).2) := to_any v l m W h hl hm h1 h2
theorem c_small {v : Value} {l m : List Int} {k : Nat} {W : World} {r : Bool} (h : Frc W v l m) (hr : (decide (l.length ≤ k) && decide (m.length ≤ k)) = r) : Calls Try.prog 64 #[v, .int .i64 (k : Nat)] W fun x w' => x = .returned (.bool r) ∧ Below W.heap.size W w' := by
  have := small_any v l m k W h
  rwa [hr] at this
end Go.Proofs.Yteikhnmmkanndaa
namespace Go.Proofs.Yteikhnmmkanndaa
open Go.RowKit Go.Proofs.YteikhnmmkanndaaW.PrintWords
set_option linter.unusedSimpArgs false
set_option linter.unusedVariables false
set_option maxRecDepth 100000 in
set_option maxHeartbeats 4000000 in
theorem ratZero_law (vx : Value) (lx mx : List Int) (w : World) (hx : Frc w vx lx mx) (ylx : Bys lx) (ymx : Bys mx) : Calls Try.prog 15 #[vx] w fun e w' => e = .returned (.bool true) ∧ Below w.heap.size w w' := by
  have Hx := Lib.hid hx
  obtain ⟨Ux, nx, cx, Vx, kx, dx, rfl, _, _, _, _⟩ := hx
  by_cases hzx : lx.length ≤ 16 ∧ mx.length ≤ 16
  · obtain ⟨hxx, hyx⟩ := hzx
    have HSx : Hid (∀ v W, Frc W v lx mx → Calls Try.prog 64 #[v, .int .i64 16] W (fun x w' => x = .returned (.bool true) ∧ Below W.heap.size W w')) := Lib.hid (fun v W h => c_small (k := 16) h (by simp [hxx, hyx]))
    have rx := frcR_red lx mx
    have sx := frcR_sz ylx ymx hxx hyx
    have HTa := Lib.hid (fun v W h => c_to (v := v) (W := W) (l := lx) (m := mx) h ylx ymx (by omega) (by omega))
    obtain ⟨a, hea⟩ : ∃ a, frcR lx mx = a := ⟨_, rfl⟩
    rw [hea] at rx sx HTa
    have sa' := sx.mono (C := 80) (by decide)
    have s0' := Sz.zero.mono (C := 80) (by decide)
    have hz0 := zero_mulR a
    have hl0 := zero_less a
    have sp := (Sz.zero.mul sx).mono (C := 80) (by decide)
    have sl := (Sz.zero.less sx).mono (C := 80) (by decide)
    have HAD := Lib.hid (fun v W h => c_add2 (v := v) (W := W) (B := 80) (by decide) rx red_zero sa' s0' h)
    rw [add_zero rx] at HAD
    have HCE := Lib.hid (fun va vb W h1 h2 => c_cmpeq (va := va) (vb := vb) (W := W) (B := 80) (by decide) sa' sa' rfl h1 h2)
    have HMU := Lib.hid (fun va vb W h1 h2 => c_mul (va := va) (vb := vb) (W := W) (B := 80) (by decide) s0' sa' h1 h2)
    have HZM := Lib.hid (fun v W h => rzero_yes v (mulR (0, 1) a).1 (mulR (0, 1) a).2 W h hz0)
    have HLE := Lib.hid (fun va vb W h1 h2 => c_less (va := va) (vb := vb) (W := W) (B := 80) (by decide) s0' sa' h1 h2)
    have HZL := Lib.hid (fun v W h => rzero_yes v (lessR (0, 1) a).1 (lessR (0, 1) a).2 W h hl0)
    have HL2 := Lib.hid (fun va vb W h1 h2 => c_less (va := va) (vb := vb) (W := W) (B := 80) (by decide) sa' s0' h1 h2)
    rw [less_zero rx] at HL2
    have HFL : Hid (∀ v W, F64 W v 0 1 → Calls Try.prog 73 #[v] W (Mk64 W 0)) := Lib.hid (fun v W h => rfloor_any v 0 1 W h (by rw [wl_zero (by decide)]; omega))
    have HDN := Lib.hid (fun va vb W h1 h2 => c_divno (a := a) (b := (0, 1)) (va := va) (vb := vb) (W := W) rfl h1 h2)
    have HZ0 := Lib.hid (fun v W h => rzero_yes v 0 1 W h rfl)
    have HNZ := Lib.hid (fun v W h => zero_eq v 0 W h rfl)
    have HTX : Hid (∀ v W, F64 W v 0 1 → Calls Try.prog 72 #[v] W (fun x w' => x = .returned (.string ⟨#[48, 47, 49]⟩) ∧ Below W.heap.size W w')) := Lib.hid (fun v W h => rtext_lit v 0 1 [48] [49] _ W h (by decide) (by decide) dig_0 dig_1 (by decide) (by decide) (by kernel_rfl))
    have HC0 := Lib.hid (fun va vb W h1 h2 => c_cmp (va := va) (vb := vb) (W := W) (B := 80) (by decide) s0' sa' h1 h2)
    have HLV := Lib.hid live26_any
    by_cases ha0 : a.1 = 0
    · have hc : cmpN ((0, 1).1 * a.2) (a.1 * (0, 1).2) = 0 := by rw [ha0]; simp only [Nat.zero_mul]; rfl
      have HZA := Lib.hid (fun v W h => rzero_yes v a.1 a.2 W h ha0)
      rw [hc] at HC0
      generalize mulR (0, 1) a = p at *
      generalize lessR (0, 1) a = l at *
      clear rx sx sa' s0' hz0 hl0 sp sl ylx ymx hxx hyx ha0 hc hea
      have e0 := Blk.new (w) 45 #[(.slice Ux nx cx), (.slice Vx kx dx)]
      have hb := cba (Below.refl _ w) (.cells #[(.slice Ux nx cx), (.slice Vx kx dx)] 45)
      have hsz : w.heap.size ≤ w.heap.size := Nat.le_refl _
      go_enter Try.func15, Try.ntmps15
      go_upto_region 1 with (fail)
      obtain ⟨S, hS⟩ : ∃ S, (w).alloc (.cells #[(.slice Ux nx cx), (.slice Vx kx dx)] 45) = S := ⟨_, rfl⟩
      rw [hS] at e0 hb ⊢
      replace Hx := Lib.hid (Hx.out.below hb)
      have HB0 := Lib.hid hb
      have E0 := Lib.hid e0
      clear hS hb hsz e0
      have k_E0_0 := E0.out.cell 0
      have k_E0_1 := E0.out.cell 1
      go_wp2_with fail
      with_reducible refine (HSx.out _ _ Hx.out).mono ?_
      rintro e w1 ⟨rfl, hb⟩
      clear k_E0_0 k_E0_1
      replace Hx := Lib.hid (Hx.out.below hb)
      replace E0 := Lib.hid (blk_below E0.out hb)
      replace HB0 := Lib.hid (cbt HB0.out hb)
      clear hb
      have k_E0_0 := E0.out.cell 0
      have k_E0_1 := E0.out.cell 1
      have e3 := Blk.new w1 47 #[.slice none 0 0, .slice none 0 0]
      have hb := cba (Below.refl _ w1) (.cells #[.slice none 0 0, .slice none 0 0] 47)
      go_upto_region 4 with (fail)
      obtain ⟨S3, hS⟩ : ∃ S, w1.alloc (.cells #[.slice none 0 0, .slice none 0 0] 47) = S := ⟨_, rfl⟩
      rw [hS] at e3 hb ⊢
      obtain ⟨g3, hg⟩ : ∃ g, w1.heap.size = g := ⟨_, rfl⟩
      rw [hg] at e3
      simp only [hg]
      replace Hx := Lib.hid (Hx.out.below hb)
      replace E0 := Lib.hid (blk_below E0.out hb)
      replace HB0 := Lib.hid (cbt HB0.out hb)
      have E3 := Lib.hid e3
      clear hS hg hb e3 k_E0_0 k_E0_1
      have k_E0_0 := E0.out.cell 0
      have k_E0_1 := E0.out.cell 1
      have k_E3_0 := E3.out.cell 0
      have k_E3_1 := E3.out.cell 1
      go_wp2_with fail
      with_reducible refine (HTa.out _ _ Hx.out).mono ?_
      rintro e w4 ⟨u4, rfl, hu, hb⟩
      clear k_E0_0 k_E0_1 k_E3_0 k_E3_1
      replace Hx := Lib.hid (Hx.out.below hb)
      replace E0 := Lib.hid (blk_below E0.out hb)
      replace E3 := Lib.hid (blk_below E3.out hb)
      replace HB0 := Lib.hid (cbt HB0.out hb)
      have NA := Lib.hid hu
      clear hb hu
      have k_E0_0 := E0.out.cell 0
      have k_E0_1 := E0.out.cell 1
      have k_E3_0 := E3.out.cell 0
      have k_E3_1 := E3.out.cell 1
      have Z0 := NA.out
      obtain ⟨AT0, pT0, cT0, BT0, qT0, eT0, xT0, rfl, _, _, _⟩ := Z0
      have e4 := Blk.new w4 47 #[.slice AT0 pT0 cT0, .slice BT0 qT0 eT0]
      have hb := cba (Below.refl _ w4) (.cells #[.slice AT0 pT0 cT0, .slice BT0 qT0 eT0] 47)
      go_upto_region 5 with (fail)
      obtain ⟨T, hS⟩ : ∃ S, (w4.alloc (.cells #[.slice AT0 pT0 cT0, .slice BT0 qT0 eT0] 47)) = S := ⟨_, rfl⟩
      rw [hS] at e4 hb ⊢
      obtain ⟨g4, hg⟩ : ∃ g, w4.heap.size = g := ⟨_, rfl⟩
      rw [hg] at e4
      simp only [hg]
      replace NA := Lib.hid (NA.out.below hb)
      replace E3 := Lib.hid (blk_below E3.out hb)
      replace HB0 := Lib.hid (cbt HB0.out hb)
      have E4 := Lib.hid e4
      clear hS hg hb e4 k_E0_0 k_E0_1 k_E3_0 k_E3_1
      have k_E3_0 := E3.out.cell 0
      have k_E3_1 := E3.out.cell 1
      have k_E4_0 := E4.out.cell 0
      have k_E4_1 := E4.out.cell 1
      go_wp2_with fail
      with_reducible refine (HDN.out _ _ _ NA.out F64.none).mono ?_
      rintro e w5 ⟨u5, rfl, hu, hb⟩
      clear k_E3_0 k_E3_1 k_E4_0 k_E4_1
      replace NA := Lib.hid (NA.out.below hb)
      replace E3 := Lib.hid (blk_below E3.out hb)
      replace E4 := Lib.hid (blk_below E4.out hb)
      replace HB0 := Lib.hid (cbt HB0.out hb)
      have NZ5 := Lib.hid hu
      clear hb hu
      have k_E3_0 := E3.out.cell 0
      have k_E3_1 := E3.out.cell 1
      have k_E4_0 := E4.out.cell 0
      have k_E4_1 := E4.out.cell 1
      have Z0 := NZ5.out
      obtain ⟨AU0, pU0, cU0, BU0, qU0, eU0, xU0, rfl, _, _, _⟩ := Z0
      have e5 := Blk.new w5 47 #[.slice AU0 pU0 cU0, .slice BU0 qU0 eU0]
      have hb := cba (Below.refl _ w5) (.cells #[.slice AU0 pU0 cU0, .slice BU0 qU0 eU0] 47)
      go_upto_region 6 with (fail)
      obtain ⟨U, hS⟩ : ∃ S, (w5.alloc (.cells #[.slice AU0 pU0 cU0, .slice BU0 qU0 eU0] 47)) = S := ⟨_, rfl⟩
      rw [hS] at e5 hb ⊢
      obtain ⟨g5, hg⟩ : ∃ g, w5.heap.size = g := ⟨_, rfl⟩
      rw [hg] at e5
      simp only [hg]
      replace NA := Lib.hid (NA.out.below hb)
      replace E3 := Lib.hid (blk_below E3.out hb)
      replace E4 := Lib.hid (blk_below E4.out hb)
      replace HB0 := Lib.hid (cbt HB0.out hb)
      have E5 := Lib.hid e5
      clear hS hg hb e5 k_E3_0 k_E3_1 k_E4_0 k_E4_1
      have NZ := Lib.hid (F64.none (w := U))
      let FS : List Kept1 := [.f (0) (1), .eq (.bool true), .eq (.bool true), .f (0) (1), .eq (.string ⟨#[48, 47, 49]⟩), .eq (.bool true), .eq (.bool true), .eq (.bool true), .f (a.1) (a.2), .f (0) (1), .rats 2 (ofL [a, (0, 1)]), .f (a.1) (a.2), .f (a.1) (a.2), .eq (.int .i64 0), .eq (.bool true), .eq (.bool true), .eq (.bool true), .f (0) (1), .f (a.1) (a.2), .f (p.1) (p.2), .eq (.bool true), .eq (.bool true), .eq (.bool true), .f (0) (1), .f (a.1) (a.2), .f (l.1) (l.2), .eq (.bool true), .eq (.bool true), .eq (.bool true), .f (a.1) (a.2), .f (0) (1), .f (a.1) (a.2), .f (a.1) (a.2), .eq (.int .i64 0), .eq (.bool true), .eq (.bool true), .eq (.bool true), .f (0) (1), .n (0), .eq (.bool true), .eq (.bool true), .eq (.bool true), .eq (.int .i64 1), .eq (.bool true), .eq (.bool true), .eq (.bool true), .f (0) (1), .f (a.1) (a.2), .eq (.int .i64 0), .eq (.bool true), .f (a.1) (a.2), .eq (.bool true), .eq (.bool true), .eq (.bool true), .eq (.bool true), .eq (.bool true), .eq (.bool true), .eq (.bool true)]
      refine region_mono (Held U (fun j => FS.getD j .any) []) (by kernel_rfl) (by kernel_rfl) (by kernel_rfl) (Held.start _ _ _ (by simp) (by simp)) ?_
      refine Steps.held ?_ ?_
      · intro L v w' hJ
        have kb := hJ.out.blk E3.out (by simp [oldsOf])
        have k0 := kb.cell 0
        have k1 := kb.cell 1
        clear kb
        go_wp2_with fail
        exact ⟨rfl, rfl, hJ.out.same (by rfl) (NZ.out.keep hJ.out.held.keep)⟩
      simp only [Act.put, List.setIfInBounds_toArray, List.set_cons_zero, List.set_cons_succ, Nat.reduceAdd]
      refine Steps.held ?_ ?_
      · intro L v w' hJ
        have X0 := Lib.hid (show F64 w' (v 0) (0) (1) from hJ.out.fact 0 (by kernel_rfl))
        go_wp2_with fail
        with_reducible refine (HZ0.out _ _ X0.out).mono ?_
        rintro e w1 ⟨rfl, hb⟩
        go_wp2_with fail
        exact ⟨rfl, rfl, hJ.out.call (by rfl) hb (rfl)⟩
      simp only [Act.put, List.setIfInBounds_toArray, List.set_cons_zero, List.set_cons_succ, Nat.reduceAdd]
      refine Steps.held ?_ ?_
      · intro L v w' hJ
        have hv1 : v 1 = .bool true := hJ.out.fact 1 (by kernel_rfl)
        simp only [hv1]
        clear hv1
        go_wp2_with fail
        exact ⟨rfl, rfl, hJ.out.same (by rfl) (rfl)⟩
      simp only [Act.put, List.setIfInBounds_toArray, List.set_cons_zero, List.set_cons_succ, Nat.reduceAdd]
      refine Steps.held ?_ ?_
      · intro L v w' hJ
        have hv2 : v 2 = .bool true := hJ.out.fact 2 (by kernel_rfl)
        simp only [hv2]
        clear hv2
        have kb := hJ.out.blk E3.out (by simp [oldsOf])
        have k0 := kb.cell 0
        have k1 := kb.cell 1
        clear kb
        go_wp2_with fail
        exact ⟨rfl, rfl, hJ.out.same (by rfl) (NZ.out.keep hJ.out.held.keep)⟩
      simp only [Act.put, List.setIfInBounds_toArray, List.set_cons_zero, List.set_cons_succ, Nat.reduceAdd]
      refine Steps.held ?_ ?_
      · intro L v w' hJ
        have hv2 : v 2 = .bool true := hJ.out.fact 2 (by kernel_rfl)
        simp only [hv2]
        clear hv2
        have X0 := Lib.hid (show F64 w' (v 3) (0) (1) from hJ.out.fact 3 (by kernel_rfl))
        go_wp2_with fail
        with_reducible refine (HTX.out _ _ X0.out).mono ?_
        rintro e w1 ⟨rfl, hb⟩
        go_wp2_with fail
        exact ⟨rfl, rfl, hJ.out.call (by rfl) hb (rfl)⟩
      simp only [Act.put, List.setIfInBounds_toArray, List.set_cons_zero, List.set_cons_succ, Nat.reduceAdd]
      refine Steps.held ?_ ?_
      · intro L v w' hJ
        have hv4 : v 4 = .string ⟨#[48, 47, 49]⟩ := hJ.out.fact 4 (by kernel_rfl)
        simp only [hv4]
        clear hv4
        have hv2 : v 2 = .bool true := hJ.out.fact 2 (by kernel_rfl)
        simp only [hv2]
        clear hv2
        go_wp2_with fail
        exact ⟨rfl, rfl, hJ.out.same (by rfl) (rfl)⟩
      simp only [Act.put, List.setIfInBounds_toArray, List.set_cons_zero, List.set_cons_succ, Nat.reduceAdd]
      refine Steps.held ?_ ?_
      · intro L v w' hJ
        have hv2 : v 2 = .bool true := hJ.out.fact 2 (by kernel_rfl)
        simp only [hv2]
        clear hv2
        have hv5 : v 5 = .bool true := hJ.out.fact 5 (by kernel_rfl)
        simp only [hv5]
        clear hv5
        go_wp2_with fail
        exact ⟨rfl, rfl, hJ.out.same (by rfl) (rfl)⟩
      simp only [Act.put, List.setIfInBounds_toArray, List.set_cons_zero, List.set_cons_succ, Nat.reduceAdd]
      refine Steps.held ?_ ?_
      · intro L v w' hJ
        have hv6 : v 6 = .bool true := hJ.out.fact 6 (by kernel_rfl)
        simp only [hv6]
        clear hv6
        go_wp2_with fail
        exact ⟨rfl, rfl, hJ.out.same (by rfl) (rfl)⟩
      simp only [Act.put, List.setIfInBounds_toArray, List.set_cons_zero, List.set_cons_succ, Nat.reduceAdd]
      refine Steps.held ?_ ?_
      · intro L v w' hJ
        have hv7 : v 7 = .bool true := hJ.out.fact 7 (by kernel_rfl)
        simp only [hv7]
        clear hv7
        have kb := hJ.out.blk E4.out (by simp [oldsOf])
        have k0 := kb.cell 0
        have k1 := kb.cell 1
        clear kb
        go_wp2_with fail
        exact ⟨rfl, rfl, hJ.out.same (by rfl) (NA.out.keep hJ.out.held.keep)⟩
      simp only [Act.put, List.setIfInBounds_toArray, List.set_cons_zero, List.set_cons_succ, Nat.reduceAdd]
      refine Steps.held ?_ ?_
      · intro L v w' hJ
        have hv7 : v 7 = .bool true := hJ.out.fact 7 (by kernel_rfl)
        simp only [hv7]
        clear hv7
        have kb := hJ.out.blk E3.out (by simp [oldsOf])
        have k0 := kb.cell 0
        have k1 := kb.cell 1
        clear kb
        go_wp2_with fail
        exact ⟨rfl, rfl, hJ.out.same (by rfl) (NZ.out.keep hJ.out.held.keep)⟩
      simp only [Act.put, List.setIfInBounds_toArray, List.set_cons_zero, List.set_cons_succ, Nat.reduceAdd]
      refine Steps.held ?_ ?_
      · intro L v w' hJ
        have hv7 : v 7 = .bool true := hJ.out.fact 7 (by kernel_rfl)
        simp only [hv7]
        clear hv7
        have hN0 : F64 w' (v 8) (a.1) (a.2) := hJ.out.fact 8 (by kernel_rfl)
        obtain ⟨A0, p0, c0, B0, q0, e0, x0, hv0, h1, h2, h3⟩ := hN0
        have HN0 := Lib.hid (show F64 w' (.agg #[.slice A0 p0 c0, .slice B0 q0 e0]) (a.1) (a.2) from ⟨A0, p0, c0, B0, q0, e0, x0, rfl, h1, h2, h3⟩)
        clear h1 h2 h3
        have hN1 : F64 w' (v 9) (0) (1) := hJ.out.fact 9 (by kernel_rfl)
        obtain ⟨A1, p1, c1, B1, q1, e1, x1, hv1, h1, h2, h3⟩ := hN1
        have HN1 := Lib.hid (show F64 w' (.agg #[.slice A1 p1 c1, .slice B1 q1 e1]) (0) (1) from ⟨A1, p1, c1, B1, q1, e1, x1, rfl, h1, h2, h3⟩)
        clear h1 h2 h3
        simp only [hv0, hv1]
        clear hv0 hv1
        go_wp2_with fail
        exact ⟨rfl, rfl, hJ.out.call (by rfl) (cba (Below.refl _ w') _) (RowF.two (Blk.new w' 47 #[.slice A0 p0 c0, .slice B0 q0 e0, .slice A1 p1 c1, .slice B1 q1 e1]) (HN0.out.below (cba (Below.refl _ w') _)) (HN1.out.below (cba (Below.refl _ w') _)))⟩
      simp only [Act.put, List.setIfInBounds_toArray, List.set_cons_zero, List.set_cons_succ, Nat.reduceAdd]
      refine Steps.held ?_ ?_
      · intro L v w' hJ
        have hv7 : v 7 = .bool true := hJ.out.fact 7 (by kernel_rfl)
        simp only [hv7]
        clear hv7
        have X0 := Lib.hid (show RowF w' (v 10) 2 (ofL [a, (0, 1)]) from hJ.out.fact 10 (by kernel_rfl))
        go_wp2_with fail
        with_reducible refine (HAD.out _ _ X0.out).mono ?_
        rintro e w1 ⟨u, rfl, hu, hb⟩
        go_wp2_with fail
        exact ⟨rfl, rfl, hJ.out.call (by rfl) hb (hu)⟩
      simp only [Act.put, List.setIfInBounds_toArray, List.set_cons_zero, List.set_cons_succ, Nat.reduceAdd]
      refine Steps.held ?_ ?_
      · intro L v w' hJ
        have hv7 : v 7 = .bool true := hJ.out.fact 7 (by kernel_rfl)
        simp only [hv7]
        clear hv7
        have kb := hJ.out.blk E4.out (by simp [oldsOf])
        have k0 := kb.cell 0
        have k1 := kb.cell 1
        clear kb
        go_wp2_with fail
        exact ⟨rfl, rfl, hJ.out.same (by rfl) (NA.out.keep hJ.out.held.keep)⟩
      simp only [Act.put, List.setIfInBounds_toArray, List.set_cons_zero, List.set_cons_succ, Nat.reduceAdd]
      refine Steps.held ?_ ?_
      · intro L v w' hJ
        have hv7 : v 7 = .bool true := hJ.out.fact 7 (by kernel_rfl)
        simp only [hv7]
        clear hv7
        have X0 := Lib.hid (show F64 w' (v 11) (a.1) (a.2) from hJ.out.fact 11 (by kernel_rfl))
        have X1 := Lib.hid (show F64 w' (v 12) (a.1) (a.2) from hJ.out.fact 12 (by kernel_rfl))
        go_wp2_with fail
        with_reducible refine (HCE.out _ _ _ X0.out X1.out).mono ?_
        rintro e w1 ⟨rfl, hb⟩
        go_wp2_with fail
        exact ⟨rfl, rfl, hJ.out.call (by rfl) hb (rfl)⟩
      simp only [Act.put, List.setIfInBounds_toArray, List.set_cons_zero, List.set_cons_succ, Nat.reduceAdd]
      refine Steps.held ?_ ?_
      · intro L v w' hJ
        have hv13 : v 13 = .int .i64 0 := hJ.out.fact 13 (by kernel_rfl)
        simp only [hv13]
        clear hv13
        have hv7 : v 7 = .bool true := hJ.out.fact 7 (by kernel_rfl)
        simp only [hv7]
        clear hv7
        go_wp2_with fail
        exact ⟨rfl, rfl, hJ.out.same (by rfl) (rfl)⟩
      simp only [Act.put, List.setIfInBounds_toArray, List.set_cons_zero, List.set_cons_succ, Nat.reduceAdd]
      refine Steps.held ?_ ?_
      · intro L v w' hJ
        have hv7 : v 7 = .bool true := hJ.out.fact 7 (by kernel_rfl)
        simp only [hv7]
        clear hv7
        have hv14 : v 14 = .bool true := hJ.out.fact 14 (by kernel_rfl)
        simp only [hv14]
        clear hv14
        go_wp2_with fail
        exact ⟨rfl, rfl, hJ.out.same (by rfl) (rfl)⟩
      simp only [Act.put, List.setIfInBounds_toArray, List.set_cons_zero, List.set_cons_succ, Nat.reduceAdd]
      refine Steps.held ?_ ?_
      · intro L v w' hJ
        have hv15 : v 15 = .bool true := hJ.out.fact 15 (by kernel_rfl)
        simp only [hv15]
        clear hv15
        go_wp2_with fail
        exact ⟨rfl, rfl, hJ.out.same (by rfl) (rfl)⟩
      simp only [Act.put, List.setIfInBounds_toArray, List.set_cons_zero, List.set_cons_succ, Nat.reduceAdd]
      refine Steps.held ?_ ?_
      · intro L v w' hJ
        have hv16 : v 16 = .bool true := hJ.out.fact 16 (by kernel_rfl)
        simp only [hv16]
        clear hv16
        have kb := hJ.out.blk E3.out (by simp [oldsOf])
        have k0 := kb.cell 0
        have k1 := kb.cell 1
        clear kb
        go_wp2_with fail
        exact ⟨rfl, rfl, hJ.out.same (by rfl) (NZ.out.keep hJ.out.held.keep)⟩
      simp only [Act.put, List.setIfInBounds_toArray, List.set_cons_zero, List.set_cons_succ, Nat.reduceAdd]
      refine Steps.held ?_ ?_
      · intro L v w' hJ
        have hv16 : v 16 = .bool true := hJ.out.fact 16 (by kernel_rfl)
        simp only [hv16]
        clear hv16
        have kb := hJ.out.blk E4.out (by simp [oldsOf])
        have k0 := kb.cell 0
        have k1 := kb.cell 1
        clear kb
        go_wp2_with fail
        exact ⟨rfl, rfl, hJ.out.same (by rfl) (NA.out.keep hJ.out.held.keep)⟩
      simp only [Act.put, List.setIfInBounds_toArray, List.set_cons_zero, List.set_cons_succ, Nat.reduceAdd]
      refine Steps.held ?_ ?_
      · intro L v w' hJ
        have hv16 : v 16 = .bool true := hJ.out.fact 16 (by kernel_rfl)
        simp only [hv16]
        clear hv16
        have X0 := Lib.hid (show F64 w' (v 17) (0) (1) from hJ.out.fact 17 (by kernel_rfl))
        have X1 := Lib.hid (show F64 w' (v 18) (a.1) (a.2) from hJ.out.fact 18 (by kernel_rfl))
        go_wp2_with fail
        with_reducible refine (HMU.out _ _ _ X0.out X1.out).mono ?_
        rintro e w1 ⟨u, rfl, hu, hb⟩
        go_wp2_with fail
        exact ⟨rfl, rfl, hJ.out.call (by rfl) hb (hu)⟩
      simp only [Act.put, List.setIfInBounds_toArray, List.set_cons_zero, List.set_cons_succ, Nat.reduceAdd]
      refine Steps.held ?_ ?_
      · intro L v w' hJ
        have hv16 : v 16 = .bool true := hJ.out.fact 16 (by kernel_rfl)
        simp only [hv16]
        clear hv16
        have X0 := Lib.hid (show F64 w' (v 19) (p.1) (p.2) from hJ.out.fact 19 (by kernel_rfl))
        go_wp2_with fail
        with_reducible refine (HZM.out _ _ X0.out).mono ?_
        rintro e w1 ⟨rfl, hb⟩
        go_wp2_with fail
        exact ⟨rfl, rfl, hJ.out.call (by rfl) hb (rfl)⟩
      simp only [Act.put, List.setIfInBounds_toArray, List.set_cons_zero, List.set_cons_succ, Nat.reduceAdd]
      refine Steps.held ?_ ?_
      · intro L v w' hJ
        have hv16 : v 16 = .bool true := hJ.out.fact 16 (by kernel_rfl)
        simp only [hv16]
        clear hv16
        have hv20 : v 20 = .bool true := hJ.out.fact 20 (by kernel_rfl)
        simp only [hv20]
        clear hv20
        go_wp2_with fail
        exact ⟨rfl, rfl, hJ.out.same (by rfl) (rfl)⟩
      simp only [Act.put, List.setIfInBounds_toArray, List.set_cons_zero, List.set_cons_succ, Nat.reduceAdd]
      refine Steps.held ?_ ?_
      · intro L v w' hJ
        have hv21 : v 21 = .bool true := hJ.out.fact 21 (by kernel_rfl)
        simp only [hv21]
        clear hv21
        go_wp2_with fail
        exact ⟨rfl, rfl, hJ.out.same (by rfl) (rfl)⟩
      simp only [Act.put, List.setIfInBounds_toArray, List.set_cons_zero, List.set_cons_succ, Nat.reduceAdd]
      refine Steps.held ?_ ?_
      · intro L v w' hJ
        have hv22 : v 22 = .bool true := hJ.out.fact 22 (by kernel_rfl)
        simp only [hv22]
        clear hv22
        have kb := hJ.out.blk E3.out (by simp [oldsOf])
        have k0 := kb.cell 0
        have k1 := kb.cell 1
        clear kb
        go_wp2_with fail
        exact ⟨rfl, rfl, hJ.out.same (by rfl) (NZ.out.keep hJ.out.held.keep)⟩
      simp only [Act.put, List.setIfInBounds_toArray, List.set_cons_zero, List.set_cons_succ, Nat.reduceAdd]
      refine Steps.held ?_ ?_
      · intro L v w' hJ
        have hv22 : v 22 = .bool true := hJ.out.fact 22 (by kernel_rfl)
        simp only [hv22]
        clear hv22
        have kb := hJ.out.blk E4.out (by simp [oldsOf])
        have k0 := kb.cell 0
        have k1 := kb.cell 1
        clear kb
        go_wp2_with fail
        exact ⟨rfl, rfl, hJ.out.same (by rfl) (NA.out.keep hJ.out.held.keep)⟩
      simp only [Act.put, List.setIfInBounds_toArray, List.set_cons_zero, List.set_cons_succ, Nat.reduceAdd]
      refine Steps.held ?_ ?_
      · intro L v w' hJ
        have hv22 : v 22 = .bool true := hJ.out.fact 22 (by kernel_rfl)
        simp only [hv22]
        clear hv22
        have X0 := Lib.hid (show F64 w' (v 23) (0) (1) from hJ.out.fact 23 (by kernel_rfl))
        have X1 := Lib.hid (show F64 w' (v 24) (a.1) (a.2) from hJ.out.fact 24 (by kernel_rfl))
        go_wp2_with fail
        with_reducible refine (HLE.out _ _ _ X0.out X1.out).mono ?_
        rintro e w1 ⟨u, rfl, hu, hb⟩
        go_wp2_with fail
        exact ⟨rfl, rfl, hJ.out.call (by rfl) hb (hu)⟩
      simp only [Act.put, List.setIfInBounds_toArray, List.set_cons_zero, List.set_cons_succ, Nat.reduceAdd]
      refine Steps.held ?_ ?_
      · intro L v w' hJ
        have hv22 : v 22 = .bool true := hJ.out.fact 22 (by kernel_rfl)
        simp only [hv22]
        clear hv22
        have X0 := Lib.hid (show F64 w' (v 25) (l.1) (l.2) from hJ.out.fact 25 (by kernel_rfl))
        go_wp2_with fail
        with_reducible refine (HZL.out _ _ X0.out).mono ?_
        rintro e w1 ⟨rfl, hb⟩
        go_wp2_with fail
        exact ⟨rfl, rfl, hJ.out.call (by rfl) hb (rfl)⟩
      simp only [Act.put, List.setIfInBounds_toArray, List.set_cons_zero, List.set_cons_succ, Nat.reduceAdd]
      refine Steps.held ?_ ?_
      · intro L v w' hJ
        have hv22 : v 22 = .bool true := hJ.out.fact 22 (by kernel_rfl)
        simp only [hv22]
        clear hv22
        have hv26 : v 26 = .bool true := hJ.out.fact 26 (by kernel_rfl)
        simp only [hv26]
        clear hv26
        go_wp2_with fail
        exact ⟨rfl, rfl, hJ.out.same (by rfl) (rfl)⟩
      simp only [Act.put, List.setIfInBounds_toArray, List.set_cons_zero, List.set_cons_succ, Nat.reduceAdd]
      refine Steps.held ?_ ?_
      · intro L v w' hJ
        have hv27 : v 27 = .bool true := hJ.out.fact 27 (by kernel_rfl)
        simp only [hv27]
        clear hv27
        go_wp2_with fail
        exact ⟨rfl, rfl, hJ.out.same (by rfl) (rfl)⟩
      simp only [Act.put, List.setIfInBounds_toArray, List.set_cons_zero, List.set_cons_succ, Nat.reduceAdd]
      refine Steps.held ?_ ?_
      · intro L v w' hJ
        have hv28 : v 28 = .bool true := hJ.out.fact 28 (by kernel_rfl)
        simp only [hv28]
        clear hv28
        have kb := hJ.out.blk E4.out (by simp [oldsOf])
        have k0 := kb.cell 0
        have k1 := kb.cell 1
        clear kb
        go_wp2_with fail
        exact ⟨rfl, rfl, hJ.out.same (by rfl) (NA.out.keep hJ.out.held.keep)⟩
      simp only [Act.put, List.setIfInBounds_toArray, List.set_cons_zero, List.set_cons_succ, Nat.reduceAdd]
      refine Steps.held ?_ ?_
      · intro L v w' hJ
        have hv28 : v 28 = .bool true := hJ.out.fact 28 (by kernel_rfl)
        simp only [hv28]
        clear hv28
        have kb := hJ.out.blk E3.out (by simp [oldsOf])
        have k0 := kb.cell 0
        have k1 := kb.cell 1
        clear kb
        go_wp2_with fail
        exact ⟨rfl, rfl, hJ.out.same (by rfl) (NZ.out.keep hJ.out.held.keep)⟩
      simp only [Act.put, List.setIfInBounds_toArray, List.set_cons_zero, List.set_cons_succ, Nat.reduceAdd]
      refine Steps.held ?_ ?_
      · intro L v w' hJ
        have hv28 : v 28 = .bool true := hJ.out.fact 28 (by kernel_rfl)
        simp only [hv28]
        clear hv28
        have X0 := Lib.hid (show F64 w' (v 29) (a.1) (a.2) from hJ.out.fact 29 (by kernel_rfl))
        have X1 := Lib.hid (show F64 w' (v 30) (0) (1) from hJ.out.fact 30 (by kernel_rfl))
        go_wp2_with fail
        with_reducible refine (HL2.out _ _ _ X0.out X1.out).mono ?_
        rintro e w1 ⟨u, rfl, hu, hb⟩
        go_wp2_with fail
        exact ⟨rfl, rfl, hJ.out.call (by rfl) hb (hu)⟩
      simp only [Act.put, List.setIfInBounds_toArray, List.set_cons_zero, List.set_cons_succ, Nat.reduceAdd]
      refine Steps.held ?_ ?_
      · intro L v w' hJ
        have hv28 : v 28 = .bool true := hJ.out.fact 28 (by kernel_rfl)
        simp only [hv28]
        clear hv28
        have kb := hJ.out.blk E4.out (by simp [oldsOf])
        have k0 := kb.cell 0
        have k1 := kb.cell 1
        clear kb
        go_wp2_with fail
        exact ⟨rfl, rfl, hJ.out.same (by rfl) (NA.out.keep hJ.out.held.keep)⟩
      simp only [Act.put, List.setIfInBounds_toArray, List.set_cons_zero, List.set_cons_succ, Nat.reduceAdd]
      refine Steps.held ?_ ?_
      · intro L v w' hJ
        have hv28 : v 28 = .bool true := hJ.out.fact 28 (by kernel_rfl)
        simp only [hv28]
        clear hv28
        have X0 := Lib.hid (show F64 w' (v 31) (a.1) (a.2) from hJ.out.fact 31 (by kernel_rfl))
        have X1 := Lib.hid (show F64 w' (v 32) (a.1) (a.2) from hJ.out.fact 32 (by kernel_rfl))
        go_wp2_with fail
        with_reducible refine (HCE.out _ _ _ X0.out X1.out).mono ?_
        rintro e w1 ⟨rfl, hb⟩
        go_wp2_with fail
        exact ⟨rfl, rfl, hJ.out.call (by rfl) hb (rfl)⟩
      simp only [Act.put, List.setIfInBounds_toArray, List.set_cons_zero, List.set_cons_succ, Nat.reduceAdd]
      refine Steps.held ?_ ?_
      · intro L v w' hJ
        have hv33 : v 33 = .int .i64 0 := hJ.out.fact 33 (by kernel_rfl)
        simp only [hv33]
        clear hv33
        have hv28 : v 28 = .bool true := hJ.out.fact 28 (by kernel_rfl)
        simp only [hv28]
        clear hv28
        go_wp2_with fail
        exact ⟨rfl, rfl, hJ.out.same (by rfl) (rfl)⟩
      simp only [Act.put, List.setIfInBounds_toArray, List.set_cons_zero, List.set_cons_succ, Nat.reduceAdd]
      refine Steps.held ?_ ?_
      · intro L v w' hJ
        have hv28 : v 28 = .bool true := hJ.out.fact 28 (by kernel_rfl)
        simp only [hv28]
        clear hv28
        have hv34 : v 34 = .bool true := hJ.out.fact 34 (by kernel_rfl)
        simp only [hv34]
        clear hv34
        go_wp2_with fail
        exact ⟨rfl, rfl, hJ.out.same (by rfl) (rfl)⟩
      simp only [Act.put, List.setIfInBounds_toArray, List.set_cons_zero, List.set_cons_succ, Nat.reduceAdd]
      refine Steps.held ?_ ?_
      · intro L v w' hJ
        have hv35 : v 35 = .bool true := hJ.out.fact 35 (by kernel_rfl)
        simp only [hv35]
        clear hv35
        go_wp2_with fail
        exact ⟨rfl, rfl, hJ.out.same (by rfl) (rfl)⟩
      simp only [Act.put, List.setIfInBounds_toArray, List.set_cons_zero, List.set_cons_succ, Nat.reduceAdd]
      refine Steps.held ?_ ?_
      · intro L v w' hJ
        have hv36 : v 36 = .bool true := hJ.out.fact 36 (by kernel_rfl)
        simp only [hv36]
        clear hv36
        have kb := hJ.out.blk E3.out (by simp [oldsOf])
        have k0 := kb.cell 0
        have k1 := kb.cell 1
        clear kb
        go_wp2_with fail
        exact ⟨rfl, rfl, hJ.out.same (by rfl) (NZ.out.keep hJ.out.held.keep)⟩
      simp only [Act.put, List.setIfInBounds_toArray, List.set_cons_zero, List.set_cons_succ, Nat.reduceAdd]
      refine Steps.held ?_ ?_
      · intro L v w' hJ
        have hv36 : v 36 = .bool true := hJ.out.fact 36 (by kernel_rfl)
        simp only [hv36]
        clear hv36
        have X0 := Lib.hid (show F64 w' (v 37) (0) (1) from hJ.out.fact 37 (by kernel_rfl))
        go_wp2_with fail
        with_reducible refine (HFL.out _ _ X0.out).mono ?_
        rintro e w1 ⟨u, rfl, hu, hb⟩
        go_wp2_with fail
        exact ⟨rfl, rfl, hJ.out.call (by rfl) hb (hu)⟩
      simp only [Act.put, List.setIfInBounds_toArray, List.set_cons_zero, List.set_cons_succ, Nat.reduceAdd]
      refine Steps.held ?_ ?_
      · intro L v w' hJ
        have hv36 : v 36 = .bool true := hJ.out.fact 36 (by kernel_rfl)
        simp only [hv36]
        clear hv36
        have X0 := Lib.hid (show N64 w' (v 38) (0) from hJ.out.fact 38 (by kernel_rfl))
        go_wp2_with fail
        with_reducible refine (HNZ.out _ _ X0.out).mono ?_
        rintro e w1 ⟨rfl, hb⟩
        go_wp2_with fail
        exact ⟨rfl, rfl, hJ.out.call (by rfl) hb (rfl)⟩
      simp only [Act.put, List.setIfInBounds_toArray, List.set_cons_zero, List.set_cons_succ, Nat.reduceAdd]
      refine Steps.held ?_ ?_
      · intro L v w' hJ
        have hv36 : v 36 = .bool true := hJ.out.fact 36 (by kernel_rfl)
        simp only [hv36]
        clear hv36
        have hv39 : v 39 = .bool true := hJ.out.fact 39 (by kernel_rfl)
        simp only [hv39]
        clear hv39
        go_wp2_with fail
        exact ⟨rfl, rfl, hJ.out.same (by rfl) (rfl)⟩
      simp only [Act.put, List.setIfInBounds_toArray, List.set_cons_zero, List.set_cons_succ, Nat.reduceAdd]
      refine Steps.held ?_ ?_
      · intro L v w' hJ
        have hv40 : v 40 = .bool true := hJ.out.fact 40 (by kernel_rfl)
        simp only [hv40]
        clear hv40
        go_wp2_with fail
        exact ⟨rfl, rfl, hJ.out.same (by rfl) (rfl)⟩
      simp only [Act.put, List.setIfInBounds_toArray, List.set_cons_zero, List.set_cons_succ, Nat.reduceAdd]
      refine Steps.held ?_ ?_
      · intro L v w' hJ
        have hv41 : v 41 = .bool true := hJ.out.fact 41 (by kernel_rfl)
        simp only [hv41]
        clear hv41
        go_wp2_with fail
        exact ⟨rfl, rfl, hJ.out.same (by rfl) (rfl)⟩
      simp only [Act.put, List.setIfInBounds_toArray, List.set_cons_zero, List.set_cons_succ, Nat.reduceAdd]
      refine Steps.held ?_ ?_
      · intro L v w' hJ
        have hv42 : v 42 = .int .i64 1 := hJ.out.fact 42 (by kernel_rfl)
        simp only [hv42]
        clear hv42
        have hv41 : v 41 = .bool true := hJ.out.fact 41 (by kernel_rfl)
        simp only [hv41]
        clear hv41
        go_wp2_with fail
        exact ⟨rfl, rfl, hJ.out.same (by rfl) (rfl)⟩
      simp only [Act.put, List.setIfInBounds_toArray, List.set_cons_zero, List.set_cons_succ, Nat.reduceAdd]
      refine Steps.held ?_ ?_
      · intro L v w' hJ
        have hv41 : v 41 = .bool true := hJ.out.fact 41 (by kernel_rfl)
        simp only [hv41]
        clear hv41
        have hv43 : v 43 = .bool true := hJ.out.fact 43 (by kernel_rfl)
        simp only [hv43]
        clear hv43
        go_wp2_with fail
        exact ⟨rfl, rfl, hJ.out.same (by rfl) (rfl)⟩
      simp only [Act.put, List.setIfInBounds_toArray, List.set_cons_zero, List.set_cons_succ, Nat.reduceAdd]
      refine Steps.held ?_ ?_
      · intro L v w' hJ
        have hv44 : v 44 = .bool true := hJ.out.fact 44 (by kernel_rfl)
        simp only [hv44]
        clear hv44
        go_wp2_with fail
        exact ⟨rfl, rfl, hJ.out.same (by rfl) (rfl)⟩
      simp only [Act.put, List.setIfInBounds_toArray, List.set_cons_zero, List.set_cons_succ, Nat.reduceAdd]
      refine Steps.held ?_ ?_
      · intro L v w' hJ
        have hv45 : v 45 = .bool true := hJ.out.fact 45 (by kernel_rfl)
        simp only [hv45]
        clear hv45
        have kb := hJ.out.blk E3.out (by simp [oldsOf])
        have k0 := kb.cell 0
        have k1 := kb.cell 1
        clear kb
        go_wp2_with fail
        exact ⟨rfl, rfl, hJ.out.same (by rfl) (NZ.out.keep hJ.out.held.keep)⟩
      simp only [Act.put, List.setIfInBounds_toArray, List.set_cons_zero, List.set_cons_succ, Nat.reduceAdd]
      refine Steps.held ?_ ?_
      · intro L v w' hJ
        have hv45 : v 45 = .bool true := hJ.out.fact 45 (by kernel_rfl)
        simp only [hv45]
        clear hv45
        have kb := hJ.out.blk E4.out (by simp [oldsOf])
        have k0 := kb.cell 0
        have k1 := kb.cell 1
        clear kb
        go_wp2_with fail
        exact ⟨rfl, rfl, hJ.out.same (by rfl) (NA.out.keep hJ.out.held.keep)⟩
      simp only [Act.put, List.setIfInBounds_toArray, List.set_cons_zero, List.set_cons_succ, Nat.reduceAdd]
      refine Steps.held ?_ ?_
      · intro L v w' hJ
        have hv45 : v 45 = .bool true := hJ.out.fact 45 (by kernel_rfl)
        simp only [hv45]
        clear hv45
        have X0 := Lib.hid (show F64 w' (v 46) (0) (1) from hJ.out.fact 46 (by kernel_rfl))
        have X1 := Lib.hid (show F64 w' (v 47) (a.1) (a.2) from hJ.out.fact 47 (by kernel_rfl))
        go_wp2_with fail
        with_reducible refine (HC0.out _ _ _ X0.out X1.out).mono ?_
        rintro e w1 ⟨rfl, hb⟩
        go_wp2_with fail
        exact ⟨rfl, rfl, hJ.out.call (by rfl) hb (rfl)⟩
      simp only [Act.put, List.setIfInBounds_toArray, List.set_cons_zero, List.set_cons_succ, Nat.reduceAdd]
      refine Steps.held ?_ ?_
      · intro L v w' hJ
        have hv48 : v 48 = .int .i64 0 := hJ.out.fact 48 (by kernel_rfl)
        simp only [hv48]
        clear hv48
        have hv45 : v 45 = .bool true := hJ.out.fact 45 (by kernel_rfl)
        simp only [hv45]
        clear hv45
        go_wp2_with fail
        exact ⟨rfl, rfl, hJ.out.same (by rfl) (rfl)⟩
      simp only [Act.put, List.setIfInBounds_toArray, List.set_cons_zero, List.set_cons_succ, Nat.reduceAdd]
      refine Steps.held ?_ ?_
      · intro L v w' hJ
        have hv45 : v 45 = .bool true := hJ.out.fact 45 (by kernel_rfl)
        simp only [hv45]
        clear hv45
        have kb := hJ.out.blk E4.out (by simp [oldsOf])
        have k0 := kb.cell 0
        have k1 := kb.cell 1
        clear kb
        go_wp2_with fail
        exact ⟨rfl, rfl, hJ.out.same (by rfl) (NA.out.keep hJ.out.held.keep)⟩
      simp only [Act.put, List.setIfInBounds_toArray, List.set_cons_zero, List.set_cons_succ, Nat.reduceAdd]
      refine Steps.held ?_ ?_
      · intro L v w' hJ
        have hv45 : v 45 = .bool true := hJ.out.fact 45 (by kernel_rfl)
        simp only [hv45]
        clear hv45
        have X0 := Lib.hid (show F64 w' (v 50) (a.1) (a.2) from hJ.out.fact 50 (by kernel_rfl))
        go_wp2_with fail
        with_reducible refine (HZA.out _ _ X0.out).mono ?_
        rintro e w1 ⟨rfl, hb⟩
        go_wp2_with fail
        exact ⟨rfl, rfl, hJ.out.call (by rfl) hb (rfl)⟩
      simp only [Act.put, List.setIfInBounds_toArray, List.set_cons_zero, List.set_cons_succ, Nat.reduceAdd]
      refine Steps.held ?_ ?_
      · intro L v w' hJ
        have hv49 : v 49 = .bool true := hJ.out.fact 49 (by kernel_rfl)
        simp only [hv49]
        clear hv49
        have hv51 : v 51 = .bool true := hJ.out.fact 51 (by kernel_rfl)
        simp only [hv51]
        clear hv51
        have hv45 : v 45 = .bool true := hJ.out.fact 45 (by kernel_rfl)
        simp only [hv45]
        clear hv45
        go_wp2_with fail
        exact ⟨rfl, rfl, hJ.out.same (by rfl) (rfl)⟩
      simp only [Act.put, List.setIfInBounds_toArray, List.set_cons_zero, List.set_cons_succ, Nat.reduceAdd]
      refine Steps.held ?_ ?_
      · intro L v w' hJ
        have hv45 : v 45 = .bool true := hJ.out.fact 45 (by kernel_rfl)
        simp only [hv45]
        clear hv45
        have hv52 : v 52 = .bool true := hJ.out.fact 52 (by kernel_rfl)
        simp only [hv52]
        clear hv52
        go_wp2_with fail
        exact ⟨rfl, rfl, hJ.out.same (by rfl) (rfl)⟩
      simp only [Act.put, List.setIfInBounds_toArray, List.set_cons_zero, List.set_cons_succ, Nat.reduceAdd]
      refine Steps.held ?_ ?_
      · intro L v w' hJ
        have hv53 : v 53 = .bool true := hJ.out.fact 53 (by kernel_rfl)
        simp only [hv53]
        clear hv53
        go_wp2_with fail
        exact ⟨rfl, rfl, hJ.out.same (by rfl) (rfl)⟩
      simp only [Act.put, List.setIfInBounds_toArray, List.set_cons_zero, List.set_cons_succ, Nat.reduceAdd]
      refine Steps.held ?_ ?_
      · intro L v w' hJ
        have hv54 : v 54 = .bool true := hJ.out.fact 54 (by kernel_rfl)
        simp only [hv54]
        clear hv54
        go_wp2_with fail
        with_reducible refine (HLV.out _).mono ?_
        rintro e w1 ⟨rfl, hb⟩
        go_wp2_with fail
        exact ⟨rfl, rfl, hJ.out.call (by rfl) hb (rfl)⟩
      simp only [Act.put, List.setIfInBounds_toArray, List.set_cons_zero, List.set_cons_succ, Nat.reduceAdd]
      refine Steps.held ?_ ?_
      · intro L v w' hJ
        have hv54 : v 54 = .bool true := hJ.out.fact 54 (by kernel_rfl)
        simp only [hv54]
        clear hv54
        have hv55 : v 55 = .bool true := hJ.out.fact 55 (by kernel_rfl)
        simp only [hv55]
        clear hv55
        go_wp2_with fail
        exact ⟨rfl, rfl, hJ.out.same (by rfl) (rfl)⟩
      simp only [Act.put, List.setIfInBounds_toArray, List.set_cons_zero, List.set_cons_succ, Nat.reduceAdd]
      refine Steps.held ?_ ?_
      · intro L v w' hJ
        have hv56 : v 56 = .bool true := hJ.out.fact 56 (by kernel_rfl)
        simp only [hv56]
        clear hv56
        go_wp2_with fail
        exact ⟨rfl, rfl, hJ.out.same (by rfl) (rfl)⟩
      simp only [Act.put, List.setIfInBounds_toArray, List.set_cons_zero, List.set_cons_succ, Nat.reduceAdd]
      refine Steps.nil ?_
      intro v w' hJ
      have h57 : v 57 = .bool true := hJ.end_fact 57 (by decide)
      have HF := Lib.hid (cbt HB0.out hJ.but.below)
      clear hJ
      simp only [h57]
      clear h57
      go_wp2_with fail
      go_ret
      exact ⟨rfl, HF.out⟩
    · have hc : cmpN ((0, 1).1 * a.2) (a.1 * (0, 1).2) = -1 := cmpN_lt (by simp only [Nat.zero_mul, Nat.mul_one]; omega)
      have HZA := Lib.hid (fun v W h => rzero_no v a.1 a.2 W h (Nat.pos_of_ne_zero ha0))
      rw [hc] at HC0
      generalize mulR (0, 1) a = p at *
      generalize lessR (0, 1) a = l at *
      clear rx sx sa' s0' hz0 hl0 sp sl ylx ymx hxx hyx ha0 hc hea
      have e0 := Blk.new (w) 45 #[(.slice Ux nx cx), (.slice Vx kx dx)]
      have hb := cba (Below.refl _ w) (.cells #[(.slice Ux nx cx), (.slice Vx kx dx)] 45)
      have hsz : w.heap.size ≤ w.heap.size := Nat.le_refl _
      go_enter Try.func15, Try.ntmps15
      go_upto_region 1 with (fail)
      obtain ⟨S, hS⟩ : ∃ S, (w).alloc (.cells #[(.slice Ux nx cx), (.slice Vx kx dx)] 45) = S := ⟨_, rfl⟩
      rw [hS] at e0 hb ⊢
      replace Hx := Lib.hid (Hx.out.below hb)
      have HB0 := Lib.hid hb
      have E0 := Lib.hid e0
      clear hS hb hsz e0
      have k_E0_0 := E0.out.cell 0
      have k_E0_1 := E0.out.cell 1
      go_wp2_with fail
      with_reducible refine (HSx.out _ _ Hx.out).mono ?_
      rintro e w1 ⟨rfl, hb⟩
      clear k_E0_0 k_E0_1
      replace Hx := Lib.hid (Hx.out.below hb)
      replace E0 := Lib.hid (blk_below E0.out hb)
      replace HB0 := Lib.hid (cbt HB0.out hb)
      clear hb
      have k_E0_0 := E0.out.cell 0
      have k_E0_1 := E0.out.cell 1
      have e3 := Blk.new w1 47 #[.slice none 0 0, .slice none 0 0]
      have hb := cba (Below.refl _ w1) (.cells #[.slice none 0 0, .slice none 0 0] 47)
      go_upto_region 4 with (fail)
      obtain ⟨S3, hS⟩ : ∃ S, w1.alloc (.cells #[.slice none 0 0, .slice none 0 0] 47) = S := ⟨_, rfl⟩
      rw [hS] at e3 hb ⊢
      obtain ⟨g3, hg⟩ : ∃ g, w1.heap.size = g := ⟨_, rfl⟩
      rw [hg] at e3
      simp only [hg]
      replace Hx := Lib.hid (Hx.out.below hb)
      replace E0 := Lib.hid (blk_below E0.out hb)
      replace HB0 := Lib.hid (cbt HB0.out hb)
      have E3 := Lib.hid e3
      clear hS hg hb e3 k_E0_0 k_E0_1
      have k_E0_0 := E0.out.cell 0
      have k_E0_1 := E0.out.cell 1
      have k_E3_0 := E3.out.cell 0
      have k_E3_1 := E3.out.cell 1
      go_wp2_with fail
      with_reducible refine (HTa.out _ _ Hx.out).mono ?_
      rintro e w4 ⟨u4, rfl, hu, hb⟩
      clear k_E0_0 k_E0_1 k_E3_0 k_E3_1
      replace Hx := Lib.hid (Hx.out.below hb)
      replace E0 := Lib.hid (blk_below E0.out hb)
      replace E3 := Lib.hid (blk_below E3.out hb)
      replace HB0 := Lib.hid (cbt HB0.out hb)
      have NA := Lib.hid hu
      clear hb hu
      have k_E0_0 := E0.out.cell 0
      have k_E0_1 := E0.out.cell 1
      have k_E3_0 := E3.out.cell 0
      have k_E3_1 := E3.out.cell 1
      have Z0 := NA.out
      obtain ⟨AT0, pT0, cT0, BT0, qT0, eT0, xT0, rfl, _, _, _⟩ := Z0
      have e4 := Blk.new w4 47 #[.slice AT0 pT0 cT0, .slice BT0 qT0 eT0]
      have hb := cba (Below.refl _ w4) (.cells #[.slice AT0 pT0 cT0, .slice BT0 qT0 eT0] 47)
      go_upto_region 5 with (fail)
      obtain ⟨T, hS⟩ : ∃ S, (w4.alloc (.cells #[.slice AT0 pT0 cT0, .slice BT0 qT0 eT0] 47)) = S := ⟨_, rfl⟩
      rw [hS] at e4 hb ⊢
      obtain ⟨g4, hg⟩ : ∃ g, w4.heap.size = g := ⟨_, rfl⟩
      rw [hg] at e4
      simp only [hg]
      replace NA := Lib.hid (NA.out.below hb)
      replace E3 := Lib.hid (blk_below E3.out hb)
      replace HB0 := Lib.hid (cbt HB0.out hb)
      have E4 := Lib.hid e4
      clear hS hg hb e4 k_E0_0 k_E0_1 k_E3_0 k_E3_1
      have k_E3_0 := E3.out.cell 0
      have k_E3_1 := E3.out.cell 1
      have k_E4_0 := E4.out.cell 0
      have k_E4_1 := E4.out.cell 1
      go_wp2_with fail
      with_reducible refine (HDN.out _ _ _ NA.out F64.none).mono ?_
      rintro e w5 ⟨u5, rfl, hu, hb⟩
      clear k_E3_0 k_E3_1 k_E4_0 k_E4_1
      replace NA := Lib.hid (NA.out.below hb)
      replace E3 := Lib.hid (blk_below E3.out hb)
      replace E4 := Lib.hid (blk_below E4.out hb)
      replace HB0 := Lib.hid (cbt HB0.out hb)
      have NZ5 := Lib.hid hu
      clear hb hu
      have k_E3_0 := E3.out.cell 0
      have k_E3_1 := E3.out.cell 1
      have k_E4_0 := E4.out.cell 0
      have k_E4_1 := E4.out.cell 1
      have Z0 := NZ5.out
      obtain ⟨AU0, pU0, cU0, BU0, qU0, eU0, xU0, rfl, _, _, _⟩ := Z0
      have e5 := Blk.new w5 47 #[.slice AU0 pU0 cU0, .slice BU0 qU0 eU0]
      have hb := cba (Below.refl _ w5) (.cells #[.slice AU0 pU0 cU0, .slice BU0 qU0 eU0] 47)
      go_upto_region 6 with (fail)
      obtain ⟨U, hS⟩ : ∃ S, (w5.alloc (.cells #[.slice AU0 pU0 cU0, .slice BU0 qU0 eU0] 47)) = S := ⟨_, rfl⟩
      rw [hS] at e5 hb ⊢
      obtain ⟨g5, hg⟩ : ∃ g, w5.heap.size = g := ⟨_, rfl⟩
      rw [hg] at e5
      simp only [hg]
      replace NA := Lib.hid (NA.out.below hb)
      replace E3 := Lib.hid (blk_below E3.out hb)
      replace E4 := Lib.hid (blk_below E4.out hb)
      replace HB0 := Lib.hid (cbt HB0.out hb)
      have E5 := Lib.hid e5
      clear hS hg hb e5 k_E3_0 k_E3_1 k_E4_0 k_E4_1
      have NZ := Lib.hid (F64.none (w := U))
      let FS : List Kept1 := [.f (0) (1), .eq (.bool true), .eq (.bool true), .f (0) (1), .eq (.string ⟨#[48, 47, 49]⟩), .eq (.bool true), .eq (.bool true), .eq (.bool true), .f (a.1) (a.2), .f (0) (1), .rats 2 (ofL [a, (0, 1)]), .f (a.1) (a.2), .f (a.1) (a.2), .eq (.int .i64 0), .eq (.bool true), .eq (.bool true), .eq (.bool true), .f (0) (1), .f (a.1) (a.2), .f (p.1) (p.2), .eq (.bool true), .eq (.bool true), .eq (.bool true), .f (0) (1), .f (a.1) (a.2), .f (l.1) (l.2), .eq (.bool true), .eq (.bool true), .eq (.bool true), .f (a.1) (a.2), .f (0) (1), .f (a.1) (a.2), .f (a.1) (a.2), .eq (.int .i64 0), .eq (.bool true), .eq (.bool true), .eq (.bool true), .f (0) (1), .n (0), .eq (.bool true), .eq (.bool true), .eq (.bool true), .eq (.int .i64 1), .eq (.bool true), .eq (.bool true), .eq (.bool true), .f (0) (1), .f (a.1) (a.2), .eq (.int .i64 (-1)), .eq (.bool false), .f (a.1) (a.2), .eq (.bool false), .eq (.bool true), .eq (.bool true), .eq (.bool true), .eq (.bool true), .eq (.bool true), .eq (.bool true)]
      refine region_mono (Held U (fun j => FS.getD j .any) []) (by kernel_rfl) (by kernel_rfl) (by kernel_rfl) (Held.start _ _ _ (by simp) (by simp)) ?_
      refine Steps.held ?_ ?_
      · intro L v w' hJ
        have kb := hJ.out.blk E3.out (by simp [oldsOf])
        have k0 := kb.cell 0
        have k1 := kb.cell 1
        clear kb
        go_wp2_with fail
        exact ⟨rfl, rfl, hJ.out.same (by rfl) (NZ.out.keep hJ.out.held.keep)⟩
      simp only [Act.put, List.setIfInBounds_toArray, List.set_cons_zero, List.set_cons_succ, Nat.reduceAdd]
      refine Steps.held ?_ ?_
      · intro L v w' hJ
        have X0 := Lib.hid (show F64 w' (v 0) (0) (1) from hJ.out.fact 0 (by kernel_rfl))
        go_wp2_with fail
        with_reducible refine (HZ0.out _ _ X0.out).mono ?_
        rintro e w1 ⟨rfl, hb⟩
        go_wp2_with fail
        exact ⟨rfl, rfl, hJ.out.call (by rfl) hb (rfl)⟩
      simp only [Act.put, List.setIfInBounds_toArray, List.set_cons_zero, List.set_cons_succ, Nat.reduceAdd]
      refine Steps.held ?_ ?_
      · intro L v w' hJ
        have hv1 : v 1 = .bool true := hJ.out.fact 1 (by kernel_rfl)
        simp only [hv1]
        clear hv1
        go_wp2_with fail
        exact ⟨rfl, rfl, hJ.out.same (by rfl) (rfl)⟩
      simp only [Act.put, List.setIfInBounds_toArray, List.set_cons_zero, List.set_cons_succ, Nat.reduceAdd]
      refine Steps.held ?_ ?_
      · intro L v w' hJ
        have hv2 : v 2 = .bool true := hJ.out.fact 2 (by kernel_rfl)
        simp only [hv2]
        clear hv2
        have kb := hJ.out.blk E3.out (by simp [oldsOf])
        have k0 := kb.cell 0
        have k1 := kb.cell 1
        clear kb
        go_wp2_with fail
        exact ⟨rfl, rfl, hJ.out.same (by rfl) (NZ.out.keep hJ.out.held.keep)⟩
      simp only [Act.put, List.setIfInBounds_toArray, List.set_cons_zero, List.set_cons_succ, Nat.reduceAdd]
      refine Steps.held ?_ ?_
      · intro L v w' hJ
        have hv2 : v 2 = .bool true := hJ.out.fact 2 (by kernel_rfl)
        simp only [hv2]
        clear hv2
        have X0 := Lib.hid (show F64 w' (v 3) (0) (1) from hJ.out.fact 3 (by kernel_rfl))
        go_wp2_with fail
        with_reducible refine (HTX.out _ _ X0.out).mono ?_
        rintro e w1 ⟨rfl, hb⟩
        go_wp2_with fail
        exact ⟨rfl, rfl, hJ.out.call (by rfl) hb (rfl)⟩
      simp only [Act.put, List.setIfInBounds_toArray, List.set_cons_zero, List.set_cons_succ, Nat.reduceAdd]
      refine Steps.held ?_ ?_
      · intro L v w' hJ
        have hv4 : v 4 = .string ⟨#[48, 47, 49]⟩ := hJ.out.fact 4 (by kernel_rfl)
        simp only [hv4]
        clear hv4
        have hv2 : v 2 = .bool true := hJ.out.fact 2 (by kernel_rfl)
        simp only [hv2]
        clear hv2
        go_wp2_with fail
        exact ⟨rfl, rfl, hJ.out.same (by rfl) (rfl)⟩
      simp only [Act.put, List.setIfInBounds_toArray, List.set_cons_zero, List.set_cons_succ, Nat.reduceAdd]
      refine Steps.held ?_ ?_
      · intro L v w' hJ
        have hv2 : v 2 = .bool true := hJ.out.fact 2 (by kernel_rfl)
        simp only [hv2]
        clear hv2
        have hv5 : v 5 = .bool true := hJ.out.fact 5 (by kernel_rfl)
        simp only [hv5]
        clear hv5
        go_wp2_with fail
        exact ⟨rfl, rfl, hJ.out.same (by rfl) (rfl)⟩
      simp only [Act.put, List.setIfInBounds_toArray, List.set_cons_zero, List.set_cons_succ, Nat.reduceAdd]
      refine Steps.held ?_ ?_
      · intro L v w' hJ
        have hv6 : v 6 = .bool true := hJ.out.fact 6 (by kernel_rfl)
        simp only [hv6]
        clear hv6
        go_wp2_with fail
        exact ⟨rfl, rfl, hJ.out.same (by rfl) (rfl)⟩
      simp only [Act.put, List.setIfInBounds_toArray, List.set_cons_zero, List.set_cons_succ, Nat.reduceAdd]
      refine Steps.held ?_ ?_
      · intro L v w' hJ
        have hv7 : v 7 = .bool true := hJ.out.fact 7 (by kernel_rfl)
        simp only [hv7]
        clear hv7
        have kb := hJ.out.blk E4.out (by simp [oldsOf])
        have k0 := kb.cell 0
        have k1 := kb.cell 1
        clear kb
        go_wp2_with fail
        exact ⟨rfl, rfl, hJ.out.same (by rfl) (NA.out.keep hJ.out.held.keep)⟩
      simp only [Act.put, List.setIfInBounds_toArray, List.set_cons_zero, List.set_cons_succ, Nat.reduceAdd]
      refine Steps.held ?_ ?_
      · intro L v w' hJ
        have hv7 : v 7 = .bool true := hJ.out.fact 7 (by kernel_rfl)
        simp only [hv7]
        clear hv7
        have kb := hJ.out.blk E3.out (by simp [oldsOf])
        have k0 := kb.cell 0
        have k1 := kb.cell 1
        clear kb
        go_wp2_with fail
        exact ⟨rfl, rfl, hJ.out.same (by rfl) (NZ.out.keep hJ.out.held.keep)⟩
      simp only [Act.put, List.setIfInBounds_toArray, List.set_cons_zero, List.set_cons_succ, Nat.reduceAdd]
      refine Steps.held ?_ ?_
      · intro L v w' hJ
        have hv7 : v 7 = .bool true := hJ.out.fact 7 (by kernel_rfl)
        simp only [hv7]
        clear hv7
        have hN0 : F64 w' (v 8) (a.1) (a.2) := hJ.out.fact 8 (by kernel_rfl)
        obtain ⟨A0, p0, c0, B0, q0, e0, x0, hv0, h1, h2, h3⟩ := hN0
        have HN0 := Lib.hid (show F64 w' (.agg #[.slice A0 p0 c0, .slice B0 q0 e0]) (a.1) (a.2) from ⟨A0, p0, c0, B0, q0, e0, x0, rfl, h1, h2, h3⟩)
        clear h1 h2 h3
        have hN1 : F64 w' (v 9) (0) (1) := hJ.out.fact 9 (by kernel_rfl)
        obtain ⟨A1, p1, c1, B1, q1, e1, x1, hv1, h1, h2, h3⟩ := hN1
        have HN1 := Lib.hid (show F64 w' (.agg #[.slice A1 p1 c1, .slice B1 q1 e1]) (0) (1) from ⟨A1, p1, c1, B1, q1, e1, x1, rfl, h1, h2, h3⟩)
        clear h1 h2 h3
        simp only [hv0, hv1]
        clear hv0 hv1
        go_wp2_with fail
        exact ⟨rfl, rfl, hJ.out.call (by rfl) (cba (Below.refl _ w') _) (RowF.two (Blk.new w' 47 #[.slice A0 p0 c0, .slice B0 q0 e0, .slice A1 p1 c1, .slice B1 q1 e1]) (HN0.out.below (cba (Below.refl _ w') _)) (HN1.out.below (cba (Below.refl _ w') _)))⟩
      simp only [Act.put, List.setIfInBounds_toArray, List.set_cons_zero, List.set_cons_succ, Nat.reduceAdd]
      refine Steps.held ?_ ?_
      · intro L v w' hJ
        have hv7 : v 7 = .bool true := hJ.out.fact 7 (by kernel_rfl)
        simp only [hv7]
        clear hv7
        have X0 := Lib.hid (show RowF w' (v 10) 2 (ofL [a, (0, 1)]) from hJ.out.fact 10 (by kernel_rfl))
        go_wp2_with fail
        with_reducible refine (HAD.out _ _ X0.out).mono ?_
        rintro e w1 ⟨u, rfl, hu, hb⟩
        go_wp2_with fail
        exact ⟨rfl, rfl, hJ.out.call (by rfl) hb (hu)⟩
      simp only [Act.put, List.setIfInBounds_toArray, List.set_cons_zero, List.set_cons_succ, Nat.reduceAdd]
      refine Steps.held ?_ ?_
      · intro L v w' hJ
        have hv7 : v 7 = .bool true := hJ.out.fact 7 (by kernel_rfl)
        simp only [hv7]
        clear hv7
        have kb := hJ.out.blk E4.out (by simp [oldsOf])
        have k0 := kb.cell 0
        have k1 := kb.cell 1
        clear kb
        go_wp2_with fail
        exact ⟨rfl, rfl, hJ.out.same (by rfl) (NA.out.keep hJ.out.held.keep)⟩
      simp only [Act.put, List.setIfInBounds_toArray, List.set_cons_zero, List.set_cons_succ, Nat.reduceAdd]
      refine Steps.held ?_ ?_
      · intro L v w' hJ
        have hv7 : v 7 = .bool true := hJ.out.fact 7 (by kernel_rfl)
        simp only [hv7]
        clear hv7
        have X0 := Lib.hid (show F64 w' (v 11) (a.1) (a.2) from hJ.out.fact 11 (by kernel_rfl))
        have X1 := Lib.hid (show F64 w' (v 12) (a.1) (a.2) from hJ.out.fact 12 (by kernel_rfl))
        go_wp2_with fail
        with_reducible refine (HCE.out _ _ _ X0.out X1.out).mono ?_
        rintro e w1 ⟨rfl, hb⟩
        go_wp2_with fail
        exact ⟨rfl, rfl, hJ.out.call (by rfl) hb (rfl)⟩
      simp only [Act.put, List.setIfInBounds_toArray, List.set_cons_zero, List.set_cons_succ, Nat.reduceAdd]
      refine Steps.held ?_ ?_
      · intro L v w' hJ
        have hv13 : v 13 = .int .i64 0 := hJ.out.fact 13 (by kernel_rfl)
        simp only [hv13]
        clear hv13
        have hv7 : v 7 = .bool true := hJ.out.fact 7 (by kernel_rfl)
        simp only [hv7]
        clear hv7
        go_wp2_with fail
        exact ⟨rfl, rfl, hJ.out.same (by rfl) (rfl)⟩
      simp only [Act.put, List.setIfInBounds_toArray, List.set_cons_zero, List.set_cons_succ, Nat.reduceAdd]
      refine Steps.held ?_ ?_
      · intro L v w' hJ
        have hv7 : v 7 = .bool true := hJ.out.fact 7 (by kernel_rfl)
        simp only [hv7]
        clear hv7
        have hv14 : v 14 = .bool true := hJ.out.fact 14 (by kernel_rfl)
        simp only [hv14]
        clear hv14
        go_wp2_with fail
        exact ⟨rfl, rfl, hJ.out.same (by rfl) (rfl)⟩
      simp only [Act.put, List.setIfInBounds_toArray, List.set_cons_zero, List.set_cons_succ, Nat.reduceAdd]
      refine Steps.held ?_ ?_
      · intro L v w' hJ
        have hv15 : v 15 = .bool true := hJ.out.fact 15 (by kernel_rfl)
        simp only [hv15]
        clear hv15
        go_wp2_with fail
        exact ⟨rfl, rfl, hJ.out.same (by rfl) (rfl)⟩
      simp only [Act.put, List.setIfInBounds_toArray, List.set_cons_zero, List.set_cons_succ, Nat.reduceAdd]
      refine Steps.held ?_ ?_
      · intro L v w' hJ
        have hv16 : v 16 = .bool true := hJ.out.fact 16 (by kernel_rfl)
        simp only [hv16]
        clear hv16
        have kb := hJ.out.blk E3.out (by simp [oldsOf])
        have k0 := kb.cell 0
        have k1 := kb.cell 1
        clear kb
        go_wp2_with fail
        exact ⟨rfl, rfl, hJ.out.same (by rfl) (NZ.out.keep hJ.out.held.keep)⟩
      simp only [Act.put, List.setIfInBounds_toArray, List.set_cons_zero, List.set_cons_succ, Nat.reduceAdd]
      refine Steps.held ?_ ?_
      · intro L v w' hJ
        have hv16 : v 16 = .bool true := hJ.out.fact 16 (by kernel_rfl)
        simp only [hv16]
        clear hv16
        have kb := hJ.out.blk E4.out (by simp [oldsOf])
        have k0 := kb.cell 0
        have k1 := kb.cell 1
        clear kb
        go_wp2_with fail
        exact ⟨rfl, rfl, hJ.out.same (by rfl) (NA.out.keep hJ.out.held.keep)⟩
      simp only [Act.put, List.setIfInBounds_toArray, List.set_cons_zero, List.set_cons_succ, Nat.reduceAdd]
      refine Steps.held ?_ ?_
      · intro L v w' hJ
        have hv16 : v 16 = .bool true := hJ.out.fact 16 (by kernel_rfl)
        simp only [hv16]
        clear hv16
        have X0 := Lib.hid (show F64 w' (v 17) (0) (1) from hJ.out.fact 17 (by kernel_rfl))
        have X1 := Lib.hid (show F64 w' (v 18) (a.1) (a.2) from hJ.out.fact 18 (by kernel_rfl))
        go_wp2_with fail
        with_reducible refine (HMU.out _ _ _ X0.out X1.out).mono ?_
        rintro e w1 ⟨u, rfl, hu, hb⟩
        go_wp2_with fail
        exact ⟨rfl, rfl, hJ.out.call (by rfl) hb (hu)⟩
      simp only [Act.put, List.setIfInBounds_toArray, List.set_cons_zero, List.set_cons_succ, Nat.reduceAdd]
      refine Steps.held ?_ ?_
      · intro L v w' hJ
        have hv16 : v 16 = .bool true := hJ.out.fact 16 (by kernel_rfl)
        simp only [hv16]
        clear hv16
        have X0 := Lib.hid (show F64 w' (v 19) (p.1) (p.2) from hJ.out.fact 19 (by kernel_rfl))
        go_wp2_with fail
        with_reducible refine (HZM.out _ _ X0.out).mono ?_
        rintro e w1 ⟨rfl, hb⟩
        go_wp2_with fail
        exact ⟨rfl, rfl, hJ.out.call (by rfl) hb (rfl)⟩
      simp only [Act.put, List.setIfInBounds_toArray, List.set_cons_zero, List.set_cons_succ, Nat.reduceAdd]
      refine Steps.held ?_ ?_
      · intro L v w' hJ
        have hv16 : v 16 = .bool true := hJ.out.fact 16 (by kernel_rfl)
        simp only [hv16]
        clear hv16
        have hv20 : v 20 = .bool true := hJ.out.fact 20 (by kernel_rfl)
        simp only [hv20]
        clear hv20
        go_wp2_with fail
        exact ⟨rfl, rfl, hJ.out.same (by rfl) (rfl)⟩
      simp only [Act.put, List.setIfInBounds_toArray, List.set_cons_zero, List.set_cons_succ, Nat.reduceAdd]
      refine Steps.held ?_ ?_
      · intro L v w' hJ
        have hv21 : v 21 = .bool true := hJ.out.fact 21 (by kernel_rfl)
        simp only [hv21]
        clear hv21
        go_wp2_with fail
        exact ⟨rfl, rfl, hJ.out.same (by rfl) (rfl)⟩
      simp only [Act.put, List.setIfInBounds_toArray, List.set_cons_zero, List.set_cons_succ, Nat.reduceAdd]
      refine Steps.held ?_ ?_
      · intro L v w' hJ
        have hv22 : v 22 = .bool true := hJ.out.fact 22 (by kernel_rfl)
        simp only [hv22]
        clear hv22
        have kb := hJ.out.blk E3.out (by simp [oldsOf])
        have k0 := kb.cell 0
        have k1 := kb.cell 1
        clear kb
        go_wp2_with fail
        exact ⟨rfl, rfl, hJ.out.same (by rfl) (NZ.out.keep hJ.out.held.keep)⟩
      simp only [Act.put, List.setIfInBounds_toArray, List.set_cons_zero, List.set_cons_succ, Nat.reduceAdd]
      refine Steps.held ?_ ?_
      · intro L v w' hJ
        have hv22 : v 22 = .bool true := hJ.out.fact 22 (by kernel_rfl)
        simp only [hv22]
        clear hv22
        have kb := hJ.out.blk E4.out (by simp [oldsOf])
        have k0 := kb.cell 0
        have k1 := kb.cell 1
        clear kb
        go_wp2_with fail
        exact ⟨rfl, rfl, hJ.out.same (by rfl) (NA.out.keep hJ.out.held.keep)⟩
      simp only [Act.put, List.setIfInBounds_toArray, List.set_cons_zero, List.set_cons_succ, Nat.reduceAdd]
      refine Steps.held ?_ ?_
      · intro L v w' hJ
        have hv22 : v 22 = .bool true := hJ.out.fact 22 (by kernel_rfl)
        simp only [hv22]
        clear hv22
        have X0 := Lib.hid (show F64 w' (v 23) (0) (1) from hJ.out.fact 23 (by kernel_rfl))
        have X1 := Lib.hid (show F64 w' (v 24) (a.1) (a.2) from hJ.out.fact 24 (by kernel_rfl))
        go_wp2_with fail
        with_reducible refine (HLE.out _ _ _ X0.out X1.out).mono ?_
        rintro e w1 ⟨u, rfl, hu, hb⟩
        go_wp2_with fail
        exact ⟨rfl, rfl, hJ.out.call (by rfl) hb (hu)⟩
      simp only [Act.put, List.setIfInBounds_toArray, List.set_cons_zero, List.set_cons_succ, Nat.reduceAdd]
      refine Steps.held ?_ ?_
      · intro L v w' hJ
        have hv22 : v 22 = .bool true := hJ.out.fact 22 (by kernel_rfl)
        simp only [hv22]
        clear hv22
        have X0 := Lib.hid (show F64 w' (v 25) (l.1) (l.2) from hJ.out.fact 25 (by kernel_rfl))
        go_wp2_with fail
        with_reducible refine (HZL.out _ _ X0.out).mono ?_
        rintro e w1 ⟨rfl, hb⟩
        go_wp2_with fail
        exact ⟨rfl, rfl, hJ.out.call (by rfl) hb (rfl)⟩
      simp only [Act.put, List.setIfInBounds_toArray, List.set_cons_zero, List.set_cons_succ, Nat.reduceAdd]
      refine Steps.held ?_ ?_
      · intro L v w' hJ
        have hv22 : v 22 = .bool true := hJ.out.fact 22 (by kernel_rfl)
        simp only [hv22]
        clear hv22
        have hv26 : v 26 = .bool true := hJ.out.fact 26 (by kernel_rfl)
        simp only [hv26]
        clear hv26
        go_wp2_with fail
        exact ⟨rfl, rfl, hJ.out.same (by rfl) (rfl)⟩
      simp only [Act.put, List.setIfInBounds_toArray, List.set_cons_zero, List.set_cons_succ, Nat.reduceAdd]
      refine Steps.held ?_ ?_
      · intro L v w' hJ
        have hv27 : v 27 = .bool true := hJ.out.fact 27 (by kernel_rfl)
        simp only [hv27]
        clear hv27
        go_wp2_with fail
        exact ⟨rfl, rfl, hJ.out.same (by rfl) (rfl)⟩
      simp only [Act.put, List.setIfInBounds_toArray, List.set_cons_zero, List.set_cons_succ, Nat.reduceAdd]
      refine Steps.held ?_ ?_
      · intro L v w' hJ
        have hv28 : v 28 = .bool true := hJ.out.fact 28 (by kernel_rfl)
        simp only [hv28]
        clear hv28
        have kb := hJ.out.blk E4.out (by simp [oldsOf])
        have k0 := kb.cell 0
        have k1 := kb.cell 1
        clear kb
        go_wp2_with fail
        exact ⟨rfl, rfl, hJ.out.same (by rfl) (NA.out.keep hJ.out.held.keep)⟩
      simp only [Act.put, List.setIfInBounds_toArray, List.set_cons_zero, List.set_cons_succ, Nat.reduceAdd]
      refine Steps.held ?_ ?_
      · intro L v w' hJ
        have hv28 : v 28 = .bool true := hJ.out.fact 28 (by kernel_rfl)
        simp only [hv28]
        clear hv28
        have kb := hJ.out.blk E3.out (by simp [oldsOf])
        have k0 := kb.cell 0
        have k1 := kb.cell 1
        clear kb
        go_wp2_with fail
        exact ⟨rfl, rfl, hJ.out.same (by rfl) (NZ.out.keep hJ.out.held.keep)⟩
      simp only [Act.put, List.setIfInBounds_toArray, List.set_cons_zero, List.set_cons_succ, Nat.reduceAdd]
      refine Steps.held ?_ ?_
      · intro L v w' hJ
        have hv28 : v 28 = .bool true := hJ.out.fact 28 (by kernel_rfl)
        simp only [hv28]
        clear hv28
        have X0 := Lib.hid (show F64 w' (v 29) (a.1) (a.2) from hJ.out.fact 29 (by kernel_rfl))
        have X1 := Lib.hid (show F64 w' (v 30) (0) (1) from hJ.out.fact 30 (by kernel_rfl))
        go_wp2_with fail
        with_reducible refine (HL2.out _ _ _ X0.out X1.out).mono ?_
        rintro e w1 ⟨u, rfl, hu, hb⟩
        go_wp2_with fail
        exact ⟨rfl, rfl, hJ.out.call (by rfl) hb (hu)⟩
      simp only [Act.put, List.setIfInBounds_toArray, List.set_cons_zero, List.set_cons_succ, Nat.reduceAdd]
      refine Steps.held ?_ ?_
      · intro L v w' hJ
        have hv28 : v 28 = .bool true := hJ.out.fact 28 (by kernel_rfl)
        simp only [hv28]
        clear hv28
        have kb := hJ.out.blk E4.out (by simp [oldsOf])
        have k0 := kb.cell 0
        have k1 := kb.cell 1
        clear kb
        go_wp2_with fail
        exact ⟨rfl, rfl, hJ.out.same (by rfl) (NA.out.keep hJ.out.held.keep)⟩
      simp only [Act.put, List.setIfInBounds_toArray, List.set_cons_zero, List.set_cons_succ, Nat.reduceAdd]
      refine Steps.held ?_ ?_
      · intro L v w' hJ
        have hv28 : v 28 = .bool true := hJ.out.fact 28 (by kernel_rfl)
        simp only [hv28]
        clear hv28
        have X0 := Lib.hid (show F64 w' (v 31) (a.1) (a.2) from hJ.out.fact 31 (by kernel_rfl))
        have X1 := Lib.hid (show F64 w' (v 32) (a.1) (a.2) from hJ.out.fact 32 (by kernel_rfl))
        go_wp2_with fail
        with_reducible refine (HCE.out _ _ _ X0.out X1.out).mono ?_
        rintro e w1 ⟨rfl, hb⟩
        go_wp2_with fail
        exact ⟨rfl, rfl, hJ.out.call (by rfl) hb (rfl)⟩
      simp only [Act.put, List.setIfInBounds_toArray, List.set_cons_zero, List.set_cons_succ, Nat.reduceAdd]
      refine Steps.held ?_ ?_
      · intro L v w' hJ
        have hv33 : v 33 = .int .i64 0 := hJ.out.fact 33 (by kernel_rfl)
        simp only [hv33]
        clear hv33
        have hv28 : v 28 = .bool true := hJ.out.fact 28 (by kernel_rfl)
        simp only [hv28]
        clear hv28
        go_wp2_with fail
        exact ⟨rfl, rfl, hJ.out.same (by rfl) (rfl)⟩
      simp only [Act.put, List.setIfInBounds_toArray, List.set_cons_zero, List.set_cons_succ, Nat.reduceAdd]
      refine Steps.held ?_ ?_
      · intro L v w' hJ
        have hv28 : v 28 = .bool true := hJ.out.fact 28 (by kernel_rfl)
        simp only [hv28]
        clear hv28
        have hv34 : v 34 = .bool true := hJ.out.fact 34 (by kernel_rfl)
        simp only [hv34]
        clear hv34
        go_wp2_with fail
        exact ⟨rfl, rfl, hJ.out.same (by rfl) (rfl)⟩
      simp only [Act.put, List.setIfInBounds_toArray, List.set_cons_zero, List.set_cons_succ, Nat.reduceAdd]
      refine Steps.held ?_ ?_
      · intro L v w' hJ
        have hv35 : v 35 = .bool true := hJ.out.fact 35 (by kernel_rfl)
        simp only [hv35]
        clear hv35
        go_wp2_with fail
        exact ⟨rfl, rfl, hJ.out.same (by rfl) (rfl)⟩
      simp only [Act.put, List.setIfInBounds_toArray, List.set_cons_zero, List.set_cons_succ, Nat.reduceAdd]
      refine Steps.held ?_ ?_
      · intro L v w' hJ
        have hv36 : v 36 = .bool true := hJ.out.fact 36 (by kernel_rfl)
        simp only [hv36]
        clear hv36
        have kb := hJ.out.blk E3.out (by simp [oldsOf])
        have k0 := kb.cell 0
        have k1 := kb.cell 1
        clear kb
        go_wp2_with fail
        exact ⟨rfl, rfl, hJ.out.same (by rfl) (NZ.out.keep hJ.out.held.keep)⟩
      simp only [Act.put, List.setIfInBounds_toArray, List.set_cons_zero, List.set_cons_succ, Nat.reduceAdd]
      refine Steps.held ?_ ?_
      · intro L v w' hJ
        have hv36 : v 36 = .bool true := hJ.out.fact 36 (by kernel_rfl)
        simp only [hv36]
        clear hv36
        have X0 := Lib.hid (show F64 w' (v 37) (0) (1) from hJ.out.fact 37 (by kernel_rfl))
        go_wp2_with fail
        with_reducible refine (HFL.out _ _ X0.out).mono ?_
        rintro e w1 ⟨u, rfl, hu, hb⟩
        go_wp2_with fail
        exact ⟨rfl, rfl, hJ.out.call (by rfl) hb (hu)⟩
      simp only [Act.put, List.setIfInBounds_toArray, List.set_cons_zero, List.set_cons_succ, Nat.reduceAdd]
      refine Steps.held ?_ ?_
      · intro L v w' hJ
        have hv36 : v 36 = .bool true := hJ.out.fact 36 (by kernel_rfl)
        simp only [hv36]
        clear hv36
        have X0 := Lib.hid (show N64 w' (v 38) (0) from hJ.out.fact 38 (by kernel_rfl))
        go_wp2_with fail
        with_reducible refine (HNZ.out _ _ X0.out).mono ?_
        rintro e w1 ⟨rfl, hb⟩
        go_wp2_with fail
        exact ⟨rfl, rfl, hJ.out.call (by rfl) hb (rfl)⟩
      simp only [Act.put, List.setIfInBounds_toArray, List.set_cons_zero, List.set_cons_succ, Nat.reduceAdd]
      refine Steps.held ?_ ?_
      · intro L v w' hJ
        have hv36 : v 36 = .bool true := hJ.out.fact 36 (by kernel_rfl)
        simp only [hv36]
        clear hv36
        have hv39 : v 39 = .bool true := hJ.out.fact 39 (by kernel_rfl)
        simp only [hv39]
        clear hv39
        go_wp2_with fail
        exact ⟨rfl, rfl, hJ.out.same (by rfl) (rfl)⟩
      simp only [Act.put, List.setIfInBounds_toArray, List.set_cons_zero, List.set_cons_succ, Nat.reduceAdd]
      refine Steps.held ?_ ?_
      · intro L v w' hJ
        have hv40 : v 40 = .bool true := hJ.out.fact 40 (by kernel_rfl)
        simp only [hv40]
        clear hv40
        go_wp2_with fail
        exact ⟨rfl, rfl, hJ.out.same (by rfl) (rfl)⟩
      simp only [Act.put, List.setIfInBounds_toArray, List.set_cons_zero, List.set_cons_succ, Nat.reduceAdd]
      refine Steps.held ?_ ?_
      · intro L v w' hJ
        have hv41 : v 41 = .bool true := hJ.out.fact 41 (by kernel_rfl)
        simp only [hv41]
        clear hv41
        go_wp2_with fail
        exact ⟨rfl, rfl, hJ.out.same (by rfl) (rfl)⟩
      simp only [Act.put, List.setIfInBounds_toArray, List.set_cons_zero, List.set_cons_succ, Nat.reduceAdd]
      refine Steps.held ?_ ?_
      · intro L v w' hJ
        have hv42 : v 42 = .int .i64 1 := hJ.out.fact 42 (by kernel_rfl)
        simp only [hv42]
        clear hv42
        have hv41 : v 41 = .bool true := hJ.out.fact 41 (by kernel_rfl)
        simp only [hv41]
        clear hv41
        go_wp2_with fail
        exact ⟨rfl, rfl, hJ.out.same (by rfl) (rfl)⟩
      simp only [Act.put, List.setIfInBounds_toArray, List.set_cons_zero, List.set_cons_succ, Nat.reduceAdd]
      refine Steps.held ?_ ?_
      · intro L v w' hJ
        have hv41 : v 41 = .bool true := hJ.out.fact 41 (by kernel_rfl)
        simp only [hv41]
        clear hv41
        have hv43 : v 43 = .bool true := hJ.out.fact 43 (by kernel_rfl)
        simp only [hv43]
        clear hv43
        go_wp2_with fail
        exact ⟨rfl, rfl, hJ.out.same (by rfl) (rfl)⟩
      simp only [Act.put, List.setIfInBounds_toArray, List.set_cons_zero, List.set_cons_succ, Nat.reduceAdd]
      refine Steps.held ?_ ?_
      · intro L v w' hJ
        have hv44 : v 44 = .bool true := hJ.out.fact 44 (by kernel_rfl)
        simp only [hv44]
        clear hv44
        go_wp2_with fail
        exact ⟨rfl, rfl, hJ.out.same (by rfl) (rfl)⟩
      simp only [Act.put, List.setIfInBounds_toArray, List.set_cons_zero, List.set_cons_succ, Nat.reduceAdd]
      refine Steps.held ?_ ?_
      · intro L v w' hJ
        have hv45 : v 45 = .bool true := hJ.out.fact 45 (by kernel_rfl)
        simp only [hv45]
        clear hv45
        have kb := hJ.out.blk E3.out (by simp [oldsOf])
        have k0 := kb.cell 0
        have k1 := kb.cell 1
        clear kb
        go_wp2_with fail
        exact ⟨rfl, rfl, hJ.out.same (by rfl) (NZ.out.keep hJ.out.held.keep)⟩
      simp only [Act.put, List.setIfInBounds_toArray, List.set_cons_zero, List.set_cons_succ, Nat.reduceAdd]
      refine Steps.held ?_ ?_
      · intro L v w' hJ
        have hv45 : v 45 = .bool true := hJ.out.fact 45 (by kernel_rfl)
        simp only [hv45]
        clear hv45
        have kb := hJ.out.blk E4.out (by simp [oldsOf])
        have k0 := kb.cell 0
        have k1 := kb.cell 1
        clear kb
        go_wp2_with fail
        exact ⟨rfl, rfl, hJ.out.same (by rfl) (NA.out.keep hJ.out.held.keep)⟩
      simp only [Act.put, List.setIfInBounds_toArray, List.set_cons_zero, List.set_cons_succ, Nat.reduceAdd]
      refine Steps.held ?_ ?_
      · intro L v w' hJ
        have hv45 : v 45 = .bool true := hJ.out.fact 45 (by kernel_rfl)
        simp only [hv45]
        clear hv45
        have X0 := Lib.hid (show F64 w' (v 46) (0) (1) from hJ.out.fact 46 (by kernel_rfl))
        have X1 := Lib.hid (show F64 w' (v 47) (a.1) (a.2) from hJ.out.fact 47 (by kernel_rfl))
        go_wp2_with fail
        with_reducible refine (HC0.out _ _ _ X0.out X1.out).mono ?_
        rintro e w1 ⟨rfl, hb⟩
        go_wp2_with fail
        exact ⟨rfl, rfl, hJ.out.call (by rfl) hb (rfl)⟩
      simp only [Act.put, List.setIfInBounds_toArray, List.set_cons_zero, List.set_cons_succ, Nat.reduceAdd]
      refine Steps.held ?_ ?_
      · intro L v w' hJ
        have hv48 : v 48 = .int .i64 (-1) := hJ.out.fact 48 (by kernel_rfl)
        simp only [hv48]
        clear hv48
        have hv45 : v 45 = .bool true := hJ.out.fact 45 (by kernel_rfl)
        simp only [hv45]
        clear hv45
        go_wp2_with fail
        exact ⟨rfl, rfl, hJ.out.same (by rfl) (rfl)⟩
      simp only [Act.put, List.setIfInBounds_toArray, List.set_cons_zero, List.set_cons_succ, Nat.reduceAdd]
      refine Steps.held ?_ ?_
      · intro L v w' hJ
        have hv45 : v 45 = .bool true := hJ.out.fact 45 (by kernel_rfl)
        simp only [hv45]
        clear hv45
        have kb := hJ.out.blk E4.out (by simp [oldsOf])
        have k0 := kb.cell 0
        have k1 := kb.cell 1
        clear kb
        go_wp2_with fail
        exact ⟨rfl, rfl, hJ.out.same (by rfl) (NA.out.keep hJ.out.held.keep)⟩
      simp only [Act.put, List.setIfInBounds_toArray, List.set_cons_zero, List.set_cons_succ, Nat.reduceAdd]
      refine Steps.held ?_ ?_
      · intro L v w' hJ
        have hv45 : v 45 = .bool true := hJ.out.fact 45 (by kernel_rfl)
        simp only [hv45]
        clear hv45
        have X0 := Lib.hid (show F64 w' (v 50) (a.1) (a.2) from hJ.out.fact 50 (by kernel_rfl))
        go_wp2_with fail
        with_reducible refine (HZA.out _ _ X0.out).mono ?_
        rintro e w1 ⟨rfl, hb⟩
        go_wp2_with fail
        exact ⟨rfl, rfl, hJ.out.call (by rfl) hb (rfl)⟩
      simp only [Act.put, List.setIfInBounds_toArray, List.set_cons_zero, List.set_cons_succ, Nat.reduceAdd]
      refine Steps.held ?_ ?_
      · intro L v w' hJ
        have hv49 : v 49 = .bool false := hJ.out.fact 49 (by kernel_rfl)
        simp only [hv49]
        clear hv49
        have hv51 : v 51 = .bool false := hJ.out.fact 51 (by kernel_rfl)
        simp only [hv51]
        clear hv51
        have hv45 : v 45 = .bool true := hJ.out.fact 45 (by kernel_rfl)
        simp only [hv45]
        clear hv45
        go_wp2_with fail
        exact ⟨rfl, rfl, hJ.out.same (by rfl) (rfl)⟩
      simp only [Act.put, List.setIfInBounds_toArray, List.set_cons_zero, List.set_cons_succ, Nat.reduceAdd]
      refine Steps.held ?_ ?_
      · intro L v w' hJ
        have hv45 : v 45 = .bool true := hJ.out.fact 45 (by kernel_rfl)
        simp only [hv45]
        clear hv45
        have hv52 : v 52 = .bool true := hJ.out.fact 52 (by kernel_rfl)
        simp only [hv52]
        clear hv52
        go_wp2_with fail
        exact ⟨rfl, rfl, hJ.out.same (by rfl) (rfl)⟩
      simp only [Act.put, List.setIfInBounds_toArray, List.set_cons_zero, List.set_cons_succ, Nat.reduceAdd]
      refine Steps.held ?_ ?_
      · intro L v w' hJ
        have hv53 : v 53 = .bool true := hJ.out.fact 53 (by kernel_rfl)
        simp only [hv53]
        clear hv53
        go_wp2_with fail
        exact ⟨rfl, rfl, hJ.out.same (by rfl) (rfl)⟩
      simp only [Act.put, List.setIfInBounds_toArray, List.set_cons_zero, List.set_cons_succ, Nat.reduceAdd]
      refine Steps.held ?_ ?_
      · intro L v w' hJ
        have hv54 : v 54 = .bool true := hJ.out.fact 54 (by kernel_rfl)
        simp only [hv54]
        clear hv54
        go_wp2_with fail
        with_reducible refine (HLV.out _).mono ?_
        rintro e w1 ⟨rfl, hb⟩
        go_wp2_with fail
        exact ⟨rfl, rfl, hJ.out.call (by rfl) hb (rfl)⟩
      simp only [Act.put, List.setIfInBounds_toArray, List.set_cons_zero, List.set_cons_succ, Nat.reduceAdd]
      refine Steps.held ?_ ?_
      · intro L v w' hJ
        have hv54 : v 54 = .bool true := hJ.out.fact 54 (by kernel_rfl)
        simp only [hv54]
        clear hv54
        have hv55 : v 55 = .bool true := hJ.out.fact 55 (by kernel_rfl)
        simp only [hv55]
        clear hv55
        go_wp2_with fail
        exact ⟨rfl, rfl, hJ.out.same (by rfl) (rfl)⟩
      simp only [Act.put, List.setIfInBounds_toArray, List.set_cons_zero, List.set_cons_succ, Nat.reduceAdd]
      refine Steps.held ?_ ?_
      · intro L v w' hJ
        have hv56 : v 56 = .bool true := hJ.out.fact 56 (by kernel_rfl)
        simp only [hv56]
        clear hv56
        go_wp2_with fail
        exact ⟨rfl, rfl, hJ.out.same (by rfl) (rfl)⟩
      simp only [Act.put, List.setIfInBounds_toArray, List.set_cons_zero, List.set_cons_succ, Nat.reduceAdd]
      refine Steps.nil ?_
      intro v w' hJ
      have h57 : v 57 = .bool true := hJ.end_fact 57 (by decide)
      have HF := Lib.hid (cbt HB0.out hJ.but.below)
      clear hJ
      simp only [h57]
      clear h57
      go_wp2_with fail
      go_ret
      exact ⟨rfl, HF.out⟩
  · have hzx : lx.length ≤ 16 → 16 < mx.length := fun h1 => by omega
    have HSx : Hid (∀ v W, Frc W v lx mx → Calls Try.prog 64 #[v, .int .i64 16] W (fun x w' => x = .returned (.bool false) ∧ Below W.heap.size W w')) := Lib.hid (fun v W h => c_small (k := 16) h (by simpa using hzx))
    have e0 := Blk.new (w) 45 #[(.slice Ux nx cx), (.slice Vx kx dx)]
    have hb := cba (Below.refl _ w) (.cells #[(.slice Ux nx cx), (.slice Vx kx dx)] 45)
    have hsz : w.heap.size ≤ w.heap.size := Nat.le_refl _
    go_enter Try.func15, Try.ntmps15
    go_upto_region 1 with (fail)
    obtain ⟨S, hS⟩ : ∃ S, (w).alloc (.cells #[(.slice Ux nx cx), (.slice Vx kx dx)] 45) = S := ⟨_, rfl⟩
    rw [hS] at e0 hb ⊢
    replace Hx := Lib.hid (Hx.out.below hb)
    have HB0 := Lib.hid hb
    have E0 := Lib.hid e0
    clear hS hb hsz e0
    have k_E0_0 := E0.out.cell 0
    have k_E0_1 := E0.out.cell 1
    go_wp2_with fail
    with_reducible refine (HSx.out _ _ Hx.out).mono ?_
    rintro e w1 ⟨rfl, hb⟩
    clear k_E0_0 k_E0_1
    replace Hx := Lib.hid (Hx.out.below hb)
    replace E0 := Lib.hid (blk_below E0.out hb)
    replace HB0 := Lib.hid (cbt HB0.out hb)
    clear hb
    have k_E0_0 := E0.out.cell 0
    have k_E0_1 := E0.out.cell 1
    go_wp2_with fail
    with_reducible refine (live26_any _).mono ?_
    rintro e w1 ⟨rfl, hb⟩
    clear k_E0_0 k_E0_1
    replace Hx := Lib.hid (Hx.out.below hb)
    replace E0 := Lib.hid (blk_below E0.out hb)
    replace HB0 := Lib.hid (cbt HB0.out hb)
    clear hb
    have k_E0_0 := E0.out.cell 0
    have k_E0_1 := E0.out.cell 1
    go_wp2_with fail
    go_ret
    exact ⟨rfl, HB0.out⟩
end Go.Proofs.Yteikhnmmkanndaa
namespace Go.Proofs.Yteikhnmmkanndaa
open Go.ChangeShapes Go.WideShapes Go.RowKit Go.Proofs.YteikhnmmkanndaaW.PrintWords
section
variable {H : Type} {enc : TypeId × Value → H} {w : World} {base : Nat} {spare : Nat → Bool} {held : Bool}
theorem open_bytes1 {fuel : Nat} {u : Value} {x : DataW H × List MemPlace} (h : DataW.trod enc Try.prog w base spare held fuel 22 [u] = some x) :
    ∃ A n c, ∃ l : List Int, u = .slice A n c ∧ l.length = n ∧ ByS w (.slice A n c) l ∧ Bys l := by
  rcases open_ints Try.underlying22 (e := 5) (k := .u8) (by kernel_rfl) (by kernel_rfl) h with ⟨hcs, _⟩ | ⟨a, l, c, zs, hcs, _⟩
  · obtain rfl : u = .slice none 0 0 := by simpa using hcs
    obtain ⟨l, h1, h2, h3⟩ := open_bytes_at h
    exact ⟨_, _, _, l, rfl, h1, h2, h3⟩
  · obtain rfl : u = .slice (some a) l c := by simpa using hcs
    obtain ⟨l, h1, h2, h3⟩ := open_bytes_at h
    exact ⟨_, _, _, l, rfl, h1, h2, h3⟩
theorem open_frc_at {fuel : Nat} {cs : Array Value} {x : DataW H × List MemPlace} (h2 : cs.size = 2) (h : DataW.trod enc Try.prog w base spare held fuel 45 cs.toList = some x) : ∃ l m : List Int, Frc w (.agg cs) l m ∧ Bys l ∧ Bys m := by
  obtain ⟨y0, y1, n, _, _, h0, h1⟩ := trod_struct2 Try.underlying45 h
  have hc : Try.prog.cellsOf 22 = 1 := by kernel_rfl
  simp only [hc] at h0 h1
  obtain ⟨l⟩ := cs
  rcases l with _ | ⟨a, _ | ⟨b, _ | ⟨c, t⟩⟩⟩
  · exact absurd h2 (by simp)
  · exact absurd h2 (by simp)
  · obtain ⟨A, p, c, l, rfl, hl, hA, yl⟩ := open_bytes1 (u := a) h0
    obtain ⟨B, q, d, m, rfl, hm, hB, ym⟩ := open_bytes1 (u := b) h1
    exact ⟨l, m, ⟨A, p, c, B, q, d, rfl, hA, hB, hl, hm⟩, yl, ym⟩
  · exact absurd h2 (by simp)
end
end Go.Proofs.Yteikhnmmkanndaa
