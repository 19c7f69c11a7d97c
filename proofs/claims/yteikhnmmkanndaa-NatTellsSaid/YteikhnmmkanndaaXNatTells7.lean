/- Laid together by prune.py out of the texts that the row needs: the declarations that its theorem uses. -/
import Derived.Test.YteikhnmmkanndaaXNatTells6
namespace Go.Proofs.Yteikhnmmkanndaa
open Go.RowKit Go.Proofs.YteikhnmmkanndaaW.PrintWords
set_option linter.unusedSimpArgs false
set_option linter.unusedVariables false
theorem Dec.le_of {x m : Nat} {l : List Int} (h : Dec x l) (hx : x < 10 ^ m) (hm : 1 ≤ m) : l.length ≤ m := by
  obtain ⟨m, rfl⟩ : ∃ k, m = k + 1 := ⟨m - 1, by omega⟩
  exact h.le hx
theorem two_ten (n : Nat) : 2 ^ (8 * n) ≤ 10 ^ (19 * n) := by
  rw [Nat.pow_mul, Nat.pow_mul]
  exact Nat.pow_le_pow_left (by decide) n
set_option maxRecDepth 100000 in
set_option maxHeartbeats 4000000 in
theorem natTells_law (Ax : Option Addr) (nx cx : Nat) (lx : List Int) (s : ByteArray) (w : World) (hxl : lx.length = nx) (hx : ByS w (.slice Ax nx cx) lx) (hxb : Bys lx) (hs : s.size ≤ maxLen) :
    Calls Try.prog 10 #[.slice Ax nx cx, .string s] w fun e w' => e = .returned (.bool true) ∧ Below w.heap.size w w' := by
  have Hx := Lib.hid hx
  have HxB := Lib.hid hxb
  have HxL := Lib.hid hxl
  clear hx hxb hxl
  by_cases h1 : nx ≤ 60
  · by_cases h2 : s.size ≤ 60
    · have d1 : decide (60 < (nx : Int)) = false := decide_eq_false (by omega)
      have d2 : decide (60 < (s.size : Int)) = false := decide_eq_false (by omega)
      have x64 := be_w64 HxB.out
      have x8 := be_wl HxB.out
      rw [HxL.out] at x64 x8
      have bdx : lx.length ≤ 1099511627776 := by rw [HxL.out]; omega
      obtain ⟨x, hx⟩ : ∃ x, be lx = x := ⟨_, rfl⟩
      have HRx := Lib.hid (fun W h => nread_any (.slice Ax nx cx) lx W h HxB.out bdx)
      have HOx := Lib.hid (fun W h => rof_any (.slice Ax nx cx) lx W h HxB.out bdx)
      rw [hx] at HRx HOx x64 x8
      have HB0 := Lib.hid (Below.refl w.heap.size w)
      have HOL := Lib.hid (fun W h => mk256_len (HOx.out W h))
      obtain ⟨L, hL⟩ := Dec.some x
      have x19 : x < 10 ^ (19 * 60) := Nat.lt_of_lt_of_le ((wl_le (k := 8) (by decide) x 60).1 (by omega)) (two_ten 60)
      have L200 : L.length ≤ 100000 := Nat.le_trans (Dec.le_of hL x19 (by decide)) (by decide)
      have htx := hL.text
      have HTX : Hid (∀ v W, N64 W v x → Calls Try.prog 46 #[v] W fun e w' => e = .returned (.string (strOfNums L)) ∧ Below W.heap.size W w') := Lib.hid (fun v W h => ntext_dec h x19 (by decide) hL)
      have HRT : Hid (∀ v W, R256 W v x → Calls Try.prog 47 #[v] W fun e w' => e = .returned (.string (strOfNums L)) ∧ Below W.heap.size W w') := Lib.hid (fun v W h => rtext_dec h x19 (by decide) hL)
      have HPB : Hid (∀ W, Calls Try.prog 51 #[.string (strOfNums L)] W fun e w' => ∃ u, e = .returned (.tuple #[u, .int .i64 0]) ∧ N64 w' u x ∧ Below W.heap.size W w') := Lib.hid (fun W => nparse_dec W L200 hL)
      obtain ⟨S, hS⟩ : ∃ S, strOfNums L = S := ⟨_, rfl⟩
      rw [hS] at HTX HRT HPB
      have HIS := Lib.hid (fun va vb W h1 h2 => is_yes va vb x W h1 h2 (by omega) (by omega))
      have HBI := Lib.hid (fun v W h => bits_any v x W h (by omega))
      have HRB : Hid (∀ v W, R256 W v x → Calls Try.prog 49 #[v] W fun e w' => e = .returned (.int .i64 (bl x : Nat)) ∧ Below W.heap.size W w') := Lib.hid (fun v W h => (rbits_any h (by omega)).mono (fun _ _ ⟨he, hd⟩ => ⟨he, hd.below⟩))
      obtain ⟨bx, hbx⟩ : ∃ bx, bl x = bx := ⟨_, rfl⟩
      rw [hbx] at HBI HRB
      have dB : ((bx : Int) != (bx : Int)) = false := by simp
      have HZA := Lib.hid (fun v W h => zero_any v x W h)
      have hz8 := wl_eq_zero (k := 8) (by decide) (x := x)
      have HCE := Lib.hid (fun va vb W h1 h2 => ncmp_eq va vb x W h1 h2)
      have HZ0 := Lib.hid zero_yes
      have HLV := Lib.hid live_any
      obtain ⟨p, hp⟩ : ∃ p, wl 8 x = p := ⟨_, rfl⟩
      rw [hp] at HOL hz8
      obtain ⟨bz, hbz⟩ : ∃ bz, decide (x = 0) = bz := ⟨_, rfl⟩
      rw [hbz] at HZA
      have dP : ((p : Int) == 0) = bz := by rw [← hbz, Bool.eq_iff_iff, beq_iff_eq, decide_eq_true_iff]; omega
      have dZ : (bz != bz) = false := by simp
      by_cases hb : wl 64 x ≤ 1
      · have hx64 : x < 2 ^ 64 := (wl_le (k := 64) (by decide) x 1).1 hb
        have HU : Hid (∀ v W, N64 W v x → Calls Try.prog 45 #[v] W fun e w' => e = .returned (.tuple #[.int .u64 (x : Nat), .bool true]) ∧ Below W.heap.size W w') := Lib.hid (fun v W h => uint64_yes v x W h hx64)
        have d8 : decide ((p : Int) ≤ 8) = true := decide_eq_true (by have := (wl_le (k := 8) (by decide) x 8).2 hx64; omega)
        have HOF := Lib.hid (fun W => of_any x hx64 W)
        clear x64 x8 bdx hx hL x19 L200 htx hS hbx hz8 hp hbz hx64 hb
        by_cases hok : okText s.toList
        · have HP : Hid (∀ W, Calls Try.prog 51 #[.string s] W fun e w' => ∃ u, e = .returned (.tuple #[u, .int .i64 0]) ∧ N64 w' u (decN s.toList) ∧ Below W.heap.size W w') := Lib.hid (fun W => nparse_yes s W (by omega) hok)
          have HRP : Hid (∀ W, Calls Try.prog 52 #[.string s] W fun e w' => ∃ u, e = .returned (.tuple #[u, .bool true]) ∧ R256 w' u (decN s.toList) ∧ Below W.heap.size W w') := Lib.hid (fun W => rparse_yes s W (by omega) hok)
          have hy := decN_lt s.toList hok.2.1
          rw [size_list] at hy
          have y64 : wl 64 (decN s.toList) ≤ 1099511627 := Nat.le_trans (decN_wl s.toList hok.2.1) (by rw [size_list]; omega)
          have y8 : wl 8 (decN s.toList) ≤ 1000000000 := Nat.le_trans (wl8_pow hy) (by omega)
          obtain ⟨y, hy0⟩ : ∃ y, decN s.toList = y := ⟨_, rfl⟩
          rw [hy0] at HP HRP y64 y8
          have HIY := Lib.hid (fun va vb W h1 h2 => is_yes va vb y W h1 h2 y64 y8)
          clear hy y64 y8 hy0 hok
          go_enter Try.func10, Try.ntmps10
          go_wp2_with fail
          with_reducible refine (HRx.out _ Hx.out).mono ?_
          rintro e w1 ⟨u, rfl, hu, hb⟩
          replace Hx := Lib.hid (Hx.out.below hb)
          replace HB0 := Lib.hid (cbt HB0.out hb)
          have Nx := Lib.hid hu
          clear hb hu
          go_wp2_with fail
          with_reducible refine (HOL.out _ Hx.out).mono ?_
          rintro e w1 ⟨Ar, cr, rfl, hu, hb⟩
          replace Hx := Lib.hid (Hx.out.below hb)
          replace Nx := Lib.hid (Nx.out.below hb)
          replace HB0 := Lib.hid (cbt HB0.out hb)
          have RX := Lib.hid hu
          clear hb hu
          have Z0 := Nx.out
          obtain ⟨PS0, cpS0, rfl, _, _, _⟩ := Z0
          have e1 := Blk.new w1 26 #[.slice PS0 (wl 64 (x)) cpS0]
          have hb := cba (Below.refl _ w1) (.cells #[.slice PS0 (wl 64 (x)) cpS0] 26)
          go_upto_region 4 with (fail)
          obtain ⟨S, hS⟩ : ∃ S, (w1.alloc (.cells #[.slice PS0 (wl 64 (x)) cpS0] 26)) = S := ⟨_, rfl⟩
          rw [hS] at e1 hb ⊢
          obtain ⟨g1, hg⟩ : ∃ g, w1.heap.size = g := ⟨_, rfl⟩
          rw [hg] at e1
          simp only [hg]
          replace Nx := Lib.hid (Nx.out.below hb)
          replace RX := Lib.hid (RX.out.below hb)
          replace HB0 := Lib.hid (cbt HB0.out hb)
          have E1 := Lib.hid e1
          clear hS hg hb e1
          have k_E1_0 := E1.out.cell 0
          go_wp2_with fail
          with_reducible refine (HU.out _ _ Nx.out).mono ?_
          rintro e w1 ⟨rfl, hb⟩
          clear k_E1_0
          replace Nx := Lib.hid (Nx.out.below hb)
          replace RX := Lib.hid (RX.out.below hb)
          replace E1 := Lib.hid (blk_below E1.out hb)
          replace HB0 := Lib.hid (cbt HB0.out hb)
          clear hb
          have k_E1_0 := E1.out.cell 0
          go_wp2_with fail
          with_reducible refine (HIS.out _ _ _ Nx.out RX.out).mono ?_
          rintro e w1 ⟨rfl, hb⟩
          clear k_E1_0
          replace Nx := Lib.hid (Nx.out.below hb)
          replace RX := Lib.hid (RX.out.below hb)
          replace E1 := Lib.hid (blk_below E1.out hb)
          replace HB0 := Lib.hid (cbt HB0.out hb)
          clear hb
          have k_E1_0 := E1.out.cell 0
          go_wp2_with fail
          with_reducible refine (HTX.out _ _ Nx.out).mono ?_
          rintro e w1 ⟨rfl, hb⟩
          clear k_E1_0
          replace Nx := Lib.hid (Nx.out.below hb)
          replace RX := Lib.hid (RX.out.below hb)
          replace E1 := Lib.hid (blk_below E1.out hb)
          replace HB0 := Lib.hid (cbt HB0.out hb)
          clear hb
          have k_E1_0 := E1.out.cell 0
          go_wp2_with fail
          with_reducible refine (HRT.out _ _ RX.out).mono ?_
          rintro e w1 ⟨rfl, hb⟩
          clear k_E1_0
          replace Nx := Lib.hid (Nx.out.below hb)
          replace RX := Lib.hid (RX.out.below hb)
          replace E1 := Lib.hid (blk_below E1.out hb)
          replace HB0 := Lib.hid (cbt HB0.out hb)
          clear hb
          have k_E1_0 := E1.out.cell 0
          go_wp2_with fail
          with_reducible refine (HBI.out _ _ Nx.out).mono ?_
          rintro e w1 ⟨rfl, hb⟩
          clear k_E1_0
          replace Nx := Lib.hid (Nx.out.below hb)
          replace RX := Lib.hid (RX.out.below hb)
          replace E1 := Lib.hid (blk_below E1.out hb)
          replace HB0 := Lib.hid (cbt HB0.out hb)
          clear hb
          have k_E1_0 := E1.out.cell 0
          go_wp2_with fail
          with_reducible refine (HRB.out _ _ RX.out).mono ?_
          rintro e w1 ⟨rfl, hb⟩
          clear k_E1_0
          replace Nx := Lib.hid (Nx.out.below hb)
          replace RX := Lib.hid (RX.out.below hb)
          replace E1 := Lib.hid (blk_below E1.out hb)
          replace HB0 := Lib.hid (cbt HB0.out hb)
          clear hb
          have k_E1_0 := E1.out.cell 0
          go_wp2_with fail
          with_reducible refine (HZA.out _ _ Nx.out).mono ?_
          rintro e w1 ⟨rfl, hb⟩
          clear k_E1_0
          replace Nx := Lib.hid (Nx.out.below hb)
          replace RX := Lib.hid (RX.out.below hb)
          replace E1 := Lib.hid (blk_below E1.out hb)
          replace HB0 := Lib.hid (cbt HB0.out hb)
          clear hb
          have k_E1_0 := E1.out.cell 0
          go_wp2_with fail
          with_reducible refine (HOF.out _).mono ?_
          rintro e w1 ⟨u, rfl, hu, hb⟩
          clear k_E1_0
          replace Nx := Lib.hid (Nx.out.below hb)
          replace RX := Lib.hid (RX.out.below hb)
          replace E1 := Lib.hid (blk_below E1.out hb)
          replace HB0 := Lib.hid (cbt HB0.out hb)
          have NF := Lib.hid hu
          clear hb hu
          have k_E1_0 := E1.out.cell 0
          go_wp2_with fail
          with_reducible refine (HIS.out _ _ _ NF.out RX.out).mono ?_
          rintro e w1 ⟨rfl, hb⟩
          clear k_E1_0
          replace Nx := Lib.hid (Nx.out.below hb)
          replace RX := Lib.hid (RX.out.below hb)
          replace NF := Lib.hid (NF.out.below hb)
          replace E1 := Lib.hid (blk_below E1.out hb)
          replace HB0 := Lib.hid (cbt HB0.out hb)
          clear hb
          have k_E1_0 := E1.out.cell 0
          go_wp2_with fail
          with_reducible refine (HP.out _).mono ?_
          rintro e w1 ⟨u, rfl, hu, hb⟩
          clear k_E1_0
          replace Nx := Lib.hid (Nx.out.below hb)
          replace RX := Lib.hid (RX.out.below hb)
          replace NF := Lib.hid (NF.out.below hb)
          replace E1 := Lib.hid (blk_below E1.out hb)
          replace HB0 := Lib.hid (cbt HB0.out hb)
          have NC := Lib.hid hu
          clear hb hu
          have k_E1_0 := E1.out.cell 0
          have Z0 := NC.out
          obtain ⟨PT0, cpT0, rfl, _, _, _⟩ := Z0
          have e2 := Blk.new w1 26 #[.slice PT0 (wl 64 (y)) cpT0]
          have hb := cba (Below.refl _ w1) (.cells #[.slice PT0 (wl 64 (y)) cpT0] 26)
          go_upto_region 8 with (fail)
          obtain ⟨T, hS⟩ : ∃ S, (w1.alloc (.cells #[.slice PT0 (wl 64 (y)) cpT0] 26)) = S := ⟨_, rfl⟩
          rw [hS] at e2 hb ⊢
          obtain ⟨g2, hg⟩ : ∃ g, w1.heap.size = g := ⟨_, rfl⟩
          rw [hg] at e2
          simp only [hg]
          replace Nx := Lib.hid (Nx.out.below hb)
          replace RX := Lib.hid (RX.out.below hb)
          replace NC := Lib.hid (NC.out.below hb)
          replace E1 := Lib.hid (blk_below E1.out hb)
          replace HB0 := Lib.hid (cbt HB0.out hb)
          have E2 := Lib.hid e2
          clear hS hg hb e2 k_E1_0
          have k_E1_0 := E1.out.cell 0
          have k_E2_0 := E2.out.cell 0
          go_wp2_with fail
          with_reducible refine (HRP.out _).mono ?_
          rintro e w1 ⟨u, rfl, hu, hb⟩
          clear k_E1_0 k_E2_0
          replace Nx := Lib.hid (Nx.out.below hb)
          replace RX := Lib.hid (RX.out.below hb)
          replace NC := Lib.hid (NC.out.below hb)
          replace E1 := Lib.hid (blk_below E1.out hb)
          replace E2 := Lib.hid (blk_below E2.out hb)
          replace HB0 := Lib.hid (cbt HB0.out hb)
          have RY := Lib.hid hu
          clear hb hu
          have k_E1_0 := E1.out.cell 0
          have k_E2_0 := E2.out.cell 0
          go_wp2_with fail
          with_reducible refine (HTX.out _ _ Nx.out).mono ?_
          rintro e w1 ⟨rfl, hb⟩
          clear k_E1_0 k_E2_0
          replace Nx := Lib.hid (Nx.out.below hb)
          replace RX := Lib.hid (RX.out.below hb)
          replace NC := Lib.hid (NC.out.below hb)
          replace RY := Lib.hid (RY.out.below hb)
          replace E1 := Lib.hid (blk_below E1.out hb)
          replace E2 := Lib.hid (blk_below E2.out hb)
          replace HB0 := Lib.hid (cbt HB0.out hb)
          clear hb
          have k_E1_0 := E1.out.cell 0
          have k_E2_0 := E2.out.cell 0
          go_wp2_with fail
          with_reducible refine (HPB.out _).mono ?_
          rintro e w1 ⟨u, rfl, hu, hb⟩
          clear k_E1_0 k_E2_0
          replace Nx := Lib.hid (Nx.out.below hb)
          replace RX := Lib.hid (RX.out.below hb)
          replace NC := Lib.hid (NC.out.below hb)
          replace RY := Lib.hid (RY.out.below hb)
          replace E1 := Lib.hid (blk_below E1.out hb)
          replace E2 := Lib.hid (blk_below E2.out hb)
          replace HB0 := Lib.hid (cbt HB0.out hb)
          have ND := Lib.hid hu
          clear hb hu
          have k_E1_0 := E1.out.cell 0
          have k_E2_0 := E2.out.cell 0
          have Z0 := ND.out
          obtain ⟨PU0, cpU0, rfl, _, _, _⟩ := Z0
          have e3 := Blk.new w1 26 #[.slice PU0 (wl 64 (x)) cpU0]
          have hb := cba (Below.refl _ w1) (.cells #[.slice PU0 (wl 64 (x)) cpU0] 26)
          go_upto_region 12 with (fail)
          obtain ⟨U, hS⟩ : ∃ S, (w1.alloc (.cells #[.slice PU0 (wl 64 (x)) cpU0] 26)) = S := ⟨_, rfl⟩
          rw [hS] at e3 hb ⊢
          obtain ⟨g3, hg⟩ : ∃ g, w1.heap.size = g := ⟨_, rfl⟩
          rw [hg] at e3
          simp only [hg]
          replace Nx := Lib.hid (Nx.out.below hb)
          replace RX := Lib.hid (RX.out.below hb)
          replace NC := Lib.hid (NC.out.below hb)
          replace RY := Lib.hid (RY.out.below hb)
          replace ND := Lib.hid (ND.out.below hb)
          replace E1 := Lib.hid (blk_below E1.out hb)
          replace E2 := Lib.hid (blk_below E2.out hb)
          replace HB0 := Lib.hid (cbt HB0.out hb)
          have E3 := Lib.hid e3
          clear hS hg hb e3 k_E1_0 k_E2_0
          have k_E1_0 := E1.out.cell 0
          have k_E2_0 := E2.out.cell 0
          have k_E3_0 := E3.out.cell 0
          go_wp2_with fail
          with_reducible refine (HIY.out _ _ _ NC.out RY.out).mono ?_
          rintro e w1 ⟨rfl, hb⟩
          clear k_E1_0 k_E2_0 k_E3_0
          replace Nx := Lib.hid (Nx.out.below hb)
          replace RX := Lib.hid (RX.out.below hb)
          replace NC := Lib.hid (NC.out.below hb)
          replace RY := Lib.hid (RY.out.below hb)
          replace ND := Lib.hid (ND.out.below hb)
          replace E1 := Lib.hid (blk_below E1.out hb)
          replace E2 := Lib.hid (blk_below E2.out hb)
          replace E3 := Lib.hid (blk_below E3.out hb)
          replace HB0 := Lib.hid (cbt HB0.out hb)
          clear hb
          have k_E1_0 := E1.out.cell 0
          have k_E2_0 := E2.out.cell 0
          have k_E3_0 := E3.out.cell 0
          go_wp2_with fail
          with_reducible refine (HCE.out _ _ _ ND.out Nx.out).mono ?_
          rintro e w1 ⟨rfl, hb⟩
          clear k_E1_0 k_E2_0 k_E3_0
          replace Nx := Lib.hid (Nx.out.below hb)
          replace RX := Lib.hid (RX.out.below hb)
          replace NC := Lib.hid (NC.out.below hb)
          replace RY := Lib.hid (RY.out.below hb)
          replace ND := Lib.hid (ND.out.below hb)
          replace E1 := Lib.hid (blk_below E1.out hb)
          replace E2 := Lib.hid (blk_below E2.out hb)
          replace E3 := Lib.hid (blk_below E3.out hb)
          replace HB0 := Lib.hid (cbt HB0.out hb)
          clear hb
          have k_E1_0 := E1.out.cell 0
          have k_E2_0 := E2.out.cell 0
          have k_E3_0 := E3.out.cell 0
          go_wp2_with fail
          with_reducible refine (HLV.out _).mono ?_
          rintro e w1 ⟨rfl, hb⟩
          clear k_E1_0 k_E2_0 k_E3_0
          replace Nx := Lib.hid (Nx.out.below hb)
          replace RX := Lib.hid (RX.out.below hb)
          replace NC := Lib.hid (NC.out.below hb)
          replace RY := Lib.hid (RY.out.below hb)
          replace ND := Lib.hid (ND.out.below hb)
          replace E1 := Lib.hid (blk_below E1.out hb)
          replace E2 := Lib.hid (blk_below E2.out hb)
          replace E3 := Lib.hid (blk_below E3.out hb)
          replace HB0 := Lib.hid (cbt HB0.out hb)
          clear hb
          have k_E1_0 := E1.out.cell 0
          have k_E2_0 := E2.out.cell 0
          have k_E3_0 := E3.out.cell 0
          go_wp2_with fail
          go_ret
          exact ⟨rfl, HB0.out⟩
        · have HP : Hid (∀ W, Calls Try.prog 51 #[.string s] W fun e w' => ∃ u, e = .returned (.tuple #[u, .int .i64 3]) ∧ N64 w' u 0 ∧ Below W.heap.size W w') := Lib.hid (fun W => nparse_no s W (by omega) hok)
          have HRP : Hid (∀ W, Calls Try.prog 52 #[.string s] W fun e w' => ∃ u, e = .returned (.tuple #[u, .bool false]) ∧ Below W.heap.size W w') := Lib.hid (fun W => rparse_no s W (by omega) hok)
          clear hok
          go_enter Try.func10, Try.ntmps10
          go_wp2_with fail
          with_reducible refine (HRx.out _ Hx.out).mono ?_
          rintro e w1 ⟨u, rfl, hu, hb⟩
          replace Hx := Lib.hid (Hx.out.below hb)
          replace HB0 := Lib.hid (cbt HB0.out hb)
          have Nx := Lib.hid hu
          clear hb hu
          go_wp2_with fail
          with_reducible refine (HOL.out _ Hx.out).mono ?_
          rintro e w1 ⟨Ar, cr, rfl, hu, hb⟩
          replace Hx := Lib.hid (Hx.out.below hb)
          replace Nx := Lib.hid (Nx.out.below hb)
          replace HB0 := Lib.hid (cbt HB0.out hb)
          have RX := Lib.hid hu
          clear hb hu
          have Z0 := Nx.out
          obtain ⟨PS0, cpS0, rfl, _, _, _⟩ := Z0
          have e1 := Blk.new w1 26 #[.slice PS0 (wl 64 (x)) cpS0]
          have hb := cba (Below.refl _ w1) (.cells #[.slice PS0 (wl 64 (x)) cpS0] 26)
          go_upto_region 4 with (fail)
          obtain ⟨S, hS⟩ : ∃ S, (w1.alloc (.cells #[.slice PS0 (wl 64 (x)) cpS0] 26)) = S := ⟨_, rfl⟩
          rw [hS] at e1 hb ⊢
          obtain ⟨g1, hg⟩ : ∃ g, w1.heap.size = g := ⟨_, rfl⟩
          rw [hg] at e1
          simp only [hg]
          replace Nx := Lib.hid (Nx.out.below hb)
          replace RX := Lib.hid (RX.out.below hb)
          replace HB0 := Lib.hid (cbt HB0.out hb)
          have E1 := Lib.hid e1
          clear hS hg hb e1
          have k_E1_0 := E1.out.cell 0
          go_wp2_with fail
          with_reducible refine (HU.out _ _ Nx.out).mono ?_
          rintro e w1 ⟨rfl, hb⟩
          clear k_E1_0
          replace Nx := Lib.hid (Nx.out.below hb)
          replace RX := Lib.hid (RX.out.below hb)
          replace E1 := Lib.hid (blk_below E1.out hb)
          replace HB0 := Lib.hid (cbt HB0.out hb)
          clear hb
          have k_E1_0 := E1.out.cell 0
          go_wp2_with fail
          with_reducible refine (HIS.out _ _ _ Nx.out RX.out).mono ?_
          rintro e w1 ⟨rfl, hb⟩
          clear k_E1_0
          replace Nx := Lib.hid (Nx.out.below hb)
          replace RX := Lib.hid (RX.out.below hb)
          replace E1 := Lib.hid (blk_below E1.out hb)
          replace HB0 := Lib.hid (cbt HB0.out hb)
          clear hb
          have k_E1_0 := E1.out.cell 0
          go_wp2_with fail
          with_reducible refine (HTX.out _ _ Nx.out).mono ?_
          rintro e w1 ⟨rfl, hb⟩
          clear k_E1_0
          replace Nx := Lib.hid (Nx.out.below hb)
          replace RX := Lib.hid (RX.out.below hb)
          replace E1 := Lib.hid (blk_below E1.out hb)
          replace HB0 := Lib.hid (cbt HB0.out hb)
          clear hb
          have k_E1_0 := E1.out.cell 0
          go_wp2_with fail
          with_reducible refine (HRT.out _ _ RX.out).mono ?_
          rintro e w1 ⟨rfl, hb⟩
          clear k_E1_0
          replace Nx := Lib.hid (Nx.out.below hb)
          replace RX := Lib.hid (RX.out.below hb)
          replace E1 := Lib.hid (blk_below E1.out hb)
          replace HB0 := Lib.hid (cbt HB0.out hb)
          clear hb
          have k_E1_0 := E1.out.cell 0
          go_wp2_with fail
          with_reducible refine (HBI.out _ _ Nx.out).mono ?_
          rintro e w1 ⟨rfl, hb⟩
          clear k_E1_0
          replace Nx := Lib.hid (Nx.out.below hb)
          replace RX := Lib.hid (RX.out.below hb)
          replace E1 := Lib.hid (blk_below E1.out hb)
          replace HB0 := Lib.hid (cbt HB0.out hb)
          clear hb
          have k_E1_0 := E1.out.cell 0
          go_wp2_with fail
          with_reducible refine (HRB.out _ _ RX.out).mono ?_
          rintro e w1 ⟨rfl, hb⟩
          clear k_E1_0
          replace Nx := Lib.hid (Nx.out.below hb)
          replace RX := Lib.hid (RX.out.below hb)
          replace E1 := Lib.hid (blk_below E1.out hb)
          replace HB0 := Lib.hid (cbt HB0.out hb)
          clear hb
          have k_E1_0 := E1.out.cell 0
          go_wp2_with fail
          with_reducible refine (HZA.out _ _ Nx.out).mono ?_
          rintro e w1 ⟨rfl, hb⟩
          clear k_E1_0
          replace Nx := Lib.hid (Nx.out.below hb)
          replace RX := Lib.hid (RX.out.below hb)
          replace E1 := Lib.hid (blk_below E1.out hb)
          replace HB0 := Lib.hid (cbt HB0.out hb)
          clear hb
          have k_E1_0 := E1.out.cell 0
          go_wp2_with fail
          with_reducible refine (HOF.out _).mono ?_
          rintro e w1 ⟨u, rfl, hu, hb⟩
          clear k_E1_0
          replace Nx := Lib.hid (Nx.out.below hb)
          replace RX := Lib.hid (RX.out.below hb)
          replace E1 := Lib.hid (blk_below E1.out hb)
          replace HB0 := Lib.hid (cbt HB0.out hb)
          have NF := Lib.hid hu
          clear hb hu
          have k_E1_0 := E1.out.cell 0
          go_wp2_with fail
          with_reducible refine (HIS.out _ _ _ NF.out RX.out).mono ?_
          rintro e w1 ⟨rfl, hb⟩
          clear k_E1_0
          replace Nx := Lib.hid (Nx.out.below hb)
          replace RX := Lib.hid (RX.out.below hb)
          replace NF := Lib.hid (NF.out.below hb)
          replace E1 := Lib.hid (blk_below E1.out hb)
          replace HB0 := Lib.hid (cbt HB0.out hb)
          clear hb
          have k_E1_0 := E1.out.cell 0
          go_wp2_with fail
          with_reducible refine (HP.out _).mono ?_
          rintro e w1 ⟨u, rfl, hu, hb⟩
          clear k_E1_0
          replace Nx := Lib.hid (Nx.out.below hb)
          replace RX := Lib.hid (RX.out.below hb)
          replace NF := Lib.hid (NF.out.below hb)
          replace E1 := Lib.hid (blk_below E1.out hb)
          replace HB0 := Lib.hid (cbt HB0.out hb)
          have NC := Lib.hid hu
          clear hb hu
          have k_E1_0 := E1.out.cell 0
          have Z0 := NC.out
          obtain ⟨PT0, cpT0, rfl, _, _, _⟩ := Z0
          have e2 := Blk.new w1 26 #[.slice PT0 (wl 64 (0)) cpT0]
          have hb := cba (Below.refl _ w1) (.cells #[.slice PT0 (wl 64 (0)) cpT0] 26)
          go_upto_region 8 with (fail)
          obtain ⟨T, hS⟩ : ∃ S, (w1.alloc (.cells #[.slice PT0 (wl 64 (0)) cpT0] 26)) = S := ⟨_, rfl⟩
          rw [hS] at e2 hb ⊢
          obtain ⟨g2, hg⟩ : ∃ g, w1.heap.size = g := ⟨_, rfl⟩
          rw [hg] at e2
          simp only [hg]
          replace Nx := Lib.hid (Nx.out.below hb)
          replace RX := Lib.hid (RX.out.below hb)
          replace NC := Lib.hid (NC.out.below hb)
          replace E1 := Lib.hid (blk_below E1.out hb)
          replace HB0 := Lib.hid (cbt HB0.out hb)
          have E2 := Lib.hid e2
          clear hS hg hb e2 k_E1_0
          have k_E1_0 := E1.out.cell 0
          have k_E2_0 := E2.out.cell 0
          go_wp2_with fail
          with_reducible refine (HRP.out _).mono ?_
          rintro e w1 ⟨u, rfl, hb⟩
          clear k_E1_0 k_E2_0
          replace Nx := Lib.hid (Nx.out.below hb)
          replace RX := Lib.hid (RX.out.below hb)
          replace NC := Lib.hid (NC.out.below hb)
          replace E1 := Lib.hid (blk_below E1.out hb)
          replace E2 := Lib.hid (blk_below E2.out hb)
          replace HB0 := Lib.hid (cbt HB0.out hb)
          clear hb
          have k_E1_0 := E1.out.cell 0
          have k_E2_0 := E2.out.cell 0
          go_wp2_with fail
          with_reducible refine (HZ0.out _ _ NC.out).mono ?_
          rintro e w1 ⟨rfl, hb⟩
          clear k_E1_0 k_E2_0
          replace Nx := Lib.hid (Nx.out.below hb)
          replace RX := Lib.hid (RX.out.below hb)
          replace NC := Lib.hid (NC.out.below hb)
          replace E1 := Lib.hid (blk_below E1.out hb)
          replace E2 := Lib.hid (blk_below E2.out hb)
          replace HB0 := Lib.hid (cbt HB0.out hb)
          clear hb
          have k_E1_0 := E1.out.cell 0
          have k_E2_0 := E2.out.cell 0
          go_wp2_with fail
          with_reducible refine (HLV.out _).mono ?_
          rintro e w1 ⟨rfl, hb⟩
          clear k_E1_0 k_E2_0
          replace Nx := Lib.hid (Nx.out.below hb)
          replace RX := Lib.hid (RX.out.below hb)
          replace NC := Lib.hid (NC.out.below hb)
          replace E1 := Lib.hid (blk_below E1.out hb)
          replace E2 := Lib.hid (blk_below E2.out hb)
          replace HB0 := Lib.hid (cbt HB0.out hb)
          clear hb
          have k_E1_0 := E1.out.cell 0
          have k_E2_0 := E2.out.cell 0
          go_wp2_with fail
          go_ret
          exact ⟨rfl, HB0.out⟩
      · have hx64 : 2 ^ 64 ≤ x := Nat.le_of_not_lt (fun h => hb ((wl_le (k := 64) (by decide) x 1).2 h))
        have HU : Hid (∀ v W, N64 W v x → Calls Try.prog 45 #[v] W fun e w' => e = .returned (.tuple #[.int .u64 0, .bool false]) ∧ Below W.heap.size W w') := Lib.hid (fun v W h => uint64_no v x W h hx64 (by omega))
        have d8 : decide ((p : Int) ≤ 8) = false := decide_eq_false (by have := (lt_wl (k := 8) (by decide) x 8).2 hx64; omega)
        clear x64 x8 bdx hx hL x19 L200 htx hS hbx hz8 hp hbz hx64 hb
        by_cases hok : okText s.toList
        · have HP : Hid (∀ W, Calls Try.prog 51 #[.string s] W fun e w' => ∃ u, e = .returned (.tuple #[u, .int .i64 0]) ∧ N64 w' u (decN s.toList) ∧ Below W.heap.size W w') := Lib.hid (fun W => nparse_yes s W (by omega) hok)
          have HRP : Hid (∀ W, Calls Try.prog 52 #[.string s] W fun e w' => ∃ u, e = .returned (.tuple #[u, .bool true]) ∧ R256 w' u (decN s.toList) ∧ Below W.heap.size W w') := Lib.hid (fun W => rparse_yes s W (by omega) hok)
          have hy := decN_lt s.toList hok.2.1
          rw [size_list] at hy
          have y64 : wl 64 (decN s.toList) ≤ 1099511627 := Nat.le_trans (decN_wl s.toList hok.2.1) (by rw [size_list]; omega)
          have y8 : wl 8 (decN s.toList) ≤ 1000000000 := Nat.le_trans (wl8_pow hy) (by omega)
          obtain ⟨y, hy0⟩ : ∃ y, decN s.toList = y := ⟨_, rfl⟩
          rw [hy0] at HP HRP y64 y8
          have HIY := Lib.hid (fun va vb W h1 h2 => is_yes va vb y W h1 h2 y64 y8)
          clear hy y64 y8 hy0 hok
          go_enter Try.func10, Try.ntmps10
          go_wp2_with fail
          with_reducible refine (HRx.out _ Hx.out).mono ?_
          rintro e w1 ⟨u, rfl, hu, hb⟩
          replace Hx := Lib.hid (Hx.out.below hb)
          replace HB0 := Lib.hid (cbt HB0.out hb)
          have Nx := Lib.hid hu
          clear hb hu
          go_wp2_with fail
          with_reducible refine (HOL.out _ Hx.out).mono ?_
          rintro e w1 ⟨Ar, cr, rfl, hu, hb⟩
          replace Hx := Lib.hid (Hx.out.below hb)
          replace Nx := Lib.hid (Nx.out.below hb)
          replace HB0 := Lib.hid (cbt HB0.out hb)
          have RX := Lib.hid hu
          clear hb hu
          have Z0 := Nx.out
          obtain ⟨PS0, cpS0, rfl, _, _, _⟩ := Z0
          have e1 := Blk.new w1 26 #[.slice PS0 (wl 64 (x)) cpS0]
          have hb := cba (Below.refl _ w1) (.cells #[.slice PS0 (wl 64 (x)) cpS0] 26)
          go_upto_region 4 with (fail)
          obtain ⟨S, hS⟩ : ∃ S, (w1.alloc (.cells #[.slice PS0 (wl 64 (x)) cpS0] 26)) = S := ⟨_, rfl⟩
          rw [hS] at e1 hb ⊢
          obtain ⟨g1, hg⟩ : ∃ g, w1.heap.size = g := ⟨_, rfl⟩
          rw [hg] at e1
          simp only [hg]
          replace Nx := Lib.hid (Nx.out.below hb)
          replace RX := Lib.hid (RX.out.below hb)
          replace HB0 := Lib.hid (cbt HB0.out hb)
          have E1 := Lib.hid e1
          clear hS hg hb e1
          have k_E1_0 := E1.out.cell 0
          go_wp2_with fail
          with_reducible refine (HU.out _ _ Nx.out).mono ?_
          rintro e w1 ⟨rfl, hb⟩
          clear k_E1_0
          replace Nx := Lib.hid (Nx.out.below hb)
          replace RX := Lib.hid (RX.out.below hb)
          replace E1 := Lib.hid (blk_below E1.out hb)
          replace HB0 := Lib.hid (cbt HB0.out hb)
          clear hb
          have k_E1_0 := E1.out.cell 0
          go_wp2_with fail
          with_reducible refine (HIS.out _ _ _ Nx.out RX.out).mono ?_
          rintro e w1 ⟨rfl, hb⟩
          clear k_E1_0
          replace Nx := Lib.hid (Nx.out.below hb)
          replace RX := Lib.hid (RX.out.below hb)
          replace E1 := Lib.hid (blk_below E1.out hb)
          replace HB0 := Lib.hid (cbt HB0.out hb)
          clear hb
          have k_E1_0 := E1.out.cell 0
          go_wp2_with fail
          with_reducible refine (HTX.out _ _ Nx.out).mono ?_
          rintro e w1 ⟨rfl, hb⟩
          clear k_E1_0
          replace Nx := Lib.hid (Nx.out.below hb)
          replace RX := Lib.hid (RX.out.below hb)
          replace E1 := Lib.hid (blk_below E1.out hb)
          replace HB0 := Lib.hid (cbt HB0.out hb)
          clear hb
          have k_E1_0 := E1.out.cell 0
          go_wp2_with fail
          with_reducible refine (HRT.out _ _ RX.out).mono ?_
          rintro e w1 ⟨rfl, hb⟩
          clear k_E1_0
          replace Nx := Lib.hid (Nx.out.below hb)
          replace RX := Lib.hid (RX.out.below hb)
          replace E1 := Lib.hid (blk_below E1.out hb)
          replace HB0 := Lib.hid (cbt HB0.out hb)
          clear hb
          have k_E1_0 := E1.out.cell 0
          go_wp2_with fail
          with_reducible refine (HBI.out _ _ Nx.out).mono ?_
          rintro e w1 ⟨rfl, hb⟩
          clear k_E1_0
          replace Nx := Lib.hid (Nx.out.below hb)
          replace RX := Lib.hid (RX.out.below hb)
          replace E1 := Lib.hid (blk_below E1.out hb)
          replace HB0 := Lib.hid (cbt HB0.out hb)
          clear hb
          have k_E1_0 := E1.out.cell 0
          go_wp2_with fail
          with_reducible refine (HRB.out _ _ RX.out).mono ?_
          rintro e w1 ⟨rfl, hb⟩
          clear k_E1_0
          replace Nx := Lib.hid (Nx.out.below hb)
          replace RX := Lib.hid (RX.out.below hb)
          replace E1 := Lib.hid (blk_below E1.out hb)
          replace HB0 := Lib.hid (cbt HB0.out hb)
          clear hb
          have k_E1_0 := E1.out.cell 0
          go_wp2_with fail
          with_reducible refine (HZA.out _ _ Nx.out).mono ?_
          rintro e w1 ⟨rfl, hb⟩
          clear k_E1_0
          replace Nx := Lib.hid (Nx.out.below hb)
          replace RX := Lib.hid (RX.out.below hb)
          replace E1 := Lib.hid (blk_below E1.out hb)
          replace HB0 := Lib.hid (cbt HB0.out hb)
          clear hb
          have k_E1_0 := E1.out.cell 0
          go_wp2_with fail
          with_reducible refine (HP.out _).mono ?_
          rintro e w1 ⟨u, rfl, hu, hb⟩
          clear k_E1_0
          replace Nx := Lib.hid (Nx.out.below hb)
          replace RX := Lib.hid (RX.out.below hb)
          replace E1 := Lib.hid (blk_below E1.out hb)
          replace HB0 := Lib.hid (cbt HB0.out hb)
          have NC := Lib.hid hu
          clear hb hu
          have k_E1_0 := E1.out.cell 0
          have Z0 := NC.out
          obtain ⟨PT0, cpT0, rfl, _, _, _⟩ := Z0
          have e2 := Blk.new w1 26 #[.slice PT0 (wl 64 (y)) cpT0]
          have hb := cba (Below.refl _ w1) (.cells #[.slice PT0 (wl 64 (y)) cpT0] 26)
          go_upto_region 8 with (fail)
          obtain ⟨T, hS⟩ : ∃ S, (w1.alloc (.cells #[.slice PT0 (wl 64 (y)) cpT0] 26)) = S := ⟨_, rfl⟩
          rw [hS] at e2 hb ⊢
          obtain ⟨g2, hg⟩ : ∃ g, w1.heap.size = g := ⟨_, rfl⟩
          rw [hg] at e2
          simp only [hg]
          replace Nx := Lib.hid (Nx.out.below hb)
          replace RX := Lib.hid (RX.out.below hb)
          replace NC := Lib.hid (NC.out.below hb)
          replace E1 := Lib.hid (blk_below E1.out hb)
          replace HB0 := Lib.hid (cbt HB0.out hb)
          have E2 := Lib.hid e2
          clear hS hg hb e2 k_E1_0
          have k_E1_0 := E1.out.cell 0
          have k_E2_0 := E2.out.cell 0
          go_wp2_with fail
          with_reducible refine (HRP.out _).mono ?_
          rintro e w1 ⟨u, rfl, hu, hb⟩
          clear k_E1_0 k_E2_0
          replace Nx := Lib.hid (Nx.out.below hb)
          replace RX := Lib.hid (RX.out.below hb)
          replace NC := Lib.hid (NC.out.below hb)
          replace E1 := Lib.hid (blk_below E1.out hb)
          replace E2 := Lib.hid (blk_below E2.out hb)
          replace HB0 := Lib.hid (cbt HB0.out hb)
          have RY := Lib.hid hu
          clear hb hu
          have k_E1_0 := E1.out.cell 0
          have k_E2_0 := E2.out.cell 0
          go_wp2_with fail
          with_reducible refine (HTX.out _ _ Nx.out).mono ?_
          rintro e w1 ⟨rfl, hb⟩
          clear k_E1_0 k_E2_0
          replace Nx := Lib.hid (Nx.out.below hb)
          replace RX := Lib.hid (RX.out.below hb)
          replace NC := Lib.hid (NC.out.below hb)
          replace RY := Lib.hid (RY.out.below hb)
          replace E1 := Lib.hid (blk_below E1.out hb)
          replace E2 := Lib.hid (blk_below E2.out hb)
          replace HB0 := Lib.hid (cbt HB0.out hb)
          clear hb
          have k_E1_0 := E1.out.cell 0
          have k_E2_0 := E2.out.cell 0
          go_wp2_with fail
          with_reducible refine (HPB.out _).mono ?_
          rintro e w1 ⟨u, rfl, hu, hb⟩
          clear k_E1_0 k_E2_0
          replace Nx := Lib.hid (Nx.out.below hb)
          replace RX := Lib.hid (RX.out.below hb)
          replace NC := Lib.hid (NC.out.below hb)
          replace RY := Lib.hid (RY.out.below hb)
          replace E1 := Lib.hid (blk_below E1.out hb)
          replace E2 := Lib.hid (blk_below E2.out hb)
          replace HB0 := Lib.hid (cbt HB0.out hb)
          have ND := Lib.hid hu
          clear hb hu
          have k_E1_0 := E1.out.cell 0
          have k_E2_0 := E2.out.cell 0
          have Z0 := ND.out
          obtain ⟨PU0, cpU0, rfl, _, _, _⟩ := Z0
          have e3 := Blk.new w1 26 #[.slice PU0 (wl 64 (x)) cpU0]
          have hb := cba (Below.refl _ w1) (.cells #[.slice PU0 (wl 64 (x)) cpU0] 26)
          go_upto_region 12 with (fail)
          obtain ⟨U, hS⟩ : ∃ S, (w1.alloc (.cells #[.slice PU0 (wl 64 (x)) cpU0] 26)) = S := ⟨_, rfl⟩
          rw [hS] at e3 hb ⊢
          obtain ⟨g3, hg⟩ : ∃ g, w1.heap.size = g := ⟨_, rfl⟩
          rw [hg] at e3
          simp only [hg]
          replace Nx := Lib.hid (Nx.out.below hb)
          replace RX := Lib.hid (RX.out.below hb)
          replace NC := Lib.hid (NC.out.below hb)
          replace RY := Lib.hid (RY.out.below hb)
          replace ND := Lib.hid (ND.out.below hb)
          replace E1 := Lib.hid (blk_below E1.out hb)
          replace E2 := Lib.hid (blk_below E2.out hb)
          replace HB0 := Lib.hid (cbt HB0.out hb)
          have E3 := Lib.hid e3
          clear hS hg hb e3 k_E1_0 k_E2_0
          have k_E1_0 := E1.out.cell 0
          have k_E2_0 := E2.out.cell 0
          have k_E3_0 := E3.out.cell 0
          go_wp2_with fail
          with_reducible refine (HIY.out _ _ _ NC.out RY.out).mono ?_
          rintro e w1 ⟨rfl, hb⟩
          clear k_E1_0 k_E2_0 k_E3_0
          replace Nx := Lib.hid (Nx.out.below hb)
          replace RX := Lib.hid (RX.out.below hb)
          replace NC := Lib.hid (NC.out.below hb)
          replace RY := Lib.hid (RY.out.below hb)
          replace ND := Lib.hid (ND.out.below hb)
          replace E1 := Lib.hid (blk_below E1.out hb)
          replace E2 := Lib.hid (blk_below E2.out hb)
          replace E3 := Lib.hid (blk_below E3.out hb)
          replace HB0 := Lib.hid (cbt HB0.out hb)
          clear hb
          have k_E1_0 := E1.out.cell 0
          have k_E2_0 := E2.out.cell 0
          have k_E3_0 := E3.out.cell 0
          go_wp2_with fail
          with_reducible refine (HCE.out _ _ _ ND.out Nx.out).mono ?_
          rintro e w1 ⟨rfl, hb⟩
          clear k_E1_0 k_E2_0 k_E3_0
          replace Nx := Lib.hid (Nx.out.below hb)
          replace RX := Lib.hid (RX.out.below hb)
          replace NC := Lib.hid (NC.out.below hb)
          replace RY := Lib.hid (RY.out.below hb)
          replace ND := Lib.hid (ND.out.below hb)
          replace E1 := Lib.hid (blk_below E1.out hb)
          replace E2 := Lib.hid (blk_below E2.out hb)
          replace E3 := Lib.hid (blk_below E3.out hb)
          replace HB0 := Lib.hid (cbt HB0.out hb)
          clear hb
          have k_E1_0 := E1.out.cell 0
          have k_E2_0 := E2.out.cell 0
          have k_E3_0 := E3.out.cell 0
          go_wp2_with fail
          with_reducible refine (HLV.out _).mono ?_
          rintro e w1 ⟨rfl, hb⟩
          clear k_E1_0 k_E2_0 k_E3_0
          replace Nx := Lib.hid (Nx.out.below hb)
          replace RX := Lib.hid (RX.out.below hb)
          replace NC := Lib.hid (NC.out.below hb)
          replace RY := Lib.hid (RY.out.below hb)
          replace ND := Lib.hid (ND.out.below hb)
          replace E1 := Lib.hid (blk_below E1.out hb)
          replace E2 := Lib.hid (blk_below E2.out hb)
          replace E3 := Lib.hid (blk_below E3.out hb)
          replace HB0 := Lib.hid (cbt HB0.out hb)
          clear hb
          have k_E1_0 := E1.out.cell 0
          have k_E2_0 := E2.out.cell 0
          have k_E3_0 := E3.out.cell 0
          go_wp2_with fail
          go_ret
          exact ⟨rfl, HB0.out⟩
        · have HP : Hid (∀ W, Calls Try.prog 51 #[.string s] W fun e w' => ∃ u, e = .returned (.tuple #[u, .int .i64 3]) ∧ N64 w' u 0 ∧ Below W.heap.size W w') := Lib.hid (fun W => nparse_no s W (by omega) hok)
          have HRP : Hid (∀ W, Calls Try.prog 52 #[.string s] W fun e w' => ∃ u, e = .returned (.tuple #[u, .bool false]) ∧ Below W.heap.size W w') := Lib.hid (fun W => rparse_no s W (by omega) hok)
          clear hok
          go_enter Try.func10, Try.ntmps10
          go_wp2_with fail
          with_reducible refine (HRx.out _ Hx.out).mono ?_
          rintro e w1 ⟨u, rfl, hu, hb⟩
          replace Hx := Lib.hid (Hx.out.below hb)
          replace HB0 := Lib.hid (cbt HB0.out hb)
          have Nx := Lib.hid hu
          clear hb hu
          go_wp2_with fail
          with_reducible refine (HOL.out _ Hx.out).mono ?_
          rintro e w1 ⟨Ar, cr, rfl, hu, hb⟩
          replace Hx := Lib.hid (Hx.out.below hb)
          replace Nx := Lib.hid (Nx.out.below hb)
          replace HB0 := Lib.hid (cbt HB0.out hb)
          have RX := Lib.hid hu
          clear hb hu
          have Z0 := Nx.out
          obtain ⟨PS0, cpS0, rfl, _, _, _⟩ := Z0
          have e1 := Blk.new w1 26 #[.slice PS0 (wl 64 (x)) cpS0]
          have hb := cba (Below.refl _ w1) (.cells #[.slice PS0 (wl 64 (x)) cpS0] 26)
          go_upto_region 4 with (fail)
          obtain ⟨S, hS⟩ : ∃ S, (w1.alloc (.cells #[.slice PS0 (wl 64 (x)) cpS0] 26)) = S := ⟨_, rfl⟩
          rw [hS] at e1 hb ⊢
          obtain ⟨g1, hg⟩ : ∃ g, w1.heap.size = g := ⟨_, rfl⟩
          rw [hg] at e1
          simp only [hg]
          replace Nx := Lib.hid (Nx.out.below hb)
          replace RX := Lib.hid (RX.out.below hb)
          replace HB0 := Lib.hid (cbt HB0.out hb)
          have E1 := Lib.hid e1
          clear hS hg hb e1
          have k_E1_0 := E1.out.cell 0
          go_wp2_with fail
          with_reducible refine (HU.out _ _ Nx.out).mono ?_
          rintro e w1 ⟨rfl, hb⟩
          clear k_E1_0
          replace Nx := Lib.hid (Nx.out.below hb)
          replace RX := Lib.hid (RX.out.below hb)
          replace E1 := Lib.hid (blk_below E1.out hb)
          replace HB0 := Lib.hid (cbt HB0.out hb)
          clear hb
          have k_E1_0 := E1.out.cell 0
          go_wp2_with fail
          with_reducible refine (HIS.out _ _ _ Nx.out RX.out).mono ?_
          rintro e w1 ⟨rfl, hb⟩
          clear k_E1_0
          replace Nx := Lib.hid (Nx.out.below hb)
          replace RX := Lib.hid (RX.out.below hb)
          replace E1 := Lib.hid (blk_below E1.out hb)
          replace HB0 := Lib.hid (cbt HB0.out hb)
          clear hb
          have k_E1_0 := E1.out.cell 0
          go_wp2_with fail
          with_reducible refine (HTX.out _ _ Nx.out).mono ?_
          rintro e w1 ⟨rfl, hb⟩
          clear k_E1_0
          replace Nx := Lib.hid (Nx.out.below hb)
          replace RX := Lib.hid (RX.out.below hb)
          replace E1 := Lib.hid (blk_below E1.out hb)
          replace HB0 := Lib.hid (cbt HB0.out hb)
          clear hb
          have k_E1_0 := E1.out.cell 0
          go_wp2_with fail
          with_reducible refine (HRT.out _ _ RX.out).mono ?_
          rintro e w1 ⟨rfl, hb⟩
          clear k_E1_0
          replace Nx := Lib.hid (Nx.out.below hb)
          replace RX := Lib.hid (RX.out.below hb)
          replace E1 := Lib.hid (blk_below E1.out hb)
          replace HB0 := Lib.hid (cbt HB0.out hb)
          clear hb
          have k_E1_0 := E1.out.cell 0
          go_wp2_with fail
          with_reducible refine (HBI.out _ _ Nx.out).mono ?_
          rintro e w1 ⟨rfl, hb⟩
          clear k_E1_0
          replace Nx := Lib.hid (Nx.out.below hb)
          replace RX := Lib.hid (RX.out.below hb)
          replace E1 := Lib.hid (blk_below E1.out hb)
          replace HB0 := Lib.hid (cbt HB0.out hb)
          clear hb
          have k_E1_0 := E1.out.cell 0
          go_wp2_with fail
          with_reducible refine (HRB.out _ _ RX.out).mono ?_
          rintro e w1 ⟨rfl, hb⟩
          clear k_E1_0
          replace Nx := Lib.hid (Nx.out.below hb)
          replace RX := Lib.hid (RX.out.below hb)
          replace E1 := Lib.hid (blk_below E1.out hb)
          replace HB0 := Lib.hid (cbt HB0.out hb)
          clear hb
          have k_E1_0 := E1.out.cell 0
          go_wp2_with fail
          with_reducible refine (HZA.out _ _ Nx.out).mono ?_
          rintro e w1 ⟨rfl, hb⟩
          clear k_E1_0
          replace Nx := Lib.hid (Nx.out.below hb)
          replace RX := Lib.hid (RX.out.below hb)
          replace E1 := Lib.hid (blk_below E1.out hb)
          replace HB0 := Lib.hid (cbt HB0.out hb)
          clear hb
          have k_E1_0 := E1.out.cell 0
          go_wp2_with fail
          with_reducible refine (HP.out _).mono ?_
          rintro e w1 ⟨u, rfl, hu, hb⟩
          clear k_E1_0
          replace Nx := Lib.hid (Nx.out.below hb)
          replace RX := Lib.hid (RX.out.below hb)
          replace E1 := Lib.hid (blk_below E1.out hb)
          replace HB0 := Lib.hid (cbt HB0.out hb)
          have NC := Lib.hid hu
          clear hb hu
          have k_E1_0 := E1.out.cell 0
          have Z0 := NC.out
          obtain ⟨PT0, cpT0, rfl, _, _, _⟩ := Z0
          have e2 := Blk.new w1 26 #[.slice PT0 (wl 64 (0)) cpT0]
          have hb := cba (Below.refl _ w1) (.cells #[.slice PT0 (wl 64 (0)) cpT0] 26)
          go_upto_region 8 with (fail)
          obtain ⟨T, hS⟩ : ∃ S, (w1.alloc (.cells #[.slice PT0 (wl 64 (0)) cpT0] 26)) = S := ⟨_, rfl⟩
          rw [hS] at e2 hb ⊢
          obtain ⟨g2, hg⟩ : ∃ g, w1.heap.size = g := ⟨_, rfl⟩
          rw [hg] at e2
          simp only [hg]
          replace Nx := Lib.hid (Nx.out.below hb)
          replace RX := Lib.hid (RX.out.below hb)
          replace NC := Lib.hid (NC.out.below hb)
          replace E1 := Lib.hid (blk_below E1.out hb)
          replace HB0 := Lib.hid (cbt HB0.out hb)
          have E2 := Lib.hid e2
          clear hS hg hb e2 k_E1_0
          have k_E1_0 := E1.out.cell 0
          have k_E2_0 := E2.out.cell 0
          go_wp2_with fail
          with_reducible refine (HRP.out _).mono ?_
          rintro e w1 ⟨u, rfl, hb⟩
          clear k_E1_0 k_E2_0
          replace Nx := Lib.hid (Nx.out.below hb)
          replace RX := Lib.hid (RX.out.below hb)
          replace NC := Lib.hid (NC.out.below hb)
          replace E1 := Lib.hid (blk_below E1.out hb)
          replace E2 := Lib.hid (blk_below E2.out hb)
          replace HB0 := Lib.hid (cbt HB0.out hb)
          clear hb
          have k_E1_0 := E1.out.cell 0
          have k_E2_0 := E2.out.cell 0
          go_wp2_with fail
          with_reducible refine (HZ0.out _ _ NC.out).mono ?_
          rintro e w1 ⟨rfl, hb⟩
          clear k_E1_0 k_E2_0
          replace Nx := Lib.hid (Nx.out.below hb)
          replace RX := Lib.hid (RX.out.below hb)
          replace NC := Lib.hid (NC.out.below hb)
          replace E1 := Lib.hid (blk_below E1.out hb)
          replace E2 := Lib.hid (blk_below E2.out hb)
          replace HB0 := Lib.hid (cbt HB0.out hb)
          clear hb
          have k_E1_0 := E1.out.cell 0
          have k_E2_0 := E2.out.cell 0
          go_wp2_with fail
          with_reducible refine (HLV.out _).mono ?_
          rintro e w1 ⟨rfl, hb⟩
          clear k_E1_0 k_E2_0
          replace Nx := Lib.hid (Nx.out.below hb)
          replace RX := Lib.hid (RX.out.below hb)
          replace NC := Lib.hid (NC.out.below hb)
          replace E1 := Lib.hid (blk_below E1.out hb)
          replace E2 := Lib.hid (blk_below E2.out hb)
          replace HB0 := Lib.hid (cbt HB0.out hb)
          clear hb
          have k_E1_0 := E1.out.cell 0
          have k_E2_0 := E2.out.cell 0
          go_wp2_with fail
          go_ret
          exact ⟨rfl, HB0.out⟩
    · have d1 : decide (60 < (nx : Int)) = false := decide_eq_false (by omega)
      have d2 : decide (60 < (s.size : Int)) = true := decide_eq_true (by omega)
      go_enter Try.func10, Try.ntmps10
      go_wp2_with fail
      refine (live_any _).mono ?_
      rintro e w1 ⟨rfl, hb1⟩
      go_wp2_with fail
      go_ret
      exact ⟨rfl, hb1⟩
  · have d1 : decide (60 < (nx : Int)) = true := decide_eq_true (by omega)
    go_enter Try.func10, Try.ntmps10
    go_wp2_with fail
    refine (live_any _).mono ?_
    rintro e w1 ⟨rfl, hb1⟩
    go_wp2_with fail
    go_ret
    exact ⟨rfl, hb1⟩
end Go.Proofs.Yteikhnmmkanndaa
