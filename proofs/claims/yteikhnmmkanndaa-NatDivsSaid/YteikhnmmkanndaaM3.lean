/- Laid together by merge.py out of: U64 Read NBytes NUp NDown SubMul Div64M Div64 Guess NSmall Clone. -/
import Derived.Test.YteikhnmmkanndaaM2
import Derived.Laws.BitsLemmas
import Derived.Test.YteikhnmmkanndaaM1
import Derived.StillTailTactics
import Derived.Laws.CopyOwn
/- Words of 64 bits: or, shifts; plain laws. -/
namespace Go.Proofs.Yteikhnmmkanndaa
open Go.RowKit

theorem u64_id (n : Int) (h0 : 0 ≤ n) (h1 : n < 2 ^ 64) : IntKind.u64.wrap n = n := by rw [PAll.wrap_u64]; omega
theorem u64_nat (n : Nat) : IntKind.u64.wrap (n : Int) = ((n % 2 ^ 64 : Nat) : Int) := by rw [PAll.wrap_u64]; omega
theorem or64 {T y i : Nat} (hT : T < 2 ^ i) (hi : i ≤ 64) (hy : y % 2 ^ i = 0) (hyb : y < 2 ^ 64) : bits .or .u64 (T : Int) (y : Int) = ((T + y : Nat) : Int) := by
  have hTb : T < 2 ^ 64 := Nat.lt_of_lt_of_le hT (Nat.pow_le_pow_right (by decide) hi)
  rw [(bits_nat .u64 64 (by decide) u64_id T y hTb hyb).2, Nat.or_comm]
  have hq : y = 2 ^ i * (y / 2 ^ i) := by
    have := Nat.div_add_mod y (2 ^ i)
    omega
  rw [hq, ← Nat.two_pow_add_eq_or_of_lt hT (y / 2 ^ i), ← hq, Nat.add_comm]
theorem or64' {T y i : Nat} (hT : T < 2 ^ i) (hi : i ≤ 64) (hy : y % 2 ^ i = 0) (hyb : y < 2 ^ 64) : bits .or .u64 (y : Int) (T : Int) = ((T + y : Nat) : Int) := by
  have hTb : T < 2 ^ 64 := Nat.lt_of_lt_of_le hT (Nat.pow_le_pow_right (by decide) hi)
  rw [← or64 hT hi hy hyb, (bits_nat .u64 64 (by decide) u64_id T y hTb hyb).2, (bits_nat .u64 64 (by decide) u64_id y T hyb hTb).2, Nat.or_comm]
theorem shl64 (x n : Nat) : IntKind.u64.wrap ((x : Int) * 2 ^ n) = ((x * 2 ^ n % 2 ^ 64 : Nat) : Int) := by
  rw [← u64_nat, Int.natCast_mul, Int.natCast_pow]
  rfl
theorem shr64 (x n : Nat) : (x : Int) / 2 ^ n = ((x / 2 ^ n : Nat) : Int) := by
  rw [Int.natCast_ediv, Int.natCast_pow]
  rfl

/-- the number of the i lowest bytes. -/
def bn (l : List Int) (i : Nat) : Nat := num 8 (byt l) i
theorem bn_succ (l : List Int) (i : Nat) : bn l (i + 1) = bn l i + 2 ^ (8 * i) * byt l i := rfl
theorem bn_lt {l : List Int} (h : Bys l) (i : Nat) : bn l i < 2 ^ (8 * i) := num_lt (byt_lt h) i
theorem read_word {l : List Int} (h : Bys l) {k q r : Nat} (hq : k / 8 = q) (hr : k % 8 = r) : bits .or .u64 ((dig 64 (bn l k) q : Nat) : Int) (IntKind.u64.wrap ((byt l k : Nat) * 2 ^ (8 * r))) = ((dig 64 (bn l (k + 1)) q : Nat) : Int) := by
  have hk : 2 ^ (8 * k) = 2 ^ (64 * q) * 2 ^ (8 * r) := by rw [← Nat.pow_add]; congr 1; omega
  have hb := byt_lt h k
  have hT : bn l k / 2 ^ (64 * q) < 2 ^ (8 * r) := by
    rw [Nat.div_lt_iff_lt_mul (Nat.two_pow_pos _), Nat.mul_comm, ← hk]
    exact bn_lt h k
  have hr8 : 2 ^ (8 * r) ≤ 2 ^ 56 := Nat.pow_le_pow_right (by decide) (by omega)
  have h1 : dig 64 (bn l k) q = bn l k / 2 ^ (64 * q) := Nat.mod_eq_of_lt (Nat.lt_of_lt_of_le hT (Nat.le_trans hr8 (by decide)))
  have hm : byt l k * 2 ^ (8 * r) ≤ 255 * 2 ^ (8 * r) := Nat.mul_le_mul_right _ (by omega)
  have hmb : byt l k * 2 ^ (8 * r) < 2 ^ 64 := by
    generalize byt l k * 2 ^ (8 * r) = z at *
    generalize 2 ^ (8 * r) = y at *
    omega
  have h2 : bn l (k + 1) / 2 ^ (64 * q) = bn l k / 2 ^ (64 * q) + byt l k * 2 ^ (8 * r) := by
    rw [bn_succ, hk, Nat.mul_assoc, Nat.add_mul_div_left _ _ (Nat.two_pow_pos _), Nat.mul_comm (byt l k)]
  have h3 : dig 64 (bn l (k + 1)) q = bn l k / 2 ^ (64 * q) + byt l k * 2 ^ (8 * r) := by
    rw [← h2]
    refine Nat.mod_eq_of_lt ?_
    rw [h2]
    generalize byt l k * 2 ^ (8 * r) = z at *
    generalize bn l k / 2 ^ (64 * q) = x at *
    generalize 2 ^ (8 * r) = y at *
    omega
  rw [shl64, Nat.mod_eq_of_lt hmb, h3, h1]
  exact or64 hT (by omega) (Nat.mul_mod_left _ _) hmb
theorem read_else {l : List Int} (h : Bys l) {k q j : Nat} (hq : k / 8 = q) (hj : j ≠ q) : dig 64 (bn l (k + 1)) j = dig 64 (bn l k) j := by
  rcases Nat.lt_or_ge j q with h1 | h1
  · rw [← dig_mod (x := bn l (k + 1)) h1, ← dig_mod (x := bn l k) h1, bn_succ]
    have hk : 2 ^ (8 * k) = 2 ^ (64 * q) * 2 ^ (8 * (k % 8)) := by rw [← Nat.pow_add]; congr 1; omega
    rw [hk, Nat.mul_assoc, Nat.add_mul_mod_self_left]
  · rw [dig_zero_of_lt (Nat.lt_of_lt_of_le (bn_lt h (k + 1)) (Nat.pow_le_pow_right (by decide) (by omega))),
      dig_zero_of_lt (Nat.lt_of_lt_of_le (bn_lt h k) (Nat.pow_le_pow_right (by decide) (by omega)))]
end Go.Proofs.Yteikhnmmkanndaa

/- The walk of Read. -/
namespace Go.Proofs.Yteikhnmmkanndaa
open Go.RowKit Go.Proofs.YteikhnmmkanndaaW.PrintWords

set_option maxRecDepth 100000 in
set_option maxHeartbeats 1000000 in
theorem nread_any (v : Value) (l : List Int) (w : World) (h : ByS w v l) (hb : Bys l) (hl : l.length ≤ 1099511627776) : Calls Try.prog 21 #[v] w fun e w' => ∃ u, e = .returned u ∧ N64 w' u (be l) ∧ Below w.heap.size w w' := by
  obtain ⟨A, c, rfl, hlc, hf⟩ := h
  have HF := Lib.hid (Kd.F_now hf)
  have HBY := Lib.hid hb
  have HBE := Lib.hid (be_lt hb)
  have HL0 := Lib.hid (show be l = bn l l.length from rfl)
  clear hf hb
  obtain ⟨L, hL⟩ : ∃ L, l.length = L := ⟨_, rfl⟩
  rw [hL] at hlc hl HF HBE HL0
  rw [hL]
  have HL := Lib.hid hL
  clear hL
  obtain ⟨N, hN⟩ : ∃ N, (L + 7) / 8 = N := ⟨_, rfl⟩
  have hN1 : L ≤ 8 * N := by omega
  have hN2 : 8 * N ≤ L + 7 := by omega
  have hmk := run_make_row' (P := Try.prog) 24 62 (.int .u64 0) 8 Try.underlying24 Try.info62 rfl .i64 .i64 N (by omega) (by omega)
  have hNi : ((L : Int) + 7) / 8 = (N : Int) := by omega
  clear hN
  have e0 := Blk.new w 26 #[.slice none 0 0]
  have hrow := World.rowIs_made (w.alloc (.cells #[.slice none 0 0] 26)) (.int .u64 0) N 62
  have hb0 := cba (Below.refl _ w) (.cells #[.slice none 0 0] 26)
  have hsz0 : w.heap.size + 1 ≤ (w.alloc (.cells #[.slice none 0 0] 26)).heap.size := by simp
  go_enter Try.func21, Try.ntmps21
  go_wp2_with fail
  obtain ⟨S, hS⟩ : ∃ S, w.alloc (.cells #[.slice none 0 0] 26) = S := ⟨_, rfl⟩
  have hsz1 : S.heap.size = w.heap.size + 1 := by rw [← hS]; simp
  rw [hS] at e0 hrow hb0 hsz0 ⊢
  clear hS
  rw [hsz1] at hrow
  have HSZ := Lib.hid hsz1
  have HROW := Lib.hid hrow
  have HE0 := Lib.hid e0
  clear hsz1 hrow e0
  clear hNi
  go_loopw [12] (fun v12 wr => ∃ k : Nat, k ≤ L ∧ v12 = .int .i64 k ∧ wr.rowIs (w.heap.size + 1) 62 N (fun j => .int .u64 (dig 64 (bn l k) j : Nat)) ∧ Below S.heap.size S wr) (fun v12 _ => L - (intOf v12).toNat)
  case atStart =>
    exact ⟨0, Nat.zero_le _, rfl, HROW.out.congr (fun j _ => by rw [show bn l 0 = 0 from rfl, dig_zero_of_lt (Nat.two_pow_pos _)]; rfl), cba (Below.refl _ _) _⟩
  case round =>
    obtain ⟨k, hk, rfl, hrw, hbr⟩ := hrel
    by_cases hlt : k < L
    · obtain ⟨q, hq⟩ : ∃ q, k / 8 = q := ⟨_, rfl⟩
      obtain ⟨r, hr⟩ : ∃ r, k % 8 = r := ⟨_, rfl⟩
      obtain ⟨p, hp⟩ : ∃ p, L - 1 - k = p := ⟨_, rfl⟩
      have hk8 : q < N := by omega
      have hr8 : r < 8 := by omega
      have hpL : p < L := by omega
      have j0 : (k : Int).tdiv 8 = (q : Int) := by rw [← hq]; rfl
      have j0' : (k : Int) / 8 = (q : Int) := by omega
      have j2 : (k : Int).tmod 8 = (r : Int) := by rw [← hr]; rfl
      have j2' : (k : Int) % 8 = (r : Int) := by omega
      have j5 : (L : Int) - 1 - (k : Int) = (p : Int) := by omega
      have j4 : IntKind.i64.wrap ((L : Int) - 1) = (L : Int) - 1 := IntWalk.i64_in _ (by omega)
      have HQ := Lib.hid hq
      have HR := Lib.hid hr
      have HP := Lib.hid hp
      clear hq hr hp
      obtain ⟨ad, rfl, hcA⟩ := Kd.at_int HF.out (p : Int) (Int.natCast_nonneg _) (by omega)
      rw [Int.toNat_natCast] at hcA
      have gA : wr.cell? (ad.add p) = some (.int .u8 (rd l (p : Int))) := by
        have h1 := (hb0.cell (World.block_lt_of_cell? w _ hcA)).trans hcA
        exact (hbr.cell (World.block_lt_of_cell? S _ h1)).trans h1
      have hri := rd_in HBY.out (p : Int)
      obtain ⟨bt, hbt⟩ : ∃ bt : Nat, rd l (p : Int) = (bt : Int) := ⟨(rd l (p : Int)).toNat, by omega⟩
      rw [hbt] at gA hri
      have HBT := Lib.hid hbt
      have r0 : wr.cell? ⟨w.heap.size + 1, q, none⟩ = some (.int .u64 (dig 64 (bn l k) q : Nat)) := hrw.cell hk8
      have fr := hrw.frozen q
      have HRW := Lib.hid hrw
      clear hcA hrw hbt
      generalize hdd : dig 64 (bn l k) q = d at r0
      have HD := Lib.hid hdd
      clear hdd
      have j1 : IntKind.i64.wrap (q : Int) = (q : Int) := IntWalk.i64_in _ (by omega)
      have j3 : IntKind.i64.wrap (8 * (r : Int)) = 8 * (r : Int) := IntWalk.i64_in _ (by omega)
      have j3' : IntKind.u64.wrap (8 * (r : Int)) = 8 * (r : Int) := by rw [PAll.wrap_u64]; omega
      have j10 : IntKind.u64.wrap (bt : Int) = (bt : Int) := by rw [PAll.wrap_u64]; omega
      have j6 : (0 : Int) ≤ (p : Int) := by omega
      have j7 : (p : Int) < (L : Int) := by omega
      have j8 : (0 : Int) ≤ (q : Int) := by omega
      have j9 : (q : Int) < (N : Int) := by omega
      have j11 : IntKind.i64.wrap (p : Int) = (p : Int) := IntWalk.i64_in _ (by omega)
      go_wp2_with fail
      go_still_tail 21, (by kernel_rfl)
      go_wp2
      go_roundw
      case rel =>
        refine ⟨k + 1, by omega, by go_num, ?_, hbr.setCell (p := ⟨w.heap.size + 1, q, none⟩) (by have := HSZ.out; exact Nat.le_of_eq this) _ |>.drew⟩
        have hw := read_word HBY.out HQ.out HR.out
        rw [HD.out, show byt l k = bt from by
          unfold byt
          rw [HL.out, show ((L : Int) - 1 - (k : Int)) = (p : Int) by omega, HBT.out, Int.toNat_natCast]] at hw
        rw [hw]
        refine (HRW.out.drew.set q _).congr (fun j _ => ?_)
        by_cases h1 : j = q
        · subst h1; rw [if_pos rfl]
        · rw [if_neg h1, read_else HBY.out HQ.out h1]
      case measure => simp [intOf]; omega
    · obtain rfl : k = L := by omega
      have HLT := Lib.hid (Nat.lt_of_lt_of_le HBE.out (Nat.pow_le_pow_right (show 0 < 2 by decide) (show 8 * k ≤ 64 * N by omega)))
      have HRW := Lib.hid hrw
      clear hrw
      go_wp2_with fail
      refine (trim_any _ _ _ (be l) _ (Nat.le_refl _) (by unfold maxLen; omega) (Digs.of_row HRW.out (Nat.le_refl _) (fun i hi => by rw [HL0.out])) HLT.out).mono ?_
      rintro e w4 ⟨v, rfl, ⟨A4, cap4, rfl, hl4, hm4, hd4⟩, hb4⟩
      have s4 := (blk_below HE0.out hbr).below hb4 (by have := hbr.size; omega)
      have k4 : w4.cell? ⟨w.heap.size, 0, none⟩ = some (.slice none 0 0) := s4.cell 0
      have f4 := s4.frozen 0
      have HD := Lib.hid (hd4.put s4 (.slice A4 (wl 64 (be l)) cap4))
      have hbb := (hb0.trans (hbr.mono (by omega))).trans (hb4.mono (by have := hbr.size; omega))
      clear hd4
      go_wp2
      exact bodyPost_ret (v := .agg #[.slice A4 (wl 64 (be l)) cap4]) (by simp [results, Try.results21, go_sem, k4]) rfl ⟨_, rfl, ⟨A4, cap4, rfl, hl4, hm4, HD.out⟩, hbb.setCell (p := ⟨w.heap.size, 0, none⟩) (Nat.le_refl _) _⟩
end Go.Proofs.Yteikhnmmkanndaa

/- The walks of Bytes and of Is. -/
namespace Go.Proofs.Yteikhnmmkanndaa
open Go.RowKit Go.Proofs.YteikhnmmkanndaaW.PrintWords

theorem byte_dig {x k q r : Nat} (hq : k / 8 = q) (hr : k % 8 = r) : dig 64 x q / 2 ^ (8 * r) % 256 = dig 8 x k := by
  unfold dig
  have hk : 2 ^ (8 * k) = 2 ^ (64 * q) * 2 ^ (8 * r) := by rw [← Nat.pow_add]; congr 1; omega
  have h64 : (2 : Nat) ^ 64 = 2 ^ (8 * r) * 2 ^ (64 - 8 * r) := by rw [← Nat.pow_add]; congr 1; omega
  rw [hk, ← Nat.div_div_eq_div_mul, h64, Nat.mod_mul_right_div_self]
  exact Nat.mod_mod_of_dvd _ ⟨2 ^ (56 - 8 * r), by rw [show (256 : Nat) = 2 ^ 8 from rfl, ← Nat.pow_add]; congr 1; omega⟩
theorem byS_of_row {w : World} {g n : Nat} {f : Nat → Nat} (h : w.rowIs g 5 n (fun j => .int .u8 (f j : Nat))) (hn : n ≤ 1099511627776) : ByS w (.slice (some ⟨g, 0, none⟩) n n) (fl f n) := by
  refine ⟨some ⟨g, 0, none⟩, n, by rw [fl_len], by rw [fl_len]; exact Nat.le_refl _, ?_⟩
  intro W' hW
  have hb : W'.heap[g]? = w.heap[g]? := hW g trivial h.lt
  refine Kd.C_of_reads (d := 0) ⟨rfl, by rw [fl_len]; omega, fun _ => ⟨⟨g, 0, none⟩, rfl, fun j hj => ?_⟩⟩
  rw [fl_len] at hj
  have hc := h.cell hj
  rw [show (fl f n).getD j 0 = ((f j : Nat) : Int) from by rw [List.getD_eq_getElem?_getD, fl_get, if_pos hj]; rfl]
  rw [← hc]
  rw [show (⟨g, 0, none⟩ : Addr).add j = ⟨g, j, none⟩ by
    cases j with
    | zero => rfl
    | succ j => simp [Addr.add]]
  exact World.cell?_of_block hb

set_option maxRecDepth 100000 in
set_option maxHeartbeats 1000000 in
theorem nbytes_any (v : Value) (x : Nat) (w : World) (h : N64 w v x) (hx : wl 64 x ≤ 1099511627) : Calls Try.prog 104 #[v] w fun e w' => ∃ u, e = .returned u ∧ ByS w' u (rev8 x (wl 8 x)) ∧ Below w.heap.size w w' := by
  have HN := Lib.hid h
  have hbl := bl_le_wl (k := 64) (by decide) x
  have hw8 : (bl x + 7) / 8 = wl 8 x := rfl
  obtain ⟨A, ca, rfl, hla, hma, hda⟩ := h
  have HDA := Lib.hid hda
  have HLT := Lib.hid (wl_lt (k := 8) (by decide) x)
  have hle : wl 8 x ≤ 8 * wl 64 x := by omega
  have hbits := fun W h1 => bits_any (.agg #[.slice A (wl 64 x) ca]) x W h1 (by omega)
  clear hda
  unfold maxLen at hma
  obtain ⟨m, hm⟩ : ∃ m, wl 64 x = m := ⟨_, rfl⟩
  rw [hm] at hla hx HDA HN hbl hle hbits ⊢
  clear hm
  have HBITS := Lib.hid hbits
  clear hbits
  obtain ⟨p, hp⟩ : ∃ p, bl x = p := ⟨_, rfl⟩
  rw [hp] at hbl hw8 HBITS
  clear hp
  obtain ⟨n, hn⟩ : ∃ n, wl 8 x = n := ⟨_, rfl⟩
  rw [hn] at hw8 HLT hle ⊢
  clear hn
  have hw8' : ((p : Int) + 7) / 8 = (n : Int) := by omega
  have hnb : n ≤ 8796093022208 := by omega
  have hmk := run_make_row' (P := Try.prog) 22 5 (.int .u8 0) 1 Try.underlying22 PAll.info5 rfl .i64 .i64 n (by omega) (by omega)
  have e0 := Blk.new w 26 #[.slice A m ca]
  have hb0 := cba (Below.refl _ w) (.cells #[.slice A m ca] 26)
  go_enter Try.func104, Try.ntmps104
  go_wp2_with fail
  refine (HBITS.out _ (HN.out.below hb0)).mono ?_
  rintro e S ⟨rfl, hb1⟩
  have hbS := cbt hb0 hb1
  have hg : w.heap.size + 1 ≤ S.heap.size := by have := hb1.size; simp at this; exact this
  have S0 := Lib.hid (blk_below e0 hb1)
  have HROW := Lib.hid (World.rowIs_made S (.int .u8 0) n 5)
  clear hb0 hb1 e0 hw8
  go_upto_region 2 with (fail)
  rw [hw8']
  clear hw8'
  go_wp2_with fail
  go_loopw [13] (fun v13 wr => ∃ k : Nat, k ≤ n ∧ v13 = .int .i64 k ∧ wr.rowIs S.heap.size 5 n (fun j => .int .u8 ((if n ≤ j + k then dig 8 x (n - 1 - j) else 0 : Nat) : Int)) ∧ Below S.heap.size S wr) (fun v13 _ => n - (intOf v13).toNat)
  case atStart =>
    exact ⟨0, Nat.zero_le _, rfl, HROW.out.congr (fun j hj => by rw [if_neg (by omega)]; rfl), cba (Below.refl _ _) _⟩
  case round =>
    obtain ⟨k, hk, rfl, hrw, hbr⟩ := hrel
    have g0 : wr.cell? ⟨w.heap.size, 0, none⟩ = some (.slice A m ca) := (blk_below S0.out hbr).cell 0
    by_cases hlt : k < n
    · obtain ⟨q, hq⟩ : ∃ q, k / 8 = q := ⟨_, rfl⟩
      obtain ⟨r, hr⟩ : ∃ r, k % 8 = r := ⟨_, rfl⟩
      obtain ⟨t, ht⟩ : ∃ t, n - 1 - k = t := ⟨_, rfl⟩
      have hqm : q < m := by omega
      have hr8 : r < 8 := by omega
      have htn : t < n := by omega
      have j0' : (k : Int) / 8 = (q : Int) := by omega
      have j2' : (k : Int) % 8 = (r : Int) := by omega
      have j5 : (n : Int) - 1 - (k : Int) = (t : Int) := by omega
      obtain ⟨bA, oA, rfl, hltA, hcA⟩ := HDA.out q hqm
      have gA : wr.cell? ⟨bA, oA + q, none⟩ = some (.int .u64 (dig 64 x q : Nat)) := (hbr.cell (p := ⟨bA, oA + q, none⟩) (show bA < S.heap.size by omega)).trans ((hbS.cell (p := ⟨bA, oA + q, none⟩) hltA).trans hcA)
      have r0 : wr.cell? ⟨S.heap.size, t, none⟩ = some (.int .u8 ((if n ≤ t + k then dig 8 x (n - 1 - t) else 0 : Nat) : Int)) := hrw.cell htn
      rw [if_neg (by omega)] at r0
      have fr := hrw.frozen t
      have HBD := Lib.hid (byte_dig (x := x) hq hr)
      have HQ := Lib.hid hq
      have HR := Lib.hid hr
      have HT := Lib.hid ht
      have HRW := Lib.hid hrw
      clear hcA hrw hq hr ht
      generalize hdd : dig 64 x q = d at gA HBD
      clear hdd
      have j3' : IntKind.u64.wrap (8 * (r : Int)) = 8 * (r : Int) := by rw [PAll.wrap_u64]; omega
      go_wp2_with fail
      go_roundw
      case rel =>
        refine ⟨k + 1, by omega, by go_num, ?_, hbr.setCell (p := ⟨S.heap.size, t, none⟩) (Nat.le_refl _) _⟩
        rw [shr64, show (((d / 2 ^ (8 * r) : Nat) : Int) % 256) = ((d / 2 ^ (8 * r) % 256 : Nat) : Int) from rfl, HBD.out]
        have ht := HT.out
        refine (HRW.out.set t _).congr (fun j hj => ?_)
        by_cases h1 : j = t
        · subst h1
          rw [if_pos rfl, if_pos (by omega), show n - 1 - j = k by omega]
        · rw [if_neg h1]
          by_cases h2 : n ≤ j + k
          · rw [if_pos h2, if_pos (by omega)]
          · rw [if_neg h2, if_neg (by omega)]
      case measure => simp [intOf]; omega
    · obtain rfl : k = n := by omega
      have HRW := Lib.hid hrw
      clear hrw
      go_wp2
      go_ret
      refine ⟨_, rfl, ?_, hbS.trans (hbr.mono (by omega))⟩
      exact byS_of_row (f := fun i => dig 8 x (k - 1 - i)) (HRW.out.congr (fun j hj => by rw [if_pos (by omega)])) (by omega)

/-- what lies at a slice of bytes. -/
theorem ByS.at_ {w : World} {A : Option Addr} {m c : Nat} {f : Nat → Nat} {n : Nat} (h : ByS w (.slice A m c) (fl f n)) (i : Nat) (hi : i < n) : ∃ ad, A = some ad ∧ w.cell? (ad.add i) = some (.int .u8 (f i : Nat)) := by
  obtain ⟨h1, _, h2⟩ := Kd.V_reads' h
  rw [fl_len] at h1 h2
  obtain ⟨ad, e, hc⟩ := Kd.at_int h2 (i : Int) (Int.natCast_nonneg _) (by omega)
  rw [rd_fl hi, Int.toNat_natCast] at hc
  exact ⟨ad, e, hc⟩
set_option maxRecDepth 100000 in
set_option maxHeartbeats 1000000 in
theorem is_any (va vb : Value) (x y : Nat) (w : World) (ha : N64 w va x) (hb : R256 w vb y) (hx : wl 64 x ≤ 1099511627) (hy : wl 8 y ≤ 1000000000) : Calls Try.prog 26 #[va, vb] w fun e w' => e = .returned (.bool (decide (x = y))) ∧ Below w.heap.size w w' := by
  have HA := Lib.hid ha
  have HB := Lib.hid hb
  have HNB := Lib.hid (fun W h => nbytes_any va x W h hx)
  have HRB := Lib.hid (fun W (h : R256 W vb y) => rbytes_any h hy)
  obtain ⟨A, ca, rfl, hla, hma, hda⟩ := ha
  have hb0 := cba (Below.refl _ w) (.cells #[.slice A (wl 64 x) ca] 26)
  have hwx : wl 8 x ≤ 8 * wl 64 x := by
    have := bl_le_wl (k := 64) (by decide) x
    have h2 : wl 8 x = (bl x + 7) / 8 := rfl
    omega
  have HEX := Lib.hid (fun (h : wl 8 x = wl 8 y) => dig_ext (k := 8) (wl 8 x) (wl_lt (by decide) x) (y := y) (by rw [h]; exact wl_lt (by decide) y))
  clear hda
  unfold maxLen at hma
  obtain ⟨m, hm⟩ : ∃ m, wl 64 x = m := ⟨_, rfl⟩
  rw [hm] at hla hx HA HNB hb0 hwx ⊢
  clear hm
  obtain ⟨D, hD⟩ : ∃ D, decide (x = y) = D := ⟨_, rfl⟩
  have HD := Lib.hid hD
  have HWL := Lib.hid (fun (h : x = y) => show wl 8 x = wl 8 y by rw [h])
  rw [hD]
  clear hD
  obtain ⟨n, hn⟩ : ∃ n, wl 8 x = n := ⟨_, rfl⟩
  obtain ⟨l, hl⟩ : ∃ l, wl 8 y = l := ⟨_, rfl⟩
  rw [hn] at HNB HEX HWL hwx
  rw [hl] at HRB HEX HWL hy
  clear hn hl
  have HZ := Lib.hid hb0
  clear hb0
  go_enter Try.func26, Try.ntmps26
  go_wp2_with fail
  refine (HNB.out _ (HA.out.below HZ.out)).mono ?_
  rintro e w1 ⟨u, rfl, hu, hb1⟩
  have H1 := Lib.hid (cbt HZ.out hb1)
  have HU := Lib.hid hu
  clear hu hb1
  go_wp2_with fail
  refine (HRB.out _ (HB.out.below H1.out)).mono ?_
  rintro e S ⟨v, rfl, hv, hb2⟩
  have H2 := Lib.hid (cbt H1.out hb2)
  have hu := HU.out.below hb2
  clear HU hb2
  obtain ⟨U, cu, hU, hul, _⟩ := id hu
  obtain ⟨V, cv, hV, hvl, _⟩ := id hv
  rw [rev8, fl_len] at hU hul hV hvl
  subst hU
  subst hV
  rw [rev8] at hu hv
  have HU := Lib.hid hu
  have HV := Lib.hid hv
  clear hu hv
  by_cases hnl : n = l
  · subst hnl
    go_wp2_with fail
    go_loopw [7] (fun v7 wr => ∃ k : Nat, k ≤ n ∧ v7 = .int .i64 k ∧ Hid (∀ i, i < k → dig 8 x (n - 1 - i) = dig 8 y (n - 1 - i)) ∧ Drew S wr) (fun v7 _ => n - (intOf v7).toNat)
    case atStart => exact ⟨0, Nat.zero_le _, rfl, Lib.hid (fun i hi => absurd hi (by omega)), Drew.refl _⟩
    case round =>
      obtain ⟨k, hk, rfl, hpre, hdr⟩ := hrel
      by_cases hlt : k < n
      · obtain ⟨aU, rfl, gU0⟩ := HU.out.at_ k hlt
        obtain ⟨aV, rfl, gV0⟩ := HV.out.at_ k hlt
        have gU := (hdr.cell (aU.add k)).trans gU0
        have gV := (hdr.cell (aV.add k)).trans gV0
        have i0 : (0 : Int) ≤ (k : Int) := by omega
        have i1 : (k : Int) < (n : Int) := by omega
        clear gU0 gV0
        by_cases hd : dig 8 x (n - 1 - k) = dig 8 y (n - 1 - k)
        · have HP := Lib.hid (show ∀ i, i < k + 1 → dig 8 x (n - 1 - i) = dig 8 y (n - 1 - i) from fun i hi => by
            rcases Nat.lt_or_ge i k with h | h
            · exact hpre.out i h
            · rw [show i = k by omega, hd])
          rw [← hd] at gV
          clear hd
          go_wp2_with fail
          go_quiet (fail)
          go_wp2
          go_roundw
          case rel => exact ⟨k + 1, by omega, by go_num, HP, hdr.more _⟩
          case measure => simp [intOf]; omega
        · have hne : (((dig 8 x (n - 1 - k) : Nat) : Int) != ((dig 8 y (n - 1 - k) : Nat) : Int)) = true := by rw [bne_iff_ne]; omega
          have HF := Lib.hid (show D = false from by rw [← HD.out, decide_eq_false_iff_not]; rintro rfl; exact hd rfl)
          clear hd
          generalize dig 8 x (n - 1 - k) = d1 at gU hne
          generalize dig 8 y (n - 1 - k) = d2 at gV hne
          go_wp2_with fail
          go_quiet (fail)
          go_wp2
          go_ret
          exact ⟨by rw [HF.out]; rfl, below_drewN (cbt H2.out hdr.below) _⟩
      · obtain rfl : k = n := by omega
        have HT := Lib.hid (show D = true from by
          rw [← HD.out, decide_eq_true_iff]
          exact HEX.out (by first | rfl | trivial) (fun i hi => by have := hpre.out (k - 1 - i) (by omega); rwa [show k - 1 - (k - 1 - i) = i by omega] at this))
        go_wp2
        go_ret
        exact ⟨by rw [HT.out]; rfl, cbt H2.out hdr.below⟩
  · have HF := Lib.hid (show D = false from by rw [← HD.out, decide_eq_false_iff_not]; intro h; exact hnl (HWL.out h))
    have hne : ((n : Int) != (l : Int)) = true := by rw [bne_iff_ne]; omega
    clear hnl
    go_wp2
    go_ret
    exact ⟨by rw [HF.out]; rfl, H2.out⟩
end Go.Proofs.Yteikhnmmkanndaa

/- The walk of Up. -/
namespace Go.Proofs.Yteikhnmmkanndaa
open Go.RowKit Go.Proofs.YteikhnmmkanndaaW.PrintWords

/-- what x's i lowest digits come to, times 2^(64 k + r). -/
def upV (x k r i : Nat) : Nat := x % 2 ^ (64 * i) * 2 ^ (64 * k + r)
theorem upV_zero (x k r : Nat) : upV x k r 0 = 0 := by unfold upV; rw [Nat.mul_zero, Nat.pow_zero, Nat.mod_one, Nat.zero_mul]
theorem upV_succ (x k r i : Nat) : upV x k r (i + 1) = upV x k r i + 2 ^ (64 * (i + k)) * (dig 64 x i * 2 ^ r) := by
  unfold upV
  rw [mod_succ, Nat.add_mul, Nat.mul_add 64, Nat.pow_add 2 (64 * k), Nat.pow_add 2 (64 * i), Nat.mul_assoc (2 ^ (64 * i)), Nat.mul_assoc (2 ^ (64 * i)), Nat.mul_left_comm (dig 64 x i)]
theorem upV_lt (x k r i : Nat) : upV x k r i < 2 ^ (64 * (i + k)) * 2 ^ r := by
  unfold upV
  rw [Nat.mul_add, Nat.pow_add 2 (64 * i), Nat.pow_add 2 (64 * k), Nat.mul_assoc]
  exact Nat.mul_lt_mul_of_pos_right (Nat.mod_lt _ (Nat.two_pow_pos _)) (Nat.mul_pos (Nat.two_pow_pos _) (Nat.two_pow_pos _))
theorem upV_top (x k r i : Nat) : upV x k r i / 2 ^ (64 * (i + k)) < 2 ^ r := by
  rw [Nat.div_lt_iff_lt_mul (Nat.two_pow_pos _), Nat.mul_comm]
  exact upV_lt x k r i
theorem upV_div (x k r i : Nat) : upV x k r (i + 1) / 2 ^ (64 * (i + k)) = upV x k r i / 2 ^ (64 * (i + k)) + dig 64 x i * 2 ^ r := by
  rw [upV_succ, Nat.add_mul_div_left _ _ (Nat.two_pow_pos _)]
theorem join_mod {T y r : Nat} (hT : T < 2 ^ r) (hr : r ≤ 64) (hy : y % 2 ^ r = 0) : (T + y) % 2 ^ 64 = T + y % 2 ^ 64 ∧ (T + y) / 2 ^ 64 = y / 2 ^ 64 := by
  have h64 : (2 : Nat) ^ 64 = 2 ^ r * 2 ^ (64 - r) := by rw [← Nat.pow_add]; congr 1; omega
  have h1 : y % 2 ^ 64 % 2 ^ r = 0 := by rw [h64, Nat.mod_mul_right_mod, hy]
  have h2 : y % 2 ^ 64 < 2 ^ 64 := Nat.mod_lt _ (by decide)
  have h3 : T + y % 2 ^ 64 < 2 ^ 64 := by
    have h4 : y % 2 ^ 64 = 2 ^ r * (y % 2 ^ 64 / 2 ^ r) := by
      have := Nat.div_add_mod (y % 2 ^ 64) (2 ^ r)
      omega
    have h5 : y % 2 ^ 64 / 2 ^ r < 2 ^ (64 - r) := by
      rw [Nat.div_lt_iff_lt_mul (Nat.two_pow_pos _), Nat.mul_comm, ← h64]
      exact h2
    have h6 : 2 ^ r * (y % 2 ^ 64 / 2 ^ r + 1) ≤ 2 ^ r * 2 ^ (64 - r) := Nat.mul_le_mul_left _ h5
    rw [← h64, Nat.mul_add, Nat.mul_one] at h6
    omega
  have h7 := Nat.div_add_mod y (2 ^ 64)
  constructor
  · rw [Nat.add_mod, Nat.mod_eq_of_lt (show T < 2 ^ 64 by omega), Nat.mod_eq_of_lt h3]
  · rw [show T + y = (T + y % 2 ^ 64) + 2 ^ 64 * (y / 2 ^ 64) by omega, Nat.add_mul_div_left _ _ (by decide), Nat.div_eq_of_lt h3, Nat.zero_add]
theorem up_word1 (x k r i : Nat) (hr : r < 64) : bits .or .u64 ((dig 64 (upV x k r i) (i + k) : Nat) : Int) (IntKind.u64.wrap ((dig 64 x i : Nat) * 2 ^ r)) = ((dig 64 (upV x k r (i + 1)) (i + k) : Nat) : Int) := by
  have hT := upV_top x k r i
  have h1 : dig 64 (upV x k r i) (i + k) = upV x k r i / 2 ^ (64 * (i + k)) := Nat.mod_eq_of_lt (Nat.lt_of_lt_of_le hT (Nat.pow_le_pow_right (by decide) (by omega)))
  have h2 : dig 64 (upV x k r (i + 1)) (i + k) = upV x k r i / 2 ^ (64 * (i + k)) + dig 64 x i * 2 ^ r % 2 ^ 64 := by
    unfold dig at h1 ⊢
    rw [upV_div]
    exact (join_mod hT (by omega) (Nat.mul_mod_left _ _)).1
  rw [shl64, h1, h2]
  refine or64 hT (by omega) ?_ (Nat.mod_lt _ (by decide))
  rw [show (2 : Nat) ^ 64 = 2 ^ r * 2 ^ (64 - r) from by rw [← Nat.pow_add]; congr 1; omega, Nat.mod_mul_right_mod, Nat.mul_mod_left]
theorem up_word2 (x k r i : Nat) (hr : r < 64) : dig 64 (upV x k r (i + 1)) (i + k + 1) = dig 64 x i / 2 ^ (64 - r) := by
  have hT := upV_top x k r i
  have hd := dig_lt 64 x i
  have h3 : dig 64 x i * 2 ^ r / 2 ^ 64 = dig 64 x i / 2 ^ (64 - r) := by
    rw [show (2 : Nat) ^ 64 = 2 ^ r * 2 ^ (64 - r) from by rw [← Nat.pow_add]; congr 1; omega, Nat.mul_comm (dig 64 x i), Nat.mul_div_mul_left _ _ (Nat.two_pow_pos _)]
  unfold dig at hd h3 ⊢
  rw [pow_succ_mul, ← Nat.div_div_eq_div_mul, upV_div, (join_mod hT (by omega) (Nat.mul_mod_left _ _)).2]
  unfold dig
  rw [h3]
  exact Nat.mod_eq_of_lt (Nat.lt_of_le_of_lt (Nat.div_le_self _ _) hd)
theorem up_else {x k r i j : Nat} (hr : r < 64) (h0 : j ≠ i + k) (h1 : j ≠ i + k + 1) : dig 64 (upV x k r (i + 1)) j = dig 64 (upV x k r i) j := by
  rcases Nat.lt_or_ge j (i + k) with h | h
  · rw [← dig_mod (x := upV x k r (i + 1)) h, ← dig_mod (x := upV x k r i) h, upV_succ, Nat.add_mul_mod_self_left]
  · have hb : 2 ^ (64 * (i + 1 + k)) * 2 ^ r ≤ 2 ^ (64 * j) := by
      rw [← Nat.pow_add]
      exact Nat.pow_le_pow_right (by decide) (by omega)
    have hc : 2 ^ (64 * (i + k)) * 2 ^ r ≤ 2 ^ (64 * j) := by
      rw [← Nat.pow_add]
      exact Nat.pow_le_pow_right (by decide) (by omega)
    rw [dig_zero_of_lt (Nat.lt_of_lt_of_le (upV_lt x k r (i + 1)) hb), dig_zero_of_lt (Nat.lt_of_lt_of_le (upV_lt x k r i) hc)]
theorem up_none (x k i : Nat) : dig 64 (upV x k 0 (i + 1)) (i + k + 1) = dig 64 (upV x k 0 i) (i + k + 1) := by
  rw [up_word2 x k 0 i (by decide), Nat.div_eq_of_lt (dig_lt 64 x i), dig_zero_of_lt]
  exact Nat.lt_of_lt_of_le (upV_lt x k 0 i) (by rw [← Nat.pow_add]; exact Nat.pow_le_pow_right (by decide) (by omega))

theorem zero_no (v : Value) (x : Nat) (w : World) (h : N64 w v x) (h0 : 0 < x) : Calls Try.prog 29 #[v] w fun e w' => e = .returned (.bool false) ∧ Below w.heap.size w w' :=
  (zero_any v x w h).mono (fun _ _ ⟨he, hb⟩ => ⟨by rw [he, decide_eq_false (by omega)], hb⟩)
/-- what a function answers that makes a number. -/
def Mk64 (w : World) (x : Nat) : Ending → World → Prop := fun e w' => ∃ v, e = .returned v ∧ N64 w' v x ∧ Below w.heap.size w w'

set_option maxRecDepth 100000 in
set_option maxHeartbeats 1000000 in
theorem nup_none (v : Value) (x : Nat) (w : World) (h : N64 w v x) (n : Int) (hn : n ≤ 0) : Calls Try.prog 31 #[v, .int .i64 n] w (Mk64 w x) := by
  have HN := Lib.hid h
  obtain ⟨A, ca, rfl, hla, hma, hda⟩ := h
  obtain ⟨m, hm⟩ : ∃ m, wl 64 x = m := ⟨_, rfl⟩
  rw [hm] at HN ⊢
  clear hm hda hla
  go_enter Try.func31, Try.ntmps31
  go_wp2_with fail
  refine bodyPost_ret (v := .agg #[.slice A m ca]) (by simp [results, Try.results31, go_sem]) rfl ⟨_, rfl, HN.out.below ?_, ?_⟩
  all_goals exact ((cba (cba (Below.refl _ w) (.cells #[.slice A m ca] 26)) (.cells #[.slice A m ca] 26)))
set_option maxRecDepth 100000 in
set_option maxHeartbeats 1000000 in
theorem nup_zero (v : Value) (w : World) (h : N64 w v 0) (n : Int) (hn : 0 < n) : Calls Try.prog 31 #[v, .int .i64 n] w (Mk64 w 0) := by
  have HN := Lib.hid h
  obtain ⟨A, ca, rfl, hla, hma, hda⟩ := h
  rw [wl_zero (by decide)] at HN ⊢
  have hb0 := cba (cba (Below.refl _ w) (.cells #[.slice A 0 ca] 26)) (.cells #[.slice none 0 0] 26)
  have e0 := (Blk.new w 26 #[.slice A 0 ca]).alloc (.cells #[.slice none 0 0] 26)
  have e1 := Blk.new (w.alloc (.cells #[.slice A 0 ca] 26)) 26 #[.slice none 0 0]
  simp only [World.size_alloc] at e1
  clear hda hla
  go_enter Try.func31, Try.ntmps31
  go_wp2_with fail
  refine (zero_any _ 0 _ (HN.out.below hb0)).mono ?_
  rintro e w1 ⟨rfl, hb1⟩
  have s0 := blk_below e0 hb1
  have s1 := blk_below e1 hb1
  have k0 : w1.cell? ⟨w.heap.size, 0, none⟩ = some (.slice A 0 ca) := s0.cell 0
  have k1 : w1.cell? ⟨w.heap.size + 1, 0, none⟩ = some (.slice none 0 0) := s1.cell 0
  have f1 := s1.frozen 0
  have hbb := (cbt hb0 hb1).setCell (p := ⟨w.heap.size + 1, 0, none⟩) (show w.heap.size ≤ w.heap.size + 1 by omega) (.slice A 0 ca)
  go_wp2_with fail
  refine bodyPost_ret (v := .agg #[.slice A 0 ca]) (by simp [results, Try.results31, go_sem, k1]) rfl ⟨_, rfl, HN.out.below ?_, ?_⟩
  all_goals exact hbb
set_option maxRecDepth 100000 in
set_option maxHeartbeats 2000000 in
theorem nup_pos (v : Value) (x : Nat) (w : World) (h : N64 w v x) (hx0 : 0 < x) (hx : wl 64 x ≤ 1099511627) (nn : Nat) (hn : 0 < nn) (hnn : nn ≤ 1099511627) : Calls Try.prog 31 #[v, .int .i64 (nn : Nat)] w (Mk64 w (x * 2 ^ nn)) := by
  have HN := Lib.hid h
  obtain ⟨A, ca, rfl, hla, hma, hda⟩ := h
  have HDA := Lib.hid hda
  have HXL := Lib.hid (wl_lt (k := 64) (by decide) x)
  have HZ := Lib.hid (fun W h => zero_no (.agg #[.slice A (wl 64 x) ca]) x W h hx0)
  obtain ⟨k, hk⟩ : ∃ k, nn / 64 = k := ⟨_, rfl⟩
  obtain ⟨r, hr⟩ : ∃ r, nn % 64 = r := ⟨_, rfl⟩
  have HNN := Lib.hid (show 64 * k + r = nn by omega)
  have hk1 : k ≤ 1099511627 := by omega
  have hr64 : r < 64 := by omega
  have j0 : (nn : Int) / 64 = (k : Int) := by omega
  have j1 : (nn : Int) % 64 = (r : Int) := by omega
  have j2 : IntKind.u64.wrap (r : Int) = (r : Int) := by rw [PAll.wrap_u64]; omega
  clear hda hk hr hx0
  unfold maxLen at hma
  obtain ⟨L, hL⟩ : ∃ L, wl 64 x = L := ⟨_, rfl⟩
  rw [hL] at hla hx HDA HN HXL HZ ⊢
  clear hL
  have hmk := run_make_row' (P := Try.prog) 24 62 (.int .u64 0) 8 Try.underlying24 Try.info62 rfl .i64 .i64 (L + k + 1) (by omega) (by omega)
  simp only [Int.natCast_add, Int.natCast_one] at hmk
  have hb0 := cba (cba (Below.refl _ w) (.cells #[.slice A L ca] 26)) (.cells #[.slice none 0 0] 26)
  have e0 := (Blk.new w 26 #[.slice A L ca]).alloc (.cells #[.slice none 0 0] 26)
  have e1 := Blk.new (w.alloc (.cells #[.slice A L ca] 26)) 26 #[.slice none 0 0]
  have hsz : w.heap.size + 2 ≤ ((w.alloc (.cells #[.slice A L ca] 26)).alloc (.cells #[.slice none 0 0] 26)).heap.size := by simp
  simp only [World.size_alloc] at e1
  go_enter Try.func31, Try.ntmps31
  go_wp2_with fail
  refine (HZ.out _ (HN.out.below hb0)).mono ?_
  rintro e S ⟨rfl, hb1⟩
  have s0 := blk_below e0 hb1
  have hbS := cbt hb0 hb1
  have hg : w.heap.size + 2 ≤ S.heap.size := by have := hb1.size; omega
  have S0 := Lib.hid s0
  have S1 := Lib.hid (blk_below e1 hb1)
  have q0 : S.cell? ⟨w.heap.size, 0, none⟩ = some (.slice A L ca) := s0.cell 0
  have q0' : (S.alloc (.cells (madeCells #[.int .u64 0] (L + k + 1)) 62)).cell? ⟨w.heap.size, 0, none⟩ = some (.slice A L ca) := (s0.alloc _).cell 0
  have HROW := Lib.hid (World.rowIs_made S (.int .u64 0) (L + k + 1) 62)
  clear e0 e1 hb0 hb1 s0 hsz
  go_upto_region 4 with (fail)
  rw [j1]
  clear j0 j1 j2
  go_wp2_with fail
  clear q0 q0'
  go_loopw [32] (fun v32 wr => ∃ i : Nat, i ≤ L ∧ v32 = .int .i64 i ∧ wr.rowIs S.heap.size 62 (L + k + 1) (fun j => .int .u64 (dig 64 (upV x k r i) j : Nat)) ∧ Below S.heap.size S wr) (fun v32 _ => L - (intOf v32).toNat)
  case atStart =>
    exact ⟨0, Nat.zero_le _, rfl, HROW.out.congr (fun j _ => by rw [upV_zero, dig_zero_of_lt (Nat.two_pow_pos _)]; rfl), cba (Below.refl _ _) _⟩
  case round =>
    obtain ⟨i, hi, rfl, hrw, hbr⟩ := hrel
    have g0 : wr.cell? ⟨w.heap.size, 0, none⟩ = some (.slice A L ca) := (blk_below S0.out hbr).cell 0
    by_cases hlt : i < L
    · obtain ⟨bA, oA, rfl, hltA, hcA⟩ := HDA.out i hlt
      have gA : wr.cell? ⟨bA, oA + i, none⟩ = some (.int .u64 (dig 64 x i : Nat)) := (hbr.cell (p := ⟨bA, oA + i, none⟩) (show bA < S.heap.size by omega)).trans ((hbS.cell (p := ⟨bA, oA + i, none⟩) hltA).trans hcA)
      have r0 : wr.cell? ⟨S.heap.size, i + k, none⟩ = some (.int .u64 (dig 64 (upV x k r i) (i + k) : Nat)) := hrw.cell (by omega)
      have r1 : wr.cell? ⟨S.heap.size, i + k + 1, none⟩ = some (.int .u64 (dig 64 (upV x k r i) (i + k + 1) : Nat)) := hrw.cell (by omega)
      have fr := hrw.frozen (i + k)
      have fr1 := hrw.frozen (i + k + 1)
      have HW1 := Lib.hid (up_word1 x k r i hr64)
      have HW2 := Lib.hid (up_word2 x k r i hr64)
      have HRW := Lib.hid hrw
      clear hcA hrw
      generalize hd1 : dig 64 x i = d at gA HW1 HW2
      generalize hd2 : dig 64 (upV x k r i) (i + k) = e0 at r0 HW1
      generalize hd3 : dig 64 (upV x k r i) (i + k + 1) = e1 at r1
      clear hd1 hd2 hd3
      rcases Nat.eq_zero_or_pos r with hr0 | hr0
      · have hr1 : r ≤ 0 := by omega
        have HR0 := Lib.hid hr0
        clear hr0
        go_wp2_with fail
        go_roundw
        case rel =>
          refine ⟨i + 1, by omega, by go_num, ?_, hbr.setCell (p := ⟨S.heap.size, i + k, none⟩) (Nat.le_refl _) _⟩
          rw [HW1.out]
          refine (HRW.out.set (i + k) _).congr (fun j hj => ?_)
          by_cases h1 : j = i + k
          · subst h1; rw [if_pos rfl]
          · rw [if_neg h1]
            by_cases h2 : j = i + k + 1
            · subst h2
              have h3 := HR0.out
              subst h3
              rw [up_none]
            · rw [up_else hr64 h1 h2]
        case measure => simp [intOf]; omega
      · have k1 : 0 < (r : Int) := by omega
        go_wp2_with fail
        go_roundw
        case rel =>
          refine ⟨i + 1, by omega, by go_num, ?_, (hbr.setCell (p := ⟨S.heap.size, i + k, none⟩) (Nat.le_refl _) _).setCell (p := ⟨S.heap.size, i + k + 1, none⟩) (Nat.le_refl _) _⟩
          rw [HW1.out, shr64, ← HW2.out]
          refine ((HRW.out.set (i + k) _).set (i + k + 1) _).congr (fun j hj => ?_)
          by_cases h1 : j = i + k + 1
          · subst h1; rw [if_pos rfl]
          · rw [if_neg h1]
            by_cases h2 : j = i + k
            · subst h2; rw [if_pos rfl]
            · rw [if_neg h2, up_else hr64 h2 h1]
        case measure => simp [intOf]; omega
    · obtain rfl : i = L := by omega
      have HEQ := Lib.hid (show upV x k r i = x * 2 ^ nn by unfold upV; rw [Nat.mod_eq_of_lt HXL.out, HNN.out])
      have HLT := Lib.hid (show x * 2 ^ nn < 2 ^ (64 * (i + k + 1)) by
        rw [← HEQ.out]
        refine Nat.lt_of_lt_of_le (upV_lt x k r i) ?_
        rw [← Nat.pow_add]
        exact Nat.pow_le_pow_right (by decide) (by omega))
      have HRW := Lib.hid hrw
      clear hrw
      go_wp2_with fail
      refine (trim_any _ _ _ (x * 2 ^ nn) _ (Nat.le_refl _) (by unfold maxLen; omega) (Digs.of_row HRW.out (Nat.le_refl _) (fun j hj => by rw [HEQ.out])) HLT.out).mono ?_
      rintro e w4 ⟨v, rfl, ⟨A4, cap4, rfl, hl4, hm4, hd4⟩, hb4⟩
      have s4 := (blk_below S1.out hbr).below hb4 (by have := hbr.size; omega)
      have k4 : w4.cell? ⟨w.heap.size + 1, 0, none⟩ = some (.slice none 0 0) := s4.cell 0
      have f4 := s4.frozen 0
      have HD := Lib.hid (hd4.put s4 (.slice A4 (wl 64 (x * 2 ^ nn)) cap4))
      have hbb := (hbS.trans (hbr.mono (by omega))).trans (hb4.mono (by have := hbr.size; omega))
      have hle : w.heap.size ≤ w.heap.size + 1 := by omega
      clear hd4 g0
      go_wp2
      exact bodyPost_ret (v := .agg #[.slice A4 (wl 64 (x * 2 ^ nn)) cap4]) (by simp [results, Try.results31, go_sem, k4]) rfl ⟨_, rfl, ⟨A4, cap4, rfl, hl4, hm4, HD.out⟩, hbb.setCell (p := ⟨w.heap.size + 1, 0, none⟩) hle _⟩
theorem nup_any (v : Value) (x : Nat) (w : World) (h : N64 w v x) (hx : wl 64 x ≤ 1099511627) (n : Int) (hn : n ≤ 1099511627) : Calls Try.prog 31 #[v, .int .i64 n] w (Mk64 w (x * 2 ^ n.toNat)) := by
  rcases (show n ≤ 0 ∨ 0 < n by omega) with h0 | h0
  · have := nup_none v x w h n h0
    rwa [show n.toNat = 0 by omega, Nat.pow_zero, Nat.mul_one]
  · rcases Nat.eq_zero_or_pos x with h1 | h1
    · subst h1
      rw [Nat.zero_mul]
      exact nup_zero v w h n h0
    · obtain ⟨m, rfl⟩ : ∃ m : Nat, n = (m : Int) := ⟨n.toNat, by omega⟩
      exact nup_pos v x w h h1 hx m (by omega) (by omega)
end Go.Proofs.Yteikhnmmkanndaa

/- The walk of Down. -/
namespace Go.Proofs.Yteikhnmmkanndaa
open Go.RowKit Go.Proofs.YteikhnmmkanndaaW.PrintWords

theorem down_word (x k r i : Nat) (hr : r < 64) : dig 64 (x / 2 ^ (64 * k + r)) i = dig 64 x (i + k) / 2 ^ r + dig 64 x (i + k + 1) * 2 ^ (64 - r) % 2 ^ 64 := by
  have h64 : (2 : Nat) ^ 64 = 2 ^ r * 2 ^ (64 - r) := by rw [← Nat.pow_add]; congr 1; omega
  have h1 : x / 2 ^ (64 * k + r) / 2 ^ (64 * i) = x / 2 ^ (64 * (i + k)) / 2 ^ r := by
    rw [Nat.div_div_eq_div_mul, Nat.div_div_eq_div_mul, ← Nat.pow_add, ← Nat.pow_add]
    congr 2
    omega
  have h2 : x / 2 ^ (64 * (i + k)) / 2 ^ r = dig 64 x (i + k) / 2 ^ r + x / 2 ^ (64 * (i + k + 1)) * 2 ^ (64 - r) := by
    rw [div_succ 64 x (i + k), h64, Nat.mul_left_comm, Nat.add_comm, Nat.add_mul_div_left _ _ (Nat.two_pow_pos _)]
  have hT : dig 64 x (i + k) / 2 ^ r < 2 ^ (64 - r) := by
    rw [Nat.div_lt_iff_lt_mul (Nat.two_pow_pos _), Nat.mul_comm, ← h64]
    exact dig_lt 64 x (i + k)
  have h3 : dig 64 (x / 2 ^ (64 * k + r)) i = (dig 64 x (i + k) / 2 ^ r + x / 2 ^ (64 * (i + k + 1)) * 2 ^ (64 - r)) % 2 ^ 64 := by
    rw [← h2, ← h1]
    rfl
  rw [h3, (join_mod hT (by omega) (Nat.mul_mod_left _ _)).1]
  congr 1
  have h4 : dig 64 x (i + k + 1) = x / 2 ^ (64 * (i + k + 1)) % 2 ^ 64 := rfl
  rw [h4]
  generalize x / 2 ^ (64 * (i + k + 1)) = X
  have h5 := Nat.div_add_mod X (2 ^ 64)
  conv => lhs; rw [← h5, Nat.add_mul, Nat.mul_assoc, Nat.add_comm, Nat.add_mul_mod_self_left]
theorem down_top (x i : Nat) (r : Nat) : dig 64 x i / 2 ^ r < 2 ^ 64 := Nat.lt_of_le_of_lt (Nat.div_le_self _ _) (dig_lt 64 x i)
theorem down_or (x k r i : Nat) (hr : r < 64) : bits .or .u64 ((dig 64 x (i + k) / 2 ^ r : Nat) : Int) (IntKind.u64.wrap ((dig 64 x (i + k + 1) : Nat) * 2 ^ (64 - r))) = ((dig 64 (x / 2 ^ (64 * k + r)) i : Nat) : Int) := by
  have h64 : (2 : Nat) ^ 64 = 2 ^ (64 - r) * 2 ^ r := by rw [← Nat.pow_add]; congr 1; omega
  have hT : dig 64 x (i + k) / 2 ^ r < 2 ^ (64 - r) := by
    rw [Nat.div_lt_iff_lt_mul (Nat.two_pow_pos _), ← h64]
    exact dig_lt 64 x (i + k)
  rw [shl64, down_word x k r i hr]
  refine or64 hT (by omega) ?_ (Nat.mod_lt _ (by decide))
  rw [h64, Nat.mod_mul_right_mod, Nat.mul_mod_left]

set_option maxRecDepth 100000 in
set_option maxHeartbeats 2000000 in
theorem ndown_go (v : Value) (x : Nat) (w : World) (h : N64 w v x) (hx : wl 64 x ≤ 1099511627) (n : Int) (nn : Nat) (hn : max n 0 = (nn : Int)) (hnn : nn ≤ 1099511627) (hlt : nn < bl x) : Calls Try.prog 33 #[v, .int .i64 n] w (Mk64 w (x / 2 ^ nn)) := by
  have HN := Lib.hid h
  have hbl := bl_le_wl (k := 64) (by decide) x
  obtain ⟨A, ca, rfl, hla, hma, hda⟩ := h
  have HDA := Lib.hid hda
  have HXL := Lib.hid (wl_lt (k := 64) (by decide) x)
  have HB := Lib.hid (fun W h => bits_any (.agg #[.slice A (wl 64 x) ca]) x W h (by omega))
  obtain ⟨k, hk⟩ : ∃ k, nn / 64 = k := ⟨_, rfl⟩
  obtain ⟨r, hr⟩ : ∃ r, nn % 64 = r := ⟨_, rfl⟩
  have HNN := Lib.hid (show 64 * k + r = nn by omega)
  have hk1 : k ≤ 1099511627 := by omega
  have hr64 : r < 64 := by omega
  have hkL : k < wl 64 x := by omega
  have j0 : (nn : Int) / 64 = (k : Int) := by omega
  have j1 : (nn : Int) % 64 = (r : Int) := by omega
  have j2 : IntKind.u64.wrap (r : Int) = (r : Int) := by rw [PAll.wrap_u64]; omega
  clear hda hk hr
  unfold maxLen at hma
  obtain ⟨p, hp⟩ : ∃ p, bl x = p := ⟨_, rfl⟩
  rw [hp] at hlt hbl HB
  clear hp
  obtain ⟨L, hL⟩ : ∃ L, wl 64 x = L := ⟨_, rfl⟩
  rw [hL] at hla hx HDA HN HXL HB hkL hbl ⊢
  clear hL
  obtain ⟨M, hM⟩ : ∃ M, L - k = M := ⟨_, rfl⟩
  have hM1 : M + k = L := by omega
  clear hM
  subst hM1
  have hmk := run_make_row' (P := Try.prog) 24 62 (.int .u64 0) 8 Try.underlying24 Try.info62 rfl .i64 .i64 M (by omega) (by omega)
  have hb0 := cba (cba (Below.refl _ w) (.cells #[.slice A (M + k) ca] 26)) (.cells #[.slice none 0 0] 26)
  have e0 := (Blk.new w 26 #[.slice A (M + k) ca]).alloc (.cells #[.slice none 0 0] 26)
  have e1 := Blk.new (w.alloc (.cells #[.slice A (M + k) ca] 26)) 26 #[.slice none 0 0]
  have hsz : w.heap.size + 2 ≤ ((w.alloc (.cells #[.slice A (M + k) ca] 26)).alloc (.cells #[.slice none 0 0] 26)).heap.size := by simp
  simp only [World.size_alloc] at e1
  have i0 : ((M : Int) + (k : Int) - (k : Int)) = (M : Int) := by omega
  have hdec : decide (p ≤ nn) = false := by rw [decide_eq_false_iff_not]; omega
  go_enter Try.func33, Try.ntmps33
  go_wp2_with fail
  refine (HB.out _ (HN.out.below hb0)).mono ?_
  rintro e S ⟨rfl, hb1⟩
  have s0 := blk_below e0 hb1
  have hbS := cbt hb0 hb1
  have hg : w.heap.size + 2 ≤ S.heap.size := by have := hb1.size; omega
  have S0 := Lib.hid s0
  have S1 := Lib.hid (blk_below e1 hb1)
  have q0 : S.cell? ⟨w.heap.size, 0, none⟩ = some (.slice A (M + k) ca) := s0.cell 0
  have HROW := Lib.hid (World.rowIs_made S (.int .u64 0) M 62)
  clear e0 e1 hb0 hb1 s0 hsz
  go_upto_region 5 with (fail)
  rw [j1]
  clear j0 j1 j2 hn hdec
  go_wp2_with fail
  clear i0
  clear q0
  go_loopw [29] (fun v29 wr => ∃ i : Nat, i ≤ M ∧ v29 = .int .i64 i ∧ wr.rowIs S.heap.size 62 M (fun j => .int .u64 ((if j < i then dig 64 (x / 2 ^ nn) j else 0 : Nat) : Int)) ∧ Below S.heap.size S wr) (fun v29 _ => M - (intOf v29).toNat)
  case atStart =>
    exact ⟨0, Nat.zero_le _, rfl, HROW.out.congr (fun j _ => by rw [if_neg (by omega)]; rfl), cba (Below.refl _ _) _⟩
  case round =>
    obtain ⟨i, hi, rfl, hrw, hbr⟩ := hrel
    have g0 : wr.cell? ⟨w.heap.size, 0, none⟩ = some (.slice A (M + k) ca) := (blk_below S0.out hbr).cell 0
    by_cases hlt : i < M
    · obtain ⟨bA, oA, rfl, hltA, hcA⟩ := HDA.out (i + k) (by omega)
      have gA : wr.cell? ⟨bA, oA + (i + k), none⟩ = some (.int .u64 (dig 64 x (i + k) : Nat)) := (hbr.cell (p := ⟨bA, oA + (i + k), none⟩) (show bA < S.heap.size by omega)).trans ((hbS.cell (p := ⟨bA, oA + (i + k), none⟩) hltA).trans hcA)
      have r0 : wr.cell? ⟨S.heap.size, i, none⟩ = some (.int .u64 ((if i < i then dig 64 (x / 2 ^ nn) i else 0 : Nat) : Int)) := hrw.cell hlt
      rw [if_neg (by omega)] at r0
      have fr := hrw.frozen i
      have HW0 := Lib.hid (down_word x k r i hr64)
      have HW1 := Lib.hid (down_or x k r i hr64)
      have HRW := Lib.hid hrw
      have HG0 := Lib.hid (blk_below S0.out hbr)
      have hne : w.heap.size ≠ S.heap.size := by omega
      clear hcA hrw
      by_cases hgd : 0 < r ∧ i + k + 1 < M + k
      · obtain ⟨hr0, hik⟩ := hgd
        obtain ⟨bB, oB, e, hltB, hcB⟩ := HDA.out (i + k + 1) (by omega)
        cases e
        have gB : wr.cell? ⟨bA, oA + (i + k + 1), none⟩ = some (.int .u64 (dig 64 x (i + k + 1) : Nat)) := (hbr.cell (p := ⟨bA, oA + (i + k + 1), none⟩) (show bA < S.heap.size by omega)).trans ((hbS.cell (p := ⟨bA, oA + (i + k + 1), none⟩) hltB).trans hcB)
        clear hcB
        generalize hd1 : dig 64 x (i + k) = d at gA HW1 HW0
        generalize hd2 : dig 64 x (i + k + 1) = d2 at gB HW1 HW0
        clear hd1 hd2
        go_wp2_with fail
        have m1 : IntKind.i64.wrap ((i : Int) + (k : Int)) = (i : Int) + (k : Int) := IntWalk.i64_in _ (by omega)
        have m2 : IntKind.i64.wrap ((i : Int) + (k : Int) + 1) = (i : Int) + (k : Int) + 1 := IntWalk.i64_in _ (by omega)
        have m3 : ((i : Int) + (k : Int) + 1).toNat = i + k + 1 := by omega
        have m4 : (0 : Int) ≤ (i : Int) + (k : Int) + 1 := by omega
        have m5 : (i : Int) + (k : Int) + 1 < (M : Int) + (k : Int) := by omega
        have m6 : IntKind.u64.wrap (64 - (r : Int)) = 64 - (r : Int) := by rw [PAll.wrap_u64]; omega
        have m7 : (64 - (r : Int)).toNat = 64 - r := by omega
        have m8 : (0 : Int) ≤ (i : Int) := by omega
        have m9 : (i : Int) < (M : Int) := by omega
        obtain ⟨X, hX⟩ : ∃ X, wr.setCell ⟨S.heap.size, i, none⟩ (.int .u64 ((d : Int) / 2 ^ r)) = X := ⟨_, rfl⟩
        have hrX := HRW.out.set i (.int .u64 ((d : Int) / 2 ^ r))
        have hbX := hbr.setCell (p := ⟨S.heap.size, i, none⟩) (Nat.le_refl _) (.int .u64 ((d : Int) / 2 ^ r))
        have x0 := (HG0.out.far (p := ⟨S.heap.size, i, none⟩) hne (.int .u64 ((d : Int) / 2 ^ r))).cell 0
        have x1 := (World.cell?_of_block (Below.heap_setCell wr ⟨S.heap.size, i, none⟩ (.int .u64 ((d : Int) / 2 ^ r)) bA (show bA ≠ S.heap.size by omega))).trans gB
        rw [hX] at hrX hbX x0 x1 ⊢
        have x0' : X.cell? ⟨w.heap.size, 0, none⟩ = some (.slice (some ⟨bA, oA, none⟩) (M + k) ca) := x0
        have x2 : X.cell? ⟨S.heap.size, i, none⟩ = some (.int .u64 ((d : Int) / 2 ^ r)) := (hrX.cell hlt).trans (by rw [if_pos rfl])
        have fX := hrX.frozen i
        have HRX := Lib.hid hrX
        clear hX hrX g0 gA gB r0 fr x0
        go_still_tail 17, (by kernel_rfl)
        go_wp2
        go_roundw
        case rel =>
          refine ⟨i + 1, by omega, by go_num, ?_, (hbX.setCell (p := ⟨S.heap.size, i, none⟩) (Nat.le_refl _) _).drew⟩
          have hw := HW1.out
          rw [← shr64, HNN.out] at hw
          rw [hw]
          refine (HRX.out.set i _).drew.congr (fun j hj => ?_)
          by_cases h1 : j = i
          · subst h1; rw [if_pos rfl, if_pos (by omega)]
          · rw [if_neg h1, if_neg h1]
            by_cases h2 : j < i
            · rw [if_pos h2, if_pos (by omega)]
            · rw [if_neg h2, if_neg (by omega)]
        case measure => simp [intOf]; omega
      · have HZ := Lib.hid (show dig 64 (x / 2 ^ nn) i = dig 64 x (i + k) / 2 ^ r from by
          rw [← HNN.out, HW0.out]
          by_cases h1 : 0 < r
          · rw [dig_zero_of_lt (i := i + k + 1) (Nat.lt_of_lt_of_le HXL.out (Nat.pow_le_pow_right (by decide) (by omega)))]
            simp
          · rw [show r = 0 by omega, Nat.mul_mod_left, Nat.add_zero])
        generalize hd1 : dig 64 x (i + k) = d at gA HZ
        clear hd1
        have HR2 := Lib.hid (show (wr.setCell ⟨S.heap.size, i, none⟩ (.int .u64 ((d : Int) / 2 ^ r))).rowIs S.heap.size 62 M (fun j => .int .u64 ((if j < i + 1 then dig 64 (x / 2 ^ nn) j else 0 : Nat) : Int)) from by
          rw [shr64, ← HZ.out]
          exact row_upto HRW.out rfl)
        rcases Nat.eq_zero_or_pos r with hr0 | hr0
        · have hr1 : r ≤ 0 := by omega
          clear hr0 hgd
          go_wp2_with fail
          go_roundw
          case rel => exact ⟨i + 1, by omega, by go_num, HR2.out, hbr.setCell (p := ⟨S.heap.size, i, none⟩) (Nat.le_refl _) _⟩
          case measure => simp [intOf]; omega
        · have hr1 : (0 : Int) < (r : Int) := by omega
          have hge : ¬ ((i : Int) + (k : Int) + 1 < (M : Int) + (k : Int)) := by omega
          have g0' : (wr.setCell ⟨S.heap.size, i, none⟩ (.int .u64 ((d : Int) / 2 ^ r))).cell? ⟨w.heap.size, 0, none⟩ = some (.slice (some ⟨bA, oA, none⟩) (M + k) ca) := (HG0.out.far (p := ⟨S.heap.size, i, none⟩) hne (.int .u64 ((d : Int) / 2 ^ r))).cell 0
          clear hgd
          go_wp2_with fail
          go_roundw
          case rel => exact ⟨i + 1, by omega, by go_num, HR2.out, hbr.setCell (p := ⟨S.heap.size, i, none⟩) (Nat.le_refl _) _⟩
          case measure => simp [intOf]; omega
    · obtain rfl : i = M := by omega
      have HLT := Lib.hid (show x / 2 ^ nn < 2 ^ (64 * i) by
        rw [Nat.div_lt_iff_lt_mul (Nat.two_pow_pos _), ← Nat.pow_add]
        refine Nat.lt_of_lt_of_le HXL.out (Nat.pow_le_pow_right (by decide) ?_)
        have := HNN.out
        omega)
      have HRW := Lib.hid hrw
      clear hrw
      go_wp2_with fail
      refine (trim_any _ _ _ (x / 2 ^ nn) _ (Nat.le_refl _) (by unfold maxLen; omega) (Digs.of_row HRW.out (Nat.le_refl _) (fun j hj => by rw [if_pos hj])) HLT.out).mono ?_
      rintro e w4 ⟨v, rfl, ⟨A4, cap4, rfl, hl4, hm4, hd4⟩, hb4⟩
      have s4 := (blk_below S1.out hbr).below hb4 (by have := hbr.size; omega)
      have k4 : w4.cell? ⟨w.heap.size + 1, 0, none⟩ = some (.slice none 0 0) := s4.cell 0
      have f4 := s4.frozen 0
      have HD := Lib.hid (hd4.put s4 (.slice A4 (wl 64 (x / 2 ^ nn)) cap4))
      have hbb := (hbS.trans (hbr.mono (by omega))).trans (hb4.mono (by have := hbr.size; omega))
      have hle : w.heap.size ≤ w.heap.size + 1 := by omega
      clear hd4 g0
      go_wp2
      exact bodyPost_ret (v := .agg #[.slice A4 (wl 64 (x / 2 ^ nn)) cap4]) (by simp [results, Try.results33, go_sem, k4]) rfl ⟨_, rfl, ⟨A4, cap4, rfl, hl4, hm4, HD.out⟩, hbb.setCell (p := ⟨w.heap.size + 1, 0, none⟩) hle _⟩
set_option maxRecDepth 100000 in
set_option maxHeartbeats 2000000 in
theorem ndown_out (v : Value) (x : Nat) (w : World) (h : N64 w v x) (hx : wl 64 x ≤ 1099511627) (n : Int) (nn : Nat) (hn : max n 0 = (nn : Int)) (hge : bl x ≤ nn) : Calls Try.prog 33 #[v, .int .i64 n] w (Mk64 w 0) := by
  have HN := Lib.hid h
  obtain ⟨A, ca, rfl, hla, hma, hda⟩ := h
  have HB := Lib.hid (fun W h => bits_any (.agg #[.slice A (wl 64 x) ca]) x W h (by omega))
  clear hda
  obtain ⟨p, hp⟩ : ∃ p, bl x = p := ⟨_, rfl⟩
  rw [hp] at hge HB
  clear hp
  obtain ⟨L, hL⟩ : ∃ L, wl 64 x = L := ⟨_, rfl⟩
  rw [hL] at hla hx HN HB ⊢
  clear hL
  have hb0 := cba (cba (Below.refl _ w) (.cells #[.slice A L ca] 26)) (.cells #[.slice none 0 0] 26)
  have e1 := Blk.new (w.alloc (.cells #[.slice A L ca] 26)) 26 #[.slice none 0 0]
  simp only [World.size_alloc] at e1
  go_enter Try.func33, Try.ntmps33
  go_wp2_with fail
  refine (HB.out _ (HN.out.below hb0)).mono ?_
  rintro e S ⟨rfl, hb1⟩
  have s1 := blk_below e1 hb1
  have hbS := cbt hb0 hb1
  have k1 : S.cell? ⟨w.heap.size + 1, 0, none⟩ = some (.slice none 0 0) := s1.cell 0
  have f1 := s1.frozen 0
  have hle : w.heap.size ≤ w.heap.size + 1 := by omega
  go_wp2_with fail
  exact bodyPost_ret (v := .agg #[.slice none 0 0]) (by simp [results, Try.results33, go_sem, k1]) rfl ⟨_, rfl, N64.zero _, hbS.setCell (p := ⟨w.heap.size + 1, 0, none⟩) hle _⟩
theorem ndown_any (v : Value) (x : Nat) (w : World) (h : N64 w v x) (hx : wl 64 x ≤ 1099511627) (n : Int) (hn : n ≤ 1099511627) : Calls Try.prog 33 #[v, .int .i64 n] w (Mk64 w (x / 2 ^ n.toNat)) := by
  rcases Nat.lt_or_ge n.toNat (bl x) with h0 | h0
  · exact ndown_go v x w h hx n n.toNat (by omega) (by omega) h0
  · have := ndown_out v x w h hx n n.toNat (by omega) h0
    rwa [show x / 2 ^ n.toNat = 0 from Nat.div_eq_of_lt ((bl_le x _).1 h0)]
end Go.Proofs.Yteikhnmmkanndaa

/- The walks of subMul and addBack. -/
namespace Go.Proofs.Yteikhnmmkanndaa
open Go.RowKit

/-- the digits of a product, by words. -/
theorem prod_step (x y k : Nat) : (x * dig 64 y k % 2 ^ 64 + mulCarry 64 0 x y k) % 2 ^ 64 = dig 64 (x * y) k ∧ x * dig 64 y k / 2 ^ 64 + (x * dig 64 y k % 2 ^ 64 + mulCarry 64 0 x y k) / 2 ^ 64 = mulCarry 64 0 x y (k + 1) := by
  have h0 : dig 64 0 k = 0 := dig_zero_of_lt (Nat.two_pow_pos _)
  have h1 := mul_dig 64 0 x y k
  have h2 := mulCarry_succ 64 0 x y k
  obtain ⟨h3, h4⟩ := mul_step (2 ^ 64) (x * dig 64 y k) (mulCarry 64 0 x y k) 0 (Nat.two_pow_pos 64)
  rw [h0] at h1 h2
  rw [Nat.zero_add] at h1
  rw [h3, Nat.zero_add, Nat.mod_mod] at h1
  rw [h4, Nat.zero_add, Nat.div_eq_of_lt (Nat.mod_lt _ (Nat.two_pow_pos 64)), Nat.add_zero] at h2
  exact ⟨h1.symm, h2.symm⟩
theorem prod_top {x y m : Nat} (hx : x < 2 ^ 64) (hy : y < 2 ^ (64 * m)) : mulCarry 64 0 x y m = dig 64 (x * y) m ∧ x * y < 2 ^ (64 * (m + 1)) := by
  have h : x * y < 2 ^ (64 * (m + 1)) := by
    rw [pow_succ_mul, Nat.mul_comm (2 ^ (64 * m))]
    exact Nat.mul_lt_mul'' hx hy
  refine ⟨?_, h⟩
  rw [dig_top h]
  unfold mulCarry
  rw [Nat.zero_mod, Nat.zero_add, Nat.mod_eq_of_lt hy]
/-- a row of which the digits from o on become another number's. -/
def win (f : Nat → Nat) (o V k : Nat) (j : Nat) : Nat := if o ≤ j ∧ j < o + k then dig 64 V (j - o) else f j
theorem win_succ (f : Nat → Nat) (o V k j : Nat) : win f o V (k + 1) j = if j = o + k then dig 64 V k else win f o V k j := by
  unfold win
  by_cases h1 : j = o + k
  · subst h1; rw [if_pos rfl, if_pos (by omega), Nat.add_sub_cancel_left]
  · rw [if_neg h1]
    by_cases h2 : o ≤ j ∧ j < o + k
    · rw [if_pos h2, if_pos (by omega)]
    · rw [if_neg h2, if_neg (by omega)]
theorem win_at (f : Nat → Nat) (o V k : Nat) : win f o V k (o + k) = f (o + k) := by unfold win; rw [if_neg (by omega)]
theorem win_row {w : World} {g N o V k : Nat} {f : Nat → Nat} {d : Nat} (h : w.rowIs g 62 N (fun j => .int .u64 (win f o V k j : Nat))) (hd : d = dig 64 V k) :
    (w.setCell ⟨g, o + k, none⟩ (.int .u64 (d : Nat))).rowIs g 62 N (fun j => .int .u64 (win f o V (k + 1) j : Nat)) :=
  (h.set (o + k) (.int .u64 (d : Nat))).congr (fun j _ => by
    rw [win_succ]
    by_cases h1 : j = o + k
    · rw [if_pos h1, if_pos h1, hd]
    · rw [if_neg h1, if_neg h1])

set_option maxRecDepth 100000 in
set_option maxHeartbeats 2000000 in
theorem addback_any (g o nt ct N : Nat) (B : Option Addr) (m cb : Nat) (f : Nat → Nat) (z y : Nat) (w : World) (hrow : w.rowIs g 62 N (fun j => .int .u64 (f j : Nat))) (hT : ∀ j, j < m + 1 → f (o + j) = dig 64 z j)
    (hN : o + (m + 1) ≤ N) (hnt : m < nt) (hm : m ≤ 1099511627776) (hB : Digs w B .u64 64 y m) (hy : y < 2 ^ (64 * m)) (hz : z < 2 ^ (64 * (m + 1))) (hne : ∀ b p, B = some ⟨b, p, none⟩ → 0 < m → b ≠ g) :
    Calls Try.prog 99 #[.slice (some ⟨g, o, none⟩) nt ct, .slice B m cb] w fun e w' => e = .returned (.bool (decide (2 ^ (64 * (m + 1)) ≤ z + y))) ∧
      w'.rowIs g 62 N (fun j => .int .u64 (win f o (z + y) (m + 1) j : Nat)) ∧ w.grownBy w' (some g) := by
  have HROW := Lib.hid hrow
  have HT := Lib.hid hT
  have HB := Lib.hid hB
  have HNE := Lib.hid hne
  have hym : dig 64 y m = 0 := dig_zero_of_lt hy
  have hct := carry_top hz (Nat.lt_of_lt_of_le hy (Nat.pow_le_pow_right (by decide) (by omega)))
  have hcl1 := carry_le 64 z y (m + 1)
  have hd : decide (2 ^ (64 * (m + 1)) ≤ z + y) = decide (0 < carryOf 64 z y (m + 1)) := by
    rw [hct]
    have hb := Nat.two_pow_pos (64 * (m + 1))
    by_cases h : 2 ^ (64 * (m + 1)) ≤ z + y
    · rw [decide_eq_true h, decide_eq_true (Nat.div_pos h hb)]
    · rw [decide_eq_false h, Nat.div_eq_of_lt (by omega)]
      rfl
  rw [hd]
  have HYM := Lib.hid hym
  clear hrow hT hB hne hd hct hym hcl1 hz hy
  go_enter Try.func99, Try.ntmps99
  go_wp2_with fail
  go_loopw [5, 10] (fun v5 v10 wr => ∃ k : Nat, k ≤ m ∧ v10 = .int .i64 k ∧ v5 = .int .u64 (carryOf 64 z y k : Nat) ∧ wr.rowIs g 62 N (fun j => .int .u64 (win f o (z + y) k j : Nat)) ∧ w.grownBy wr (some g)) (fun _ v10 _ => m - (intOf v10).toNat)
  case atStart =>
    exact ⟨0, Nat.zero_le _, rfl, by rw [carry_zero]; rfl, HROW.out.congr (fun j _ => by unfold win; rw [if_neg (by omega)]), World.grownBy.refl _ _⟩
  case round =>
    obtain ⟨k, hk, rfl, rfl, hrw, hgr⟩ := hrel
    have r0 : wr.cell? ⟨g, o + k, none⟩ = some (.int .u64 (win f o (z + y) k (o + k) : Nat)) := hrw.cell (by omega)
    rw [win_at, HT.out k (by omega)] at r0
    have fr := hrw.frozen (o + k)
    have hcl := carry_le 64 z y k
    have hadd := add64_run (dig 64 z k) (dig 64 y k) (carryOf 64 z y k) hcl
    rw [← sum_dig, ← carry_succ] at hadd
    have HRW := Lib.hid hrw
    clear hrw
    by_cases hlt : k < m
    · obtain ⟨bB, oB, rfl, hltB, hcB⟩ := HB.out k hlt
      have hnb := HNE.out bB oB rfl (by omega)
      have gB : wr.cell? ⟨bB, oB + k, none⟩ = some (.int .u64 (dig 64 y k : Nat)) := (World.cell?_of_block (hgr.block bB hltB (by simpa using hnb))).trans hcB
      clear hcB hnb
      generalize hd1 : dig 64 z k = d1 at r0 hadd
      generalize hd2 : dig 64 y k = d2 at gB hadd
      generalize hd3 : carryOf 64 z y k = c1 at hadd hcl ⊢
      generalize hd4 : carryOf 64 z y (k + 1) = c2 at hadd
      have HC2 := Lib.hid hd4
      generalize hd5 : dig 64 (z + y) k = d3 at hadd
      have HD := Lib.hid hd5
      clear hd1 hd2 hd3 hd4 hd5
      go_wp2_with fail
      go_roundw
      case rel => exact ⟨k + 1, by omega, by go_num, by rw [HC2.out], win_row HRW.out HD.out.symm, only_setCell hgr (.inl rfl) _⟩
      case measure => simp [intOf]; omega
    · obtain rfl : k = m := by omega
      rw [HYM.out] at hadd
      have hadd : ∀ W, (callFunc 102 #[.int .u64 (dig 64 z k : Nat), .int .u64 0, .int .u64 (carryOf 64 z y k : Nat)]).run Try.prog W = .ok (.value (.tuple #[.int .u64 (dig 64 (z + y) k : Nat), .int .u64 (carryOf 64 z y (k + 1) : Nat)])) W := hadd
      generalize hd1 : dig 64 z k = d1 at r0 hadd
      generalize hd3 : carryOf 64 z y k = c1 at hadd hcl ⊢
      generalize hd4 : carryOf 64 z y (k + 1) = c2 at hadd ⊢
      generalize hd5 : dig 64 (z + y) k = d3 at hadd
      have HD := Lib.hid hd5
      have HC9 := Lib.hid hd4
      clear hd1 hd3 hd4 hd5
      go_wp2
      go_ret
      exact ⟨by rw [HC9.out]; simp, win_row HRW.out HD.out.symm, only_setCell hgr (.inl rfl) _⟩

set_option maxRecDepth 100000 in
set_option maxHeartbeats 4000000 in
theorem submul_any (g o nt ct N : Nat) (B : Option Addr) (m cb : Nat) (f : Nat → Nat) (p x y : Nat) (w : World) (hrow : w.rowIs g 62 N (fun j => .int .u64 (f j : Nat))) (hT : ∀ j, j < m + 1 → f (o + j) = dig 64 p j) (hx : x < 2 ^ 64)
    (hN : o + (m + 1) ≤ N) (hnt : m < nt) (hm : m ≤ 1099511627776) (hB : Digs w B .u64 64 y m) (hy : y < 2 ^ (64 * m)) (hp : p < 2 ^ (64 * (m + 1))) (hne : ∀ b p, B = some ⟨b, p, none⟩ → 0 < m → b ≠ g) :
    Calls Try.prog 98 #[.slice (some ⟨g, o, none⟩) nt ct, .slice B m cb, .int .u64 (x : Nat)] w fun e w' => e = .returned (.bool (decide (p < x * y))) ∧
      w'.rowIs g 62 N (fun j => .int .u64 (win f o (less 64 (m + 1) p (x * y)) (m + 1) j : Nat)) ∧ w.grownBy w' (some g) := by
  have HROW := Lib.hid hrow
  have HT := Lib.hid hT
  have HB := Lib.hid hB
  have HNE := Lib.hid hne
  have HX := Lib.hid hx
  obtain ⟨ht1, ht2⟩ := prod_top hx hy
  have HTOP := Lib.hid ht1
  have hov := less_over hp ht2
  have HLD := Lib.hid (fun i (hi : i < m + 1) => less_dig (k := 64) (p := p) hi ht2)
  have hd : decide (p < x * y) = decide (0 < carryOf 64 (less 64 (m + 1) p (x * y)) (x * y) (m + 1)) := by
    rw [hov]
    by_cases h : p < x * y
    · rw [decide_eq_true h, if_pos h]; rfl
    · rw [decide_eq_false h, if_neg h]; rfl
  rw [hd]
  clear hrow hT hB hne hd hov ht1 ht2 hx hy hp
  obtain ⟨Z, hZ⟩ : ∃ Z, less 64 (m + 1) p (x * y) = Z := ⟨_, rfl⟩
  rw [hZ] at HLD ⊢
  clear hZ
  go_enter Try.func98, Try.ntmps98
  go_wp2_with fail
  go_loopw [7, 8, 17] (fun v7 v8 v17 wr => ∃ k : Nat, k ≤ m ∧ v17 = .int .i64 k ∧ v7 = .int .u64 (mulCarry 64 0 x y k : Nat) ∧ v8 = .int .u64 (carryOf 64 Z (x * y) k : Nat) ∧ wr.rowIs g 62 N (fun j => .int .u64 (win f o Z k j : Nat)) ∧ w.grownBy wr (some g)) (fun _ _ v17 _ => m - (intOf v17).toNat)
  case atStart =>
    exact ⟨0, Nat.zero_le _, rfl, by rw [mulCarry_zero]; rfl, by rw [carry_zero]; rfl, HROW.out.congr (fun j _ => by unfold win; rw [if_neg (by omega)]), World.grownBy.refl _ _⟩
  case round =>
    obtain ⟨k, hk, rfl, rfl, rfl, hrw, hgr⟩ := hrel
    have r0 : wr.cell? ⟨g, o + k, none⟩ = some (.int .u64 (win f o Z k (o + k) : Nat)) := hrw.cell (by omega)
    rw [win_at, HT.out k (by omega)] at r0
    have fr := hrw.frozen (o + k)
    have hsub := sub64_dig Z (x * y) k
    rw [HLD.out k (by omega)] at hsub
    have HRW := Lib.hid hrw
    clear hrw
    by_cases hlt : k < m
    · obtain ⟨bB, oB, rfl, hltB, hcB⟩ := HB.out k hlt
      have hnb := HNE.out bB oB rfl (by omega)
      have gB : wr.cell? ⟨bB, oB + k, none⟩ = some (.int .u64 (dig 64 y k : Nat)) := (World.cell?_of_block (hgr.block bB hltB (by simpa using hnb))).trans hcB
      have hmul := mul64_any x (dig 64 y k) HX.out (dig_lt 64 y k)
      obtain ⟨st1, st2⟩ := prod_step x y k
      have hc' := mulCarry_lt (k := 64) (T := 0) (y := y) (i := k + 1) HX.out
      clear hcB hnb
      generalize hd1 : mulCarry 64 0 x y k = c at st1 st2 ⊢
      generalize hd2 : mulCarry 64 0 x y (k + 1) = c' at hc' st2
      have HC := Lib.hid hd2
      generalize hd3 : dig 64 p k = t at r0 hsub
      generalize hd4 : dig 64 (x * y) k = yk at st1 hsub
      generalize hd5 : dig 64 y k = yd at gB hmul st1 st2
      generalize hd6 : x * yd / 2 ^ 64 = hi at hmul st2
      generalize hd7 : x * yd % 2 ^ 64 = lo at hmul st1 st2
      have add1 := fun W => add64_run lo c 0 (by omega) W
      simp only [Nat.add_zero] at add1
      rw [st1] at add1
      generalize hd8 : (lo + c) / 2 ^ 64 = c1 at add1 st2
      generalize hd9 : carryOf 64 Z (x * y) k = b0 at hsub ⊢
      generalize hd10 : carryOf 64 Z (x * y) (k + 1) = b1 at hsub
      have HB1 := Lib.hid hd10
      generalize hd11 : dig 64 Z k = zk at hsub
      have HZK := Lib.hid hd11
      have add1' : ∀ W, (callFunc 102 #[.int .u64 (lo : Nat), .int .u64 (c : Nat), .int .u64 0]).run Try.prog W = .ok (.value (.tuple #[.int .u64 (yk : Nat), .int .u64 (c1 : Nat)])) W := add1
      have hb1 : hi + c1 ≤ 18446744073709551615 := by omega
      have HS := Lib.hid st2
      have HMUL := Lib.hid hmul
      clear hd1 hd2 hd3 hd4 hd5 hd6 hd7 hd8 hd9 hd10 hd11 st1 st2 add1 hmul
      go_wp2_with fail
      refine (HMUL.out _).mono ?_
      rintro e w1 ⟨rfl, rfl⟩
      go_wp2_with fail
      go_roundw
      case rel => exact ⟨k + 1, by omega, by go_num, by rw [HC.out, ← HS.out, Int.natCast_add], by rw [HB1.out], win_row HRW.out HZK.out.symm, only_setCell hgr (.inl rfl) _⟩
      case measure => simp [intOf]; omega
    · obtain rfl : k = m := by omega
      have htop := HTOP.out
      rw [htop]
      generalize hd3 : dig 64 p k = t at r0 hsub
      generalize hd4 : dig 64 (x * y) k = yk at hsub ⊢
      generalize hd9 : carryOf 64 Z (x * y) k = b0 at hsub ⊢
      generalize hd10 : carryOf 64 Z (x * y) (k + 1) = b1 at hsub ⊢
      generalize hd11 : dig 64 Z k = zk at hsub
      have HZK := Lib.hid hd11
      have HC9 := Lib.hid hd10
      clear hd3 hd4 hd9 hd10 hd11 htop
      go_wp2
      go_ret
      exact ⟨by rw [HC9.out]; simp, win_row HRW.out HZK.out.symm, only_setCell hgr (.inl rfl) _⟩
end Go.Proofs.Yteikhnmmkanndaa

/- Plain laws: two words by one word, in halves. -/
namespace Go.Proofs.Yteikhnmmkanndaa

/-- what holds at the head of a half's loop. -/
structure Half (un d Y q r : Nat) : Prop where
  sum : q * (Y / 4294967296) + r = un
  ge : (un * 4294967296 + d) / Y ≤ q
  le : q ≤ 4294967297
section
variable {un d Y q r : Nat}
theorem half_eq (Y : Nat) : Y = Y / 4294967296 * 4294967296 + Y % 4294967296 := by omega
theorem half_bound (hun : un < Y) (hd : d < 4294967296) : (un * 4294967296 + d) / Y < 4294967296 := by
  rw [Nat.div_lt_iff_lt_mul (by omega)]
  have : (un + 1) * 4294967296 ≤ 4294967296 * Y := by rw [Nat.mul_comm]; exact Nat.mul_le_mul_left _ hun
  omega
theorem half_start (hY : 9223372036854775808 ≤ Y) (hun : un < Y) (hd : d < 4294967296) : Half un d Y (un / (Y / 4294967296)) (un % (Y / 4294967296)) := by
  have h1 : 2147483648 ≤ Y / 4294967296 := by omega
  refine ⟨Nat.div_add_mod' _ _, ?_, ?_⟩
  · rw [Nat.le_div_iff_mul_le (by omega)]
    have h2 : (un * 4294967296 + d) / Y * Y ≤ un * 4294967296 + d := Nat.div_mul_le_self _ _
    have h3 := half_eq Y
    generalize (un * 4294967296 + d) / Y = t at *
    generalize Y / 4294967296 = y1 at *
    generalize Y % 4294967296 = y0 at *
    rw [h3, Nat.mul_add, ← Nat.mul_assoc] at h2
    have h4 : 0 ≤ t * y0 := Nat.zero_le _
    generalize t * y1 = a at *
    generalize t * y0 = b at *
    omega
  · have h3 : un / (Y / 4294967296) < 4294967298 := by
      rw [Nat.div_lt_iff_lt_mul (by omega)]
      omega
    omega
theorem half_big (_h : Half un d Y q r) (hun : un < Y) (hd : d < 4294967296) (hq : 4294967296 ≤ q) : (un * 4294967296 + d) / Y ≤ q - 1 := by
  have := half_bound hun hd
  omega
theorem half_mul (h : Half un d Y q r) : q * Y + r * 4294967296 = un * 4294967296 + q * (Y % 4294967296) := by
  have h3 := half_eq Y
  rw [← h.sum]
  conv => lhs; rw [h3, Nat.mul_add, ← Nat.mul_assoc]
  rw [Nat.add_mul]
  omega
theorem half_more (h : Half un d Y q r) (hY : 0 < Y) (hc : 4294967296 * r + d < q * (Y % 4294967296)) : (un * 4294967296 + d) / Y ≤ q - 1 := by
  have h1 := half_mul h
  have h2 : (un * 4294967296 + d) / Y < q := by
    rw [Nat.div_lt_iff_lt_mul hY]
    omega
  omega
theorem half_pos (h : Half un d Y q r) (hc : 4294967296 ≤ q ∨ 4294967296 * r + d < q * (Y % 4294967296)) : 0 < q := by
  rcases Nat.eq_zero_or_pos q with h0 | h0
  · subst h0
    rw [Nat.zero_mul] at hc
    omega
  · exact h0
theorem half_next (h : Half un d Y q r) (hY : 0 < Y) (hun : un < Y) (hd : d < 4294967296) (hc : 4294967296 ≤ q ∨ 4294967296 * r + d < q * (Y % 4294967296)) : Half un d Y (q - 1) (r + Y / 4294967296) := by
  have h0 := half_pos h hc
  refine ⟨?_, ?_, ?_⟩
  · have := h.sum
    obtain ⟨p, rfl⟩ : ∃ p, q = p + 1 := ⟨q - 1, by omega⟩
    rw [Nat.add_mul, Nat.one_mul] at this
    rw [Nat.add_sub_cancel]
    omega
  · rcases hc with hc | hc
    · exact half_big h hun hd hc
    · exact half_more h hY hc
  · have := h.le
    omega
theorem half_done (h : Half un d Y q r) (hY : 0 < Y) (hc : q * (Y % 4294967296) ≤ 4294967296 * r + d) : q = (un * 4294967296 + d) / Y := by
  refine Nat.le_antisymm ?_ h.ge
  rw [Nat.le_div_iff_mul_le hY]
  have h1 := half_mul h
  omega
theorem half_break (h : Half un d Y q r) (hY : 0 < Y) (hq : q ≤ 4294967296) (hr : 4294967296 ≤ r) : q = (un * 4294967296 + d) / Y := by
  refine half_done h hY ?_
  have h1 : Y % 4294967296 < 4294967296 := Nat.mod_lt _ (by decide)
  have h2 : q * (Y % 4294967296) ≤ 4294967296 * 4294967295 := Nat.mul_le_mul hq (by omega)
  omega
end
/-- the whole, of its halves. -/
theorem halves {un u1 u0 Y t1 R1 t0 R0 : Nat} (hY : 0 < Y) (h1 : t1 = (un * 4294967296 + u1) / Y) (h2 : R1 = (un * 4294967296 + u1) % Y) (h3 : t0 = (R1 * 4294967296 + u0) / Y) (h4 : R0 = (R1 * 4294967296 + u0) % Y) :
    (un * 18446744073709551616 + (u1 * 4294967296 + u0)) / Y = t1 * 4294967296 + t0 ∧ (un * 18446744073709551616 + (u1 * 4294967296 + u0)) % Y = R0 := by
  have e1 := Nat.div_add_mod (un * 4294967296 + u1) Y
  have e2 := Nat.div_add_mod (R1 * 4294967296 + u0) Y
  rw [← h1, ← h2] at e1
  rw [← h3, ← h4] at e2
  have hl : R0 < Y := by rw [h4]; exact Nat.mod_lt _ hY
  have e3 : un * 18446744073709551616 + (u1 * 4294967296 + u0) = R0 + Y * (t1 * 4294967296 + t0) := by
    rw [Nat.mul_add, ← Nat.mul_assoc]
    clear h1 h2 h3 h4
    generalize Y * t1 = a at *
    generalize Y * t0 = b at *
    omega
  rw [e3, Nat.add_mul_div_left _ _ hY, Nat.div_eq_of_lt hl, Nat.zero_add, Nat.add_mul_mod_self_left, Nat.mod_eq_of_lt hl]
  exact ⟨rfl, rfl⟩
/-- shifted: the same quotient, and the rest shifted. -/
theorem shifted (X y s : Nat) : X * 2 ^ s / (y * 2 ^ s) = X / y ∧ X * 2 ^ s % (y * 2 ^ s) / 2 ^ s = X % y := by
  rw [Nat.mul_div_mul_right _ _ (Nat.two_pow_pos s), Nat.mul_mod_mul_right, Nat.mul_div_cancel _ (Nat.two_pow_pos s)]
  exact ⟨rfl, rfl⟩
/-- the two words, shifted. -/
theorem shift_words {hi lo y s : Nat} (hs : s < 64) (hlo : lo < 2 ^ 64) (hy : y * 2 ^ s < 2 ^ 64) (hlt : hi < y) :
    hi * 2 ^ s < 2 ^ 64 ∧ hi * 2 ^ s + lo / 2 ^ (64 - s) < y * 2 ^ s ∧ (hi * 2 ^ s + lo / 2 ^ (64 - s)) * 2 ^ 64 + lo * 2 ^ s % 2 ^ 64 = (hi * 2 ^ 64 + lo) * 2 ^ s := by
  have h64 : (2 : Nat) ^ 64 = 2 ^ s * 2 ^ (64 - s) := by rw [← Nat.pow_add]; congr 1; omega
  have h1 : hi * 2 ^ s ≤ y * 2 ^ s := Nat.mul_le_mul_right _ (by omega)
  have h2 : lo / 2 ^ (64 - s) < 2 ^ s := by rw [Nat.div_lt_iff_lt_mul (Nat.two_pow_pos _), ← h64]; exact hlo
  have h3 : (hi + 1) * 2 ^ s ≤ y * 2 ^ s := Nat.mul_le_mul_right _ hlt
  rw [Nat.add_mul, Nat.one_mul] at h3
  refine ⟨by omega, by omega, ?_⟩
  have h4 : lo * 2 ^ s = lo / 2 ^ (64 - s) * 2 ^ 64 + lo * 2 ^ s % 2 ^ 64 := by
    have h5 : lo * 2 ^ s / 2 ^ 64 = lo / 2 ^ (64 - s) := by rw [h64, Nat.mul_comm lo, Nat.mul_div_mul_left _ _ (Nat.two_pow_pos _)]
    rw [← h5]
    exact (Nat.div_add_mod' _ _).symm
  conv => rhs; rw [Nat.add_mul, h4]
  rw [Nat.add_mul, Nat.mul_right_comm]
  omega
theorem norm_word {y : Nat} (hy : 0 < y) (hb : y < 2 ^ 64) : 2 ^ 63 ≤ y * 2 ^ (64 - bl y) ∧ y * 2 ^ (64 - bl y) < 2 ^ 64 ∧ 64 - bl y < 64 := by
  have h1 := (bl_le y 64).2 hb
  have h2 : 0 < bl y := by
    rcases Nat.eq_zero_or_pos (bl y) with h | h
    · have := bl_eq_zero.1 h; omega
    · exact h
  have h3 := (lt_bl y (bl y - 1)).1 (by omega)
  have h4 := (bl_le y (bl y)).1 (Nat.le_refl _)
  refine ⟨?_, ?_, by omega⟩
  · calc 2 ^ 63 = 2 ^ (bl y - 1) * 2 ^ (64 - bl y) := by rw [← Nat.pow_add]; congr 1; omega
      _ ≤ y * 2 ^ (64 - bl y) := Nat.mul_le_mul_right _ h3
  · calc y * 2 ^ (64 - bl y) < 2 ^ bl y * 2 ^ (64 - bl y) := Nat.mul_lt_mul_of_pos_right h4 (Nat.two_pow_pos _)
      _ = 2 ^ 64 := by rw [← Nat.pow_add]; congr 1; omega
end Go.Proofs.Yteikhnmmkanndaa

/- The walk of math/bits' Div64. -/
namespace Go.Proofs.Yteikhnmmkanndaa
open Go.RowKit

set_option maxRecDepth 100000 in
set_option maxHeartbeats 1000000 in
theorem div64_small (lo y : Nat) (hlo : lo < 18446744073709551616) (hy : y < 18446744073709551616) (h0 : 0 < y) (w : World) :
    Calls Try.prog 129 #[.int .u64 0, .int .u64 (lo : Nat), .int .u64 (y : Nat)] w fun e w' => e = .returned (.tuple #[.int .u64 ((lo / y : Nat) : Int), .int .u64 ((lo % y : Nat) : Int)]) ∧ Drew w w' := by
  have hz : ((y : Int) == 0) = false := by rw [beq_eq_false_iff_ne]; omega
  have hq : (lo : Int) / (y : Int) = ((lo / y : Nat) : Int) := (Int.natCast_ediv _ _).symm
  have hr : (lo : Int) % (y : Int) = ((lo % y : Nat) : Int) := (Int.natCast_emod _ _).symm
  have HW := Lib.hid (show IntKind.u64.wrap ((lo : Int) / (y : Int)) = (lo : Int) / (y : Int) from by
    rw [hq, u64_nat, Nat.mod_eq_of_lt (Nat.lt_of_le_of_lt (Nat.div_le_self lo y) hlo)])
  have HQ := Lib.hid hq
  have HR := Lib.hid hr
  clear hq hr
  go_enter Try.func129, Try.ntmps129
  go_wp2_with fail
  go_region
  go_wp2
  exact bodyPost_ret (v := .tuple #[.int .u64 ((lo : Int) / (y : Int)), .int .u64 ((lo : Int) % (y : Int))]) (by simp [results, Try.results129, go_sem, HW.out]) rfl ⟨by rw [HQ.out, HR.out], 1, rfl⟩
theorem and32 {a : Nat} (h : a < 2 ^ 64) : bits .and .u64 (a : Int) 4294967295 = ((a % 4294967296 : Nat) : Int) := by
  have := bits_mask .u64 64 (by decide) u64_id 32 (by decide) (a : Int) (Int.natCast_nonneg _) (by exact_mod_cast h)
  rw [show (2 : Int) ^ 32 - 1 = 4294967295 from rfl, show (2 : Int) ^ 32 = 4294967296 from rfl] at this
  rw [this]
  rfl
/-- one half's loop is left with the quotient's half. -/
def HalfQ (un d Y : Nat) (v : Value) : Prop := v = .int .u64 (((un * 4294967296 + d) / Y : Nat) : Int)

set_option maxRecDepth 100000 in
set_option maxHeartbeats 2000000 in
theorem div64_big (hi lo y : Nat) (hlo : lo < 2 ^ 64) (hy : y < 2 ^ 64) (h0 : 0 < hi) (hlt : hi < y) (w : World) :
    Calls Try.prog 129 #[.int .u64 (hi : Nat), .int .u64 (lo : Nat), .int .u64 (y : Nat)] w fun e w' => e = .returned (.tuple #[.int .u64 (((hi * 2 ^ 64 + lo) / y : Nat) : Int), .int .u64 (((hi * 2 ^ 64 + lo) % y : Nat) : Int)]) ∧ Drew w w' := by
  obtain ⟨hn1, hn2, hn3⟩ := norm_word (show 0 < y by omega) hy
  have hz : ((y : Int) == 0) = false := by rw [beq_eq_false_iff_ne]; omega
  have hz2 : ((hi : Int) == 0) = false := by rw [beq_eq_false_iff_ne]; omega
  have HL := Lib.hid (fun W => lead64_any y hy W)
  obtain ⟨s, hs⟩ : ∃ s, 64 - bl y = s := ⟨_, rfl⟩
  rw [hs] at hn1 hn2 hn3 HL
  clear hs
  obtain ⟨hw1, hw2, hw3⟩ := shift_words hn3 hlo hn2 hlt
  obtain ⟨hd, hm⟩ := shifted (hi * 2 ^ 64 + lo) y s
  rw [← hw3] at hd hm
  have EO := or64' (T := lo / 2 ^ (64 - s)) (y := hi * 2 ^ s) (i := s) (by rw [Nat.div_lt_iff_lt_mul (Nat.two_pow_pos _), ← Nat.pow_add, show s + (64 - s) = 64 by omega]; exact hlo) (by omega) (Nat.mul_mod_left _ _) hw1
  rw [Nat.add_comm] at EO
  have EH : IntKind.u64.wrap ((hi : Int) * 2 ^ s) = ((hi * 2 ^ s : Nat) : Int) := by rw [shl64, Nat.mod_eq_of_lt hw1]
  have EZ : IntKind.u64.wrap ((lo : Int) * 2 ^ s) = ((lo * 2 ^ s % 2 ^ 64 : Nat) : Int) := shl64 lo s
  have EY : IntKind.u64.wrap ((y : Int) * 2 ^ s) = ((y * 2 ^ s : Nat) : Int) := by rw [shl64, Nat.mod_eq_of_lt hn2]
  have hzb : lo * 2 ^ s % 2 ^ 64 < 2 ^ 64 := Nat.mod_lt _ (by decide)
  have HEO := Lib.hid EO
  have HEH := Lib.hid EH
  have HEZ := Lib.hid EZ
  have HEY := Lib.hid EY
  have HHD := Lib.hid hd
  have HHM := Lib.hid hm
  clear hd hm hw3 EO EZ EY EH
  go_enter Try.func129, Try.ntmps129
  go_wp2_with fail
  refine (HL.out _).mono ?_
  rintro e w1 ⟨rfl, rfl⟩
  go_upto_region 15 with (fail)
  rw [HEH.out, shr64, HEO.out, HEZ.out, HEY.out]
  generalize hun : hi * 2 ^ s + lo / 2 ^ (64 - s) = un at *
  generalize hz10 : lo * 2 ^ s % 2 ^ 64 = z at *
  generalize hYY : y * 2 ^ s = Y at *
  clear hun hz10 hYY HEO HEZ HEY HEH hw1
  rw [and32 hn2, and32 hzb, show (Y : Int) / 4294967296 = ((Y / 4294967296 : Nat) : Int) from rfl, show (z : Int) / 4294967296 = ((z / 4294967296 : Nat) : Int) from rfl]
  have hY1 : 2147483648 ≤ Y / 4294967296 := by omega
  have hY2 : Y / 4294967296 < 4294967296 := by omega
  have hY3 : Y % 4294967296 < 4294967296 := by omega
  have hu1 : z / 4294967296 < 4294967296 := by omega
  have hu0 : z % 4294967296 < 4294967296 := by omega
  have HZ := Lib.hid (show z = z / 4294967296 * 4294967296 + z % 4294967296 by omega)
  have HST := Lib.hid (half_start (d := z / 4294967296) (by omega) hw2 hu1)
  have HNX := Lib.hid (fun q r (h : Half un (z / 4294967296) Y q r) => half_next h (by omega) hw2 hu1)
  have HDN := Lib.hid (fun q r (h : Half un (z / 4294967296) Y q r) => half_done h (by omega))
  have HBR := Lib.hid (fun q r (h : Half un (z / 4294967296) Y q r) => half_break h (by omega))
  have HPS := Lib.hid (fun q r (h : Half un (z / 4294967296) Y q r) => half_pos h)
  generalize hg1 : Y / 4294967296 = Y1 at *
  generalize hg2 : Y % 4294967296 = Y0 at *
  generalize hg3 : z / 4294967296 = u1 at *
  generalize hg4 : z % 4294967296 = u0 at *
  have HG1 := Lib.hid hg1
  have HG2 := Lib.hid hg2
  clear hg1 hg2 hg3 hg4
  have hY1z : ((Y1 : Int) == 0) = false := by rw [beq_eq_false_iff_ne]; omega
  have E15 : (un : Int) / (Y1 : Int) = ((un / Y1 : Nat) : Int) := (Int.natCast_ediv _ _).symm
  have hr1 := Nat.div_add_mod' un Y1
  have hr2 := Nat.mod_lt un (show 0 < Y1 by omega)
  have E16 : IntKind.u64.wrap (((un / Y1 : Nat) : Int) * (Y1 : Int)) = ((un / Y1 * Y1 : Nat) : Int) := by
    rw [← Int.natCast_mul, u64_nat, Nat.mod_eq_of_lt (by omega)]
  have E17 : (un : Int) - ((un / Y1 * Y1 : Nat) : Int) = ((un % Y1 : Nat) : Int) := by omega
  have hq0 : un / Y1 ≤ 4294967297 := HST.out.le
  have hqb : un / Y1 * Y1 ≤ un := by omega
  generalize hq : un / Y1 = q0 at *
  generalize hr : un % Y1 = r0 at *
  generalize hqy : q0 * Y1 = qy at *
  clear hq hr hqy
  go_upto_block 0 with (fail)
  have HQ := Lib.hid E15
  clear E15 E16 E17 hr1 hqb
  go_cut [15] (fun v15 wx => HalfQ un u1 Y v15 ∧ wx = w1)
  case first =>
    go_wp2_with fail
    go_loop [15, 16] (fun v15 v16 => ∃ q r : Nat, v15 = .int .u64 (q : Nat) ∧ v16 = .int .u64 (r : Nat) ∧ q ≤ 4294967297 ∧ r < 4294967296 ∧ Hid (Half un u1 Y q r)) (fun v15 _ => (intOf v15).toNat)
    case atStart => exact ⟨q0, r0, rfl, rfl, hq0, by omega, HST⟩
    case round =>
      obtain ⟨q, r, rfl, rfl, hqb, hrb, hh⟩ := hrel
      have hqI : (q : Int) ≤ 4294967297 := by omega
      have hrI : (r : Int) < 4294967296 := by omega
      have hY1I : (Y1 : Int) < 4294967296 := by omega
      have hY0I : (Y0 : Int) < 4294967296 := by omega
      have hu1I : (u1 : Int) < 4294967296 := by omega
      have HQB := Lib.hid hqb
      have HRB := Lib.hid hrb
      clear hqb hrb hn1 hn2 hzb hY1 hY2 hY3 hu1 hu0 hq0
      by_cases hc : (4294967296 : Int) ≤ (q : Int)
      · have HH := Lib.hid (HNX.out q r hh.out (.inl (by omega)))
        by_cases hr2 : (4294967296 : Int) ≤ (r : Int) + (Y1 : Int)
        · have HX := Lib.hid (HBR.out (q - 1) (r + Y1) HH.out (by omega) (by omega))
          go_wp2_with fail
          go_meet
          refine ⟨?_, rfl⟩
          unfold HalfQ
          rw [← HX.out]
          exact congrArg (Value.int .u64) (by omega)
        · go_wp2_with fail
          go_round
          case rel => exact ⟨q - 1, r + Y1, congrArg (Value.int .u64) (by omega), congrArg (Value.int .u64) (by omega), by omega, by omega, HH⟩
          case measure => simp [intOf]; omega
      · have hP : q * Y0 ≤ 4294967295 * 4294967295 := Nat.mul_le_mul (by omega) (by omega)
        have HE := Lib.hid (show ((q : Int) * (Y0 : Int)) = ((q * Y0 : Nat) : Int) from (Int.natCast_mul _ _).symm)
        have HNX2 := Lib.hid (fun h => HNX.out q r hh.out (.inr h))
        have HDN2 := Lib.hid (HDN.out q r hh.out)
        have hPI : ((q * Y0 : Nat) : Int) ≤ 18446744065119617025 := by omega
        have HNX3 := Lib.hid (show ((4294967296 : Int) * (r : Int) + (u1 : Int) < ((q * Y0 : Nat) : Int)) → Half un u1 Y (q - 1) (r + Y1) from fun h => HNX2.out (by omega))
        have HDN3 := Lib.hid (show (((q * Y0 : Nat) : Int) ≤ (4294967296 : Int) * (r : Int) + (u1 : Int)) → q = (un * 4294967296 + u1) / Y from fun h => HDN2.out (by omega))
        have HPS3 := Lib.hid (show ((4294967296 : Int) * (r : Int) + (u1 : Int) < ((q * Y0 : Nat) : Int)) → (1 : Int) ≤ (q : Int) from fun h => by have := HPS.out q r hh.out (.inr (by omega)); omega)
        have hE := HE.out
        have hP0 : (0 : Int) ≤ ((q * Y0 : Nat) : Int) := Int.natCast_nonneg _
        clear hP HNX2 HDN2 HE
        generalize ((q * Y0 : Nat) : Int) = P at *
        by_cases hm : (4294967296 : Int) * (r : Int) + (u1 : Int) < P
        · have HH := Lib.hid (HNX3.out hm)
          have hq1 := HPS3.out hm
          by_cases hr2 : (4294967296 : Int) ≤ (r : Int) + (Y1 : Int)
          · have HX := Lib.hid (HBR.out (q - 1) (r + Y1) HH.out (by omega) (by omega))
            go_wp2_with fail
            go_meet
            refine ⟨?_, rfl⟩
            unfold HalfQ
            rw [← HX.out]
            exact congrArg (Value.int .u64) (by omega)
          · go_wp2_with fail
            go_round
            case rel => exact ⟨q - 1, r + Y1, congrArg (Value.int .u64) (by omega), congrArg (Value.int .u64) (by omega), by omega, by omega, HH⟩
            case measure => simp [intOf]; omega
        · have hmI : P ≤ (4294967296 : Int) * (r : Int) + (u1 : Int) := by omega
          have hmd : decide ((4294967296 : Int) * (r : Int) + (u1 : Int) < P) = false := by rw [decide_eq_false_iff_not]; exact hm
          have HMI := Lib.hid hmI
          clear hm hmI
          go_wp2_with fail
          go_meet
          refine ⟨?_, rfl⟩
          unfold HalfQ
          rw [← HDN3.out HMI.out]
  case rest =>
    obtain ⟨hcut, rfl⟩ := hcut
    unfold HalfQ at hcut
    have ht1 := half_bound (Y := Y) hw2 hu1
    have hN1 := Nat.div_add_mod' (un * 4294967296 + u1) Y
    have hR1 := Nat.mod_lt (un * 4294967296 + u1) (show 0 < Y by omega)
    obtain ⟨t1, htt⟩ : ∃ t1, (un * 4294967296 + u1) / Y = t1 := ⟨_, rfl⟩
    obtain ⟨R1, hRR⟩ : ∃ R1, (un * 4294967296 + u1) % Y = R1 := ⟨_, rfl⟩
    rw [htt] at hcut ht1 hN1
    rw [hRR] at hR1 hN1
    subst hcut
    have E21 : IntKind.u64.wrap (IntKind.u64.wrap (IntKind.u64.wrap ((un : Int) * 4294967296) + (u1 : Int)) - IntKind.u64.wrap ((t1 : Int) * (Y : Int))) = (R1 : Int) := by
      rw [← Int.natCast_mul]
      simp only [PAll.wrap_u64]
      generalize t1 * Y = m at *
      omega
    have HE21 := Lib.hid E21
    have HTT := Lib.hid htt
    have HRR := Lib.hid hRR
    have HR1 := Lib.hid hR1
    have HT1 := Lib.hid ht1
    clear hR1 ht1 E21 htt hRR hN1
    go_upto_region 22 with (fail)
    rw [HE21.out]
    have HST := Lib.hid (half_start (d := u0) (by omega) HR1.out hu0)
    have HNX := Lib.hid (fun q r (h : Half R1 u0 Y q r) => half_next h (by omega) HR1.out hu0)
    have HDN := Lib.hid (fun q r (h : Half R1 u0 Y q r) => half_done h (by omega))
    have HBR := Lib.hid (fun q r (h : Half R1 u0 Y q r) => half_break h (by omega))
    have HPS := Lib.hid (fun q r (h : Half R1 u0 Y q r) => half_pos h)
    have ht2 := half_bound (Y := Y) HR1.out hu0
    rw [HG1.out] at HST HNX
    rw [HG2.out] at HNX HDN HPS
    have E15 : (R1 : Int) / (Y1 : Int) = ((R1 / Y1 : Nat) : Int) := (Int.natCast_ediv _ _).symm
    have hr1 := Nat.div_add_mod' R1 Y1
    have hr2 := Nat.mod_lt R1 (show 0 < Y1 by omega)
    have hR1b : R1 < 2 ^ 64 := Nat.lt_trans HR1.out hn2
    have E16 : IntKind.u64.wrap (((R1 / Y1 : Nat) : Int) * (Y1 : Int)) = ((R1 / Y1 * Y1 : Nat) : Int) := by
      rw [← Int.natCast_mul, u64_nat, Nat.mod_eq_of_lt (by omega)]
    have E17 : (R1 : Int) - ((R1 / Y1 * Y1 : Nat) : Int) = ((R1 % Y1 : Nat) : Int) := by omega
    have hq2 : R1 / Y1 ≤ 4294967297 := HST.out.le
    have hqb : R1 / Y1 * Y1 ≤ R1 := by omega
    obtain ⟨q2, hq⟩ : ∃ q2, R1 / Y1 = q2 := ⟨_, rfl⟩
    obtain ⟨r2, hr⟩ : ∃ r2, R1 % Y1 = r2 := ⟨_, rfl⟩
    rw [hq] at E15 hr1 E16 E17 hq2 hqb HST
    rw [hr] at hr1 hr2 E17 HST
    obtain ⟨qz, hqz⟩ : ∃ qz, q2 * Y1 = qz := ⟨_, rfl⟩
    rw [hqz] at hr1 E16 E17 hqb
    have HN2 := Lib.hid hn2
    clear hq hr hqz hn1 hn2 hzb
    go_upto_block 2 with (fail)
    clear E15 E16 E17 hr1 hqb
    go_cut [18] (fun v18 wx => HalfQ R1 u0 Y v18 ∧ wx = wc)
    case first =>
      go_wp2_with fail
      go_loop [18, 16] (fun v18 v16 => ∃ q r : Nat, v18 = .int .u64 (q : Nat) ∧ v16 = .int .u64 (r : Nat) ∧ q ≤ 4294967297 ∧ r < 4294967296 ∧ Hid (Half R1 u0 Y q r)) (fun v18 _ => (intOf v18).toNat)
      case atStart => exact ⟨q2, r2, rfl, rfl, hq2, by omega, HST⟩
      case round =>
        obtain ⟨q, r, rfl, rfl, hqb, hrb, hh⟩ := hrel
        have hqI : (q : Int) ≤ 4294967297 := by omega
        have hrI : (r : Int) < 4294967296 := by omega
        have hY1I : (Y1 : Int) < 4294967296 := by omega
        have hY0I : (Y0 : Int) < 4294967296 := by omega
        have hu0I : (u0 : Int) < 4294967296 := by omega
        have HQB := Lib.hid hqb
        have HRB := Lib.hid hrb
        clear hqb hrb hY1 hY2 hY3 hu0 hq2
        by_cases hc : (4294967296 : Int) ≤ (q : Int)
        · have HH := Lib.hid (HNX.out q r hh.out (.inl (by omega)))
          by_cases hr2 : (4294967296 : Int) ≤ (r : Int) + (Y1 : Int)
          · have HX := Lib.hid (HBR.out (q - 1) (r + Y1) HH.out (by omega) (by omega))
            go_wp2_with fail
            go_meet
            refine ⟨?_, rfl⟩
            unfold HalfQ
            rw [← HX.out]
            exact congrArg (Value.int .u64) (by omega)
          · go_wp2_with fail
            go_round
            case rel => exact ⟨q - 1, r + Y1, congrArg (Value.int .u64) (by omega), congrArg (Value.int .u64) (by omega), by omega, by omega, HH⟩
            case measure => simp [intOf]; omega
        · have hP : q * Y0 ≤ 4294967295 * 4294967295 := Nat.mul_le_mul (by omega) (by omega)
          have HE := Lib.hid (show ((q : Int) * (Y0 : Int)) = ((q * Y0 : Nat) : Int) from (Int.natCast_mul _ _).symm)
          have HNX2 := Lib.hid (fun h => HNX.out q r hh.out (.inr h))
          have HDN2 := Lib.hid (HDN.out q r hh.out)
          have hPI : ((q * Y0 : Nat) : Int) ≤ 18446744065119617025 := by omega
          have HNX3 := Lib.hid (show ((4294967296 : Int) * (r : Int) + (u0 : Int) < ((q * Y0 : Nat) : Int)) → Half R1 u0 Y (q - 1) (r + Y1) from fun h => HNX2.out (by omega))
          have HDN3 := Lib.hid (show (((q * Y0 : Nat) : Int) ≤ (4294967296 : Int) * (r : Int) + (u0 : Int)) → q = (R1 * 4294967296 + u0) / Y from fun h => HDN2.out (by omega))
          have HPS3 := Lib.hid (show ((4294967296 : Int) * (r : Int) + (u0 : Int) < ((q * Y0 : Nat) : Int)) → (1 : Int) ≤ (q : Int) from fun h => by have := HPS.out q r hh.out (.inr (by omega)); omega)
          have hE := HE.out
          have hP0 : (0 : Int) ≤ ((q * Y0 : Nat) : Int) := Int.natCast_nonneg _
          clear hP HNX2 HDN2 HE
          generalize ((q * Y0 : Nat) : Int) = P at *
          by_cases hm : (4294967296 : Int) * (r : Int) + (u0 : Int) < P
          · have HH := Lib.hid (HNX3.out hm)
            have hq1 := HPS3.out hm
            by_cases hr2 : (4294967296 : Int) ≤ (r : Int) + (Y1 : Int)
            · have HX := Lib.hid (HBR.out (q - 1) (r + Y1) HH.out (by omega) (by omega))
              go_wp2_with fail
              go_meet
              refine ⟨?_, rfl⟩
              unfold HalfQ
              rw [← HX.out]
              exact congrArg (Value.int .u64) (by omega)
            · go_wp2_with fail
              go_round
              case rel => exact ⟨q - 1, r + Y1, congrArg (Value.int .u64) (by omega), congrArg (Value.int .u64) (by omega), by omega, by omega, HH⟩
              case measure => simp [intOf]; omega
          · have hmI : P ≤ (4294967296 : Int) * (r : Int) + (u0 : Int) := by omega
            have hmd : decide ((4294967296 : Int) * (r : Int) + (u0 : Int) < P) = false := by rw [decide_eq_false_iff_not]; exact hm
            have HMI := Lib.hid hmI
            clear hm hmI
            go_wp2_with fail
            go_meet
            refine ⟨?_, rfl⟩
            unfold HalfQ
            rw [← HDN3.out HMI.out]
    case rest =>
      obtain ⟨hcut, rfl⟩ := hcut
      unfold HalfQ at hcut
      have hN2 := Nat.div_add_mod' (R1 * 4294967296 + u0) Y
      have hR0 := Nat.mod_lt (R1 * 4294967296 + u0) (show 0 < Y by omega)
      obtain ⟨hfin1, hfin2⟩ := halves (un := un) (u1 := u1) (u0 := u0) (Y := Y) (show 0 < Y by omega) HTT.out.symm HRR.out.symm rfl rfl
      obtain ⟨t0, htt0⟩ : ∃ t0, (R1 * 4294967296 + u0) / Y = t0 := ⟨_, rfl⟩
      obtain ⟨R0, hRR0⟩ : ∃ R0, (R1 * 4294967296 + u0) % Y = R0 := ⟨_, rfl⟩
      rw [htt0] at hcut hN2 ht2 hfin1
      rw [hRR0] at hR0 hN2 hfin2
      subst hcut
      have hn2 := HN2.out
      have E28 : IntKind.u64.wrap (IntKind.u64.wrap (IntKind.u64.wrap ((R1 : Int) * 4294967296) + (u0 : Int)) - IntKind.u64.wrap ((t0 : Int) * (Y : Int))) = (R0 : Int) := by
        rw [← Int.natCast_mul]
        simp only [PAll.wrap_u64]
        generalize t0 * Y = m at *
        omega
      have HE28 := Lib.hid E28
      have HF1 := Lib.hid hfin1
      have HF2 := Lib.hid hfin2
      have ht1I : (t1 : Int) < 4294967296 := by have := HT1.out; omega
      have ht0I : (t0 : Int) < 4294967296 := by omega
      have hsI : (s : Int) < 64 := by omega
      clear E28 hfin1 hfin2 htt0 hRR0 hN2 hR0 hn2 ht2 hY1 hY2 hY3 hu1 hu0 hq0 hq2
      go_upto_region 28 with (fail)
      go_wp2
      rw [HE28.out]
      refine bodyPost_ret (v := .tuple #[.int .u64 ((t1 : Int) * 4294967296 + (t0 : Int)), .int .u64 ((R0 : Int) / 2 ^ s)]) (by simp [results, Try.results129, go_sem]) rfl ⟨?_, Drew.refl _⟩
      rw [← HHD.out, ← HHM.out, HZ.out, show (2 : Nat) ^ 64 = 18446744073709551616 from rfl, HF1.out, HF2.out, shr64, Int.natCast_add, Int.natCast_mul]
      rfl
theorem div64_any (hi lo y : Nat) (hlo : lo < 2 ^ 64) (hy : y < 2 ^ 64) (hlt : hi < y) (w : World) :
    Calls Try.prog 129 #[.int .u64 (hi : Nat), .int .u64 (lo : Nat), .int .u64 (y : Nat)] w fun e w' => e = .returned (.tuple #[.int .u64 (((hi * 2 ^ 64 + lo) / y : Nat) : Int), .int .u64 (((hi * 2 ^ 64 + lo) % y : Nat) : Int)]) ∧ Drew w w' := by
  rcases Nat.eq_zero_or_pos hi with h | h
  · subst h
    rw [Nat.zero_mul, Nat.zero_add]
    exact div64_small lo y hlo hy (by omega) w
  · exact div64_big hi lo y hlo hy h hlt w
end Go.Proofs.Yteikhnmmkanndaa

/- The walk of guess. -/
namespace Go.Proofs.Yteikhnmmkanndaa
open Go.RowKit

/-- no multiple of the divisor that lies in the three words is of a greater digit. -/
def Above (top next u2 u1 u0 x : Nat) : Prop := ∀ q, q < 2 ^ 64 → q * (top * 2 ^ 64 + next) ≤ (u2 * 2 ^ 64 + u1) * 2 ^ 64 + u0 → q ≤ x
theorem Above.first {top next u2 u1 u0 : Nat} (ht : 0 < top) (h0 : u0 < 2 ^ 64) : Above top next u2 u1 u0 ((u2 * 2 ^ 64 + u1) / top) := fun _ _ h => guess_first ht h0 h
theorem Above.next {top next u2 u1 u0 x left : Nat} (h : Above top next u2 u1 u0 x) (hx : x * top + left = u2 * 2 ^ 64 + u1) (hn : left * 2 ^ 64 + u0 < x * next) : Above top next u2 u1 u0 (x - 1) := fun q hq hm => guess_next hm hx (h q hq hm) hn
/-- what guess answers. -/
def GuessEnd (w : World) (top next u2 u1 u0 : Nat) : Ending → World → Prop := fun e w' => ∃ x : Nat, x < 2 ^ 64 ∧ Above top next u2 u1 u0 x ∧ e = .returned (.int .u64 (x : Nat)) ∧ Drew w w'

set_option maxRecDepth 100000 in
set_option maxHeartbeats 2000000 in
theorem guess_full (b o n c : Nat) (top next u2 u1 u0 : Nat) (w : World) (hn : 3 ≤ n) (hn2 : n ≤ 1099511627776) (c2 : w.cell? ⟨b, o + (n - 1), none⟩ = some (.int .u64 (u2 : Nat))) (ht : top ≤ u2) :
    Calls Try.prog 97 #[.slice (some ⟨b, o, none⟩) n c, .int .u64 (top : Nat), .int .u64 (next : Nat)] w (GuessEnd w top next u2 u1 u0) := by
  obtain ⟨k, rfl⟩ : ∃ k, n = k + 3 := ⟨n - 3, by omega⟩
  rw [show k + 3 - 1 = k + 2 by omega] at c2
  have HE := Lib.hid (show GuessEnd w top next u2 u1 u0 (.returned (.int .u64 18446744073709551615)) w from ⟨18446744073709551615, by decide, fun q hq _ => by omega, rfl, Drew.refl _⟩)
  have c2' : w.cell? ⟨b, o + (k + 3 - 1), none⟩ = some (.int .u64 (u2 : Nat)) := c2
  go_enter Try.func97, Try.ntmps97
  go_wp2
  go_ret
  exact HE.out

set_option maxRecDepth 100000 in
set_option maxHeartbeats 2000000 in
theorem guess_less (b o n c : Nat) (top next u2 u1 u0 : Nat) (w : World) (hn : 3 ≤ n) (hn2 : n ≤ 1099511627776) (c2 : w.cell? ⟨b, o + (n - 1), none⟩ = some (.int .u64 (u2 : Nat))) (c1 : w.cell? ⟨b, o + (n - 2), none⟩ = some (.int .u64 (u1 : Nat))) (c0 : w.cell? ⟨b, o + (n - 3), none⟩ = some (.int .u64 (u0 : Nat)))
    (ht : u2 < top) (htb : top < 2 ^ 64) (hnx : next < 2 ^ 64) (hu1 : u1 < 2 ^ 64) (hu0 : u0 < 2 ^ 64) :
    Calls Try.prog 97 #[.slice (some ⟨b, o, none⟩) n c, .int .u64 (top : Nat), .int .u64 (next : Nat)] w (GuessEnd w top next u2 u1 u0) := by
  obtain ⟨k, rfl⟩ : ∃ k, n = k + 3 := ⟨n - 3, by omega⟩
  rw [show k + 3 - 1 = k + 2 by omega] at c2
  rw [show k + 3 - 2 = k + 1 by omega] at c1
  rw [show k + 3 - 3 = k by omega] at c0
  have HDV := Lib.hid (fun W => div64_any u2 u1 top hu1 htb ht W)
  have hq1 : (u2 * 2 ^ 64 + u1) / top < 2 ^ 64 := by
    rw [Nat.div_lt_iff_lt_mul (by omega), Nat.mul_comm]
    have : (u2 + 1) * 2 ^ 64 ≤ top * 2 ^ 64 := Nat.mul_le_mul_right _ ht
    omega
  have hr1 := Nat.mod_lt (u2 * 2 ^ 64 + u1) (show 0 < top by omega)
  have HS := Lib.hid (Nat.div_add_mod' (u2 * 2 ^ 64 + u1) top)
  have HA := Lib.hid (Above.first (top := top) (next := next) (u2 := u2) (u1 := u1) (by omega) hu0)
  have HM := Lib.hid (fun q (hq : q < 2 ^ 64) W => mul64_any q next hq hnx W)
  obtain ⟨q0, hq⟩ : ∃ q0, (u2 * 2 ^ 64 + u1) / top = q0 := ⟨_, rfl⟩
  obtain ⟨r0, hr⟩ : ∃ r0, (u2 * 2 ^ 64 + u1) % top = r0 := ⟨_, rfl⟩
  rw [hq] at HDV hq1 HS HA
  rw [hr] at HDV hr1 HS
  have HNX := Lib.hid hnx
  have HU0 := Lib.hid hu0
  have HTB := Lib.hid htb
  clear hq hr hnx hu1 hu0
  go_enter Try.func97, Try.ntmps97
  go_wp2_with fail
  have m1 : IntKind.i64.wrap ((k : Int) + 3 - 1) = (k : Int) + 2 := (IntWalk.i64_in _ (by omega)).trans (by omega)
  have m2 : IntKind.i64.wrap ((k : Int) + 3 - 2) = (k : Int) + 1 := (IntWalk.i64_in _ (by omega)).trans (by omega)
  have m3 : (0 : Int) ≤ (k : Int) + 2 := by omega
  have m4 : (k : Int) + 2 < (k : Int) + 3 := by omega
  have m5 : (0 : Int) ≤ (k : Int) + 1 := by omega
  have m6 : (k : Int) + 1 < (k : Int) + 3 := by omega
  have m7 : ((k : Int) + 2).toNat = k + 2 := by omega
  have m8 : ((k : Int) + 1).toNat = k + 1 := by omega
  go_quiet ((go_at_call 129; exact quiet_drew (HDV.out _)))
  clear m1 m2 m3 m4 m5 m6 m7 m8 c2 c1
  have hrb : r0 < 2 ^ 64 := Nat.lt_trans hr1 HTB.out
  have hdec : decide (top ≤ u2) = false := by rw [decide_eq_false_iff_not]; omega
  have HT := Lib.hid ht
  have c0' : (w.drewN nq).cell? ⟨b, o + k, none⟩ = some (.int .u64 (u0 : Nat)) := c0
  have HW := Lib.hid (show Drew w (w.drewN nq) from ⟨nq, rfl⟩)
  go_wp2_with fail
  rw [hdec, show ((k : Int) + 3 - 1) = (k : Int) + 2 by omega, show k + 3 - 1 = k + 2 from rfl]
  clear hdec ht hr1 c0
  obtain ⟨S, hS⟩ : ∃ S, w.drewN nq = S := ⟨_, rfl⟩
  rw [hS] at c0' HW ⊢
  clear hS
  go_loopw [8, 9] (fun v8 v9 wr => ∃ q r : Nat, v8 = .int .u64 (q : Nat) ∧ v9 = .int .u64 (r : Nat) ∧ q < 2 ^ 64 ∧ r < 2 ^ 64 ∧ Hid (q * top + r = u2 * 2 ^ 64 + u1) ∧ Hid (Above top next u2 u1 u0 q) ∧ wr = S) (fun _ v9 _ => 2 ^ 64 - (intOf v9).toNat)
  case atStart => exact ⟨q0, r0, rfl, rfl, hq1, hrb, HS, HA, rfl⟩
  case round =>
    obtain ⟨q, r, rfl, rfl, hqb, hrb, hs, ha, rfl⟩ := hrel
    have hmul := HM.out q hqb
    have hdm := Nat.div_add_mod' (q * next) (2 ^ 64)
    have hlo := Nat.mod_lt (q * next) (show 0 < 2 ^ 64 by decide)
    have HNXT := Lib.hid (fun h => ha.out.next hs.out h)
    obtain ⟨hi, hhi⟩ : ∃ hi, q * next / 2 ^ 64 = hi := ⟨_, rfl⟩
    obtain ⟨lo, hlo'⟩ : ∃ lo, q * next % 2 ^ 64 = lo := ⟨_, rfl⟩
    rw [hhi] at hmul hdm
    rw [hlo'] at hmul hdm hlo
    have HMUL := Lib.hid hmul
    have HDM := Lib.hid hdm
    clear hmul hdm hhi hlo'
    have hu0 := HU0.out
    have htop := HTB.out
    by_cases hA : hi < r
    · go_wp2_with fail
      refine (HMUL.out _).mono ?_
      rintro e w1 ⟨rfl, rfl⟩
      go_wp2
      go_ret
      exact ⟨q, hqb, ha.out, rfl, HW.out⟩
    · by_cases hB : hi = r ∧ lo ≤ u0
      · obtain ⟨rfl, hlu⟩ := hB
        go_wp2_with fail
        refine (HMUL.out _).mono ?_
        rintro e w1 ⟨rfl, rfl⟩
        go_wp2
        go_ret
        exact ⟨q, hqb, ha.out, rfl, HW.out⟩
      · have hmore : r * 2 ^ 64 + u0 < q * next := by
          have := HDM.out
          omega
        have hq1 : 1 ≤ q := by
          rcases Nat.eq_zero_or_pos q with h | h
          · subst h; rw [Nat.zero_mul] at hmore; omega
          · exact h
        have hs' : (q - 1) * top + (r + top) = u2 * 2 ^ 64 + u1 := by
          have := hs.out
          obtain ⟨p, rfl⟩ : ∃ p, q = p + 1 := ⟨q - 1, by omega⟩
          rw [Nat.add_mul, Nat.one_mul] at this
          rw [Nat.add_sub_cancel]
          omega
        have ha' := Lib.hid (HNXT.out hmore)
        have HS' := Lib.hid hs'
        have hadd := add64_run r top 0 (by omega)
        simp only [Nat.add_zero] at hadd
        have hadd : ∀ W, (callFunc 102 #[.int .u64 (r : Nat), .int .u64 (top : Nat), .int .u64 0]).run Try.prog W = .ok (.value (.tuple #[.int .u64 (((r + top) % 2 ^ 64 : Nat) : Int), .int .u64 (((r + top) / 2 ^ 64 : Nat) : Int)])) W := hadd
        clear hmore hs'
        by_cases hov : r + top < 2 ^ 64
        · rw [Nat.mod_eq_of_lt hov, Nat.div_eq_of_lt hov] at hadd
          have hadd : ∀ W, (callFunc 102 #[.int .u64 (r : Nat), .int .u64 (top : Nat), .int .u64 0]).run Try.prog W = .ok (.value (.tuple #[.int .u64 ((r + top : Nat) : Int), .int .u64 0])) W := hadd
          have hr64 : r + top < 18446744073709551616 := hov
          generalize hz : r + top = z at hadd hr64
          have HZ := Lib.hid hz
          have hzr : r < z := by have := HT.out; omega
          have HZB := Lib.hid hov
          have HS2 := Lib.hid (show (q - 1) * top + z = u2 * 2 ^ 64 + u1 from by rw [← hz]; exact HS'.out)
          have hzb : z < 2 ^ 64 := by rw [← hz]; exact hov
          clear hov hz hr64
          rcases Nat.lt_or_ge r hi with hlt | hge
          · have hne : ((hi : Int) == (r : Int)) = false := by rw [beq_eq_false_iff_ne]; omega
            clear hA hB
            go_wp2_with fail
            refine (HMUL.out _).mono ?_
            rintro e w1 ⟨rfl, rfl⟩
            go_wp2_with fail
            go_roundw
            case rel => exact ⟨q - 1, z, congrArg (Value.int .u64) (by omega), congrArg (Value.int .u64) (by have := HZ.out; omega), by omega, hzb, HS2, ha', trivial⟩
            case measure => simp [intOf]; have := HZ.out; omega
          · obtain rfl : hi = r := by omega
            have hlu : u0 < lo := by omega
            clear hA hB hge
            go_wp2_with fail
            refine (HMUL.out _).mono ?_
            rintro e w1 ⟨rfl, rfl⟩
            go_wp2_with fail
            go_roundw
            case rel => exact ⟨q - 1, z, congrArg (Value.int .u64) (by omega), congrArg (Value.int .u64) (by have := HZ.out; omega), by omega, hzb, HS2, ha', trivial⟩
            case measure => simp [intOf]; have := HZ.out; omega
        · have h1 : (r + top) / 2 ^ 64 = 1 := by omega
          rw [h1] at hadd
          have hadd : ∀ W, (callFunc 102 #[.int .u64 (r : Nat), .int .u64 (top : Nat), .int .u64 0]).run Try.prog W = .ok (.value (.tuple #[.int .u64 (((r + top) % 2 ^ 64 : Nat) : Int), .int .u64 1])) W := hadd
          generalize (r + top) % 2 ^ 64 = z at hadd
          clear h1 hov
          rcases Nat.lt_or_ge r hi with hlt | hge
          · have hne : ((hi : Int) == (r : Int)) = false := by rw [beq_eq_false_iff_ne]; omega
            clear hA hB
            go_wp2_with fail
            refine (HMUL.out _).mono ?_
            rintro e w1 ⟨rfl, rfl⟩
            go_wp2_with fail
            go_ret
            exact ⟨q - 1, by omega, ha'.out, congrArg (fun z => Ending.returned (.int .u64 z)) (by omega), HW.out⟩
          · obtain rfl : hi = r := by omega
            have hlu : u0 < lo := by omega
            clear hA hB hge
            go_wp2_with fail
            refine (HMUL.out _).mono ?_
            rintro e w1 ⟨rfl, rfl⟩
            go_wp2_with fail
            go_ret
            exact ⟨q - 1, by omega, ha'.out, congrArg (fun z => Ending.returned (.int .u64 z)) (by omega), HW.out⟩
end Go.Proofs.Yteikhnmmkanndaa

/- The walk of small. -/
namespace Go.Proofs.Yteikhnmmkanndaa
open Go.RowKit

/-- the quotient's digits from i on. -/
def hiw (q i : Nat) (p : Nat) : Nat := if i ≤ p then dig 64 q p else 0
theorem hiw_step {q i p : Nat} : hiw q i p = if p = i then dig 64 q i else hiw q (i + 1) p := by
  unfold hiw
  by_cases h : p = i
  · subst h; rw [if_pos (Nat.le_refl _), if_pos rfl]
  · rw [if_neg h]
    by_cases h2 : i ≤ p
    · rw [if_pos h2, if_pos (by omega)]
    · rw [if_neg h2, if_neg (by omega)]
theorem word_next (x b i : Nat) (hb : 0 < b) : (x / 2 ^ (64 * (i + 1)) % b * 2 ^ 64 + dig 64 x i) / b = dig 64 (x / b) i ∧ (x / 2 ^ (64 * (i + 1)) % b * 2 ^ 64 + dig 64 x i) % b = x / 2 ^ (64 * i) % b := by
  have h1 := div_succ 64 x i
  have h2 := Nat.div_add_mod (x / 2 ^ (64 * (i + 1))) b
  have h3 : x / 2 ^ (64 * i) = (x / 2 ^ (64 * (i + 1)) % b * 2 ^ 64 + dig 64 x i) + b * (2 ^ 64 * (x / 2 ^ (64 * (i + 1)) / b)) := by
    rw [h1]
    generalize x / 2 ^ (64 * (i + 1)) = X at *
    conv => lhs; rw [← h2]
    rw [Nat.add_mul, Nat.mul_left_comm b, Nat.mul_comm (b * (X / b))]
    omega
  constructor
  · have h4 : dig 64 (x / b) i = x / 2 ^ (64 * i) / b % 2 ^ 64 := by
      unfold dig
      rw [Nat.div_div_eq_div_mul, Nat.mul_comm, ← Nat.div_div_eq_div_mul]
    rw [h4, h3, Nat.add_mul_div_left _ _ hb, Nat.add_mul_mod_self_left]
    refine (Nat.mod_eq_of_lt ?_).symm
    rw [Nat.div_lt_iff_lt_mul hb]
    have h5 := Nat.mod_lt (x / 2 ^ (64 * (i + 1))) hb
    have h6 := dig_lt 64 x i
    generalize dig 64 x i = d at *
    generalize x / 2 ^ (64 * (i + 1)) % b = r at *
    clear h1 h2 h3 h4
    have h7 : (r + 1) * 2 ^ 64 ≤ b * 2 ^ 64 := Nat.mul_le_mul_right _ h5
    rw [Nat.mul_comm (2 ^ 64)]
    omega
  · rw [h3, Nat.add_mul_mod_self_left]

set_option maxRecDepth 100000 in
set_option maxHeartbeats 2000000 in
theorem nsmall_any (v : Value) (x d : Nat) (w : World) (h : N64 w v x) (hx : wl 64 x ≤ 1099511627776) (hd0 : 0 < d) (hd : d < 2 ^ 64) :
    Calls Try.prog 95 #[v, .int .u64 (d : Nat)] w fun e w' => ∃ q, e = .returned (.tuple #[q, .int .u64 (x % d : Nat)]) ∧ N64 w' q (x / d) ∧ Below w.heap.size w w' := by
  obtain ⟨A, ca, rfl, hla, hma, hda⟩ := h
  have HDA := Lib.hid hda
  have HXL := Lib.hid (wl_lt (k := 64) (by decide) x)
  have HQL := Lib.hid (Nat.lt_of_le_of_lt (Nat.div_le_self x d) HXL.out)
  have HD := Lib.hid hd
  have HWN := Lib.hid (fun i => word_next x d i hd0)
  clear hda hd
  unfold maxLen at hma
  obtain ⟨n, hn⟩ : ∃ n, wl 64 x = n := ⟨_, rfl⟩
  rw [hn] at hla hx HDA HXL HQL ⊢
  clear hn
  have hmk := run_make_row' (P := Try.prog) 24 62 (.int .u64 0) 8 Try.underlying24 Try.info62 rfl .i64 .i64 n (by omega) (by omega)
  have e0 := (Blk.new w 26 #[.slice A n ca]).alloc (.cells #[.slice none 0 0] 26)
  have e1 := Blk.new (w.alloc (.cells #[.slice A n ca] 26)) 26 #[.slice none 0 0]
  simp only [World.size_alloc] at e1
  have hbS := cba (cba (Below.refl _ w) (.cells #[.slice A n ca] 26)) (.cells #[.slice none 0 0] 26)
  have hg : w.heap.size + 2 ≤ ((w.alloc (.cells #[.slice A n ca] 26)).alloc (.cells #[.slice none 0 0] 26)).heap.size := by simp
  go_enter Try.func95, Try.ntmps95
  go_upto_region 1 with (fail)
  obtain ⟨S, hS⟩ : ∃ S, (w.alloc (.cells #[.slice A n ca] 26)).alloc (.cells #[.slice none 0 0] 26) = S := ⟨_, rfl⟩
  rw [hS] at e0 e1 hbS hg ⊢
  clear hS
  have S0 := Lib.hid e0
  have S1 := Lib.hid e1
  have q0 : S.cell? ⟨w.heap.size, 0, none⟩ = some (.slice A n ca) := e0.cell 0
  have q0' : (S.alloc (.cells (madeCells #[.int .u64 0] n) 62)).cell? ⟨w.heap.size, 0, none⟩ = some (.slice A n ca) := (e0.alloc _).cell 0
  have HROW := Lib.hid (World.rowIs_made S (.int .u64 0) n 62)
  clear e0 e1
  go_wp2_with fail
  clear q0 q0'
  go_loopw [7, 8] (fun v7 v8 wr => ∃ m : Nat, m ≤ n ∧ v8 = .int .i64 ((m : Int) - 1) ∧ v7 = .int .u64 (x / 2 ^ (64 * m) % d : Nat) ∧ wr.rowIs S.heap.size 62 n (fun j => .int .u64 (hiw (x / d) m j : Nat)) ∧ Below S.heap.size S wr) (fun _ v8 _ => (intOf v8 + 1).toNat)
  case atStart =>
    exact ⟨n, Nat.le_refl _, rfl, by rw [Nat.div_eq_of_lt HXL.out, Nat.zero_mod]; rfl, HROW.out.congr (fun j hj => by unfold hiw; rw [if_neg (by omega)]; rfl), cba (Below.refl _ _) _⟩
  case round =>
    obtain ⟨m, hm, rfl, rfl, hrw, hbr⟩ := hrel
    have g0 : wr.cell? ⟨w.heap.size, 0, none⟩ = some (.slice A n ca) := (blk_below S0.out hbr).cell 0
    rcases Nat.eq_zero_or_pos m with h0 | h0
    · subst h0
      have HRW := Lib.hid hrw
      rw [Nat.mul_zero, Nat.pow_zero, Nat.div_one]
      clear hrw
      go_wp2_with fail
      refine (trim_any _ _ _ (x / d) _ (Nat.le_refl _) (by unfold maxLen; omega) (Digs.of_row HRW.out (Nat.le_refl _) (fun j hj => by unfold hiw; rw [if_pos (Nat.zero_le _)])) HQL.out).mono ?_
      rintro e w4 ⟨v, rfl, ⟨A4, cap4, rfl, hl4, hm4, hd4⟩, hb4⟩
      have s4 := (blk_below S1.out hbr).below hb4 (by have := hbr.size; omega)
      have k4 : w4.cell? ⟨w.heap.size + 1, 0, none⟩ = some (.slice none 0 0) := s4.cell 0
      have f4 := s4.frozen 0
      have HDD := Lib.hid (hd4.put s4 (.slice A4 (wl 64 (x / d)) cap4))
      have hbb := (hbS.trans (hbr.mono (by omega))).trans (hb4.mono (by have := hbr.size; omega))
      have hle : w.heap.size ≤ w.heap.size + 1 := by omega
      clear hd4 g0
      go_wp2
      exact bodyPost_ret (v := .tuple #[.agg #[.slice A4 (wl 64 (x / d)) cap4], .int .u64 ((x % d : Nat) : Int)]) (by simp [results, Try.results95, go_sem, k4]) rfl ⟨_, rfl, ⟨A4, cap4, rfl, hl4, hm4, HDD.out⟩, hbb.setCell (p := ⟨w.heap.size + 1, 0, none⟩) hle _⟩
    · obtain ⟨j, rfl⟩ : ∃ j, m = j + 1 := ⟨m - 1, by omega⟩
      rw [show (((j + 1 : Nat) : Int) - 1) = (j : Int) by omega]
      obtain ⟨bA, oA, rfl, hltA, hcA⟩ := HDA.out j (by omega)
      have gA : wr.cell? ⟨bA, oA + j, none⟩ = some (.int .u64 (dig 64 x j : Nat)) := (hbr.cell (p := ⟨bA, oA + j, none⟩) (show bA < S.heap.size by omega)).trans ((hbS.cell (p := ⟨bA, oA + j, none⟩) hltA).trans hcA)
      have hlt := Nat.mod_lt (x / 2 ^ (64 * (j + 1))) hd0
      obtain ⟨hw1, hw2⟩ := HWN.out j
      have hdv := fun W => div64_any (x / 2 ^ (64 * (j + 1)) % d) (dig 64 x j) d (dig_lt 64 x j) HD.out hlt W
      rw [hw1, hw2] at hdv
      have HDV := Lib.hid hdv
      have hjn : j < n := by omega
      have HRW := Lib.hid hrw
      clear hcA hdv hw1 hw2 hrw
      generalize hg1 : x / 2 ^ (64 * (j + 1)) % d = l0 at HDV ⊢
      generalize hg2 : dig 64 x j = xj at gA HDV
      generalize hg3 : dig 64 (x / d) j = qj at HDV
      have HQJ := Lib.hid hg3
      generalize hg4 : x / 2 ^ (64 * j) % d = l1 at HDV
      have HL1 := Lib.hid hg4
      clear hg1 hg2 hg3 hg4 hlt
      have HBR := Lib.hid hbr
      go_wp2_with fail
      refine (HDV.out _).mono ?_
      rintro e w2 ⟨rfl, n2, rfl⟩
      have r0 : (wr.drewN n2).cell? ⟨S.heap.size, j, none⟩ = some (.int .u64 (hiw (x / d) (j + 1) j : Nat)) := HRW.out.cell hjn
      have fr : (wr.drewN n2).frozen? ⟨S.heap.size, j, none⟩ = false := HRW.out.frozen j
      have HR2 := Lib.hid (show ((wr.drewN n2).setCell ⟨S.heap.size, j, none⟩ (.int .u64 (qj : Nat))).rowIs S.heap.size 62 n (fun p => .int .u64 (hiw (x / d) j p : Nat)) from ((World.rowIs.drewN HRW.out n2).set j (.int .u64 (qj : Nat))).congr (fun p _ => by
        rw [hiw_step (q := x / d) (i := j) (p := p), ← HQJ.out]
        by_cases h : p = j
        · rw [if_pos h, if_pos h]
        · rw [if_neg h, if_neg h]))
      have HB2 := Lib.hid ((below_drewN HBR.out n2).setCell (p := ⟨S.heap.size, j, none⟩) (Nat.le_refl _) (.int .u64 (qj : Nat)))
      obtain ⟨X, hX⟩ : ∃ X, wr.drewN n2 = X := ⟨_, rfl⟩
      rw [hX] at r0 fr HR2 HB2 ⊢
      clear hX g0 gA
      go_wp2_with fail
      go_roundw
      case rel => exact ⟨j, by omega, rfl, by rw [HL1.out], HR2.out, HB2.out⟩
      case measure => simp [intOf]
end Go.Proofs.Yteikhnmmkanndaa

/- The walk of slices.Clone at words; what a division's steps come to, in plain numbers. -/
namespace Go.Proofs.Yteikhnmmkanndaa
open Go.RowKit

set_option maxRecDepth 100000 in
set_option maxHeartbeats 2000000 in
theorem clone_any (b o n c V : Nat) (w : World) (hn : 0 < n) (hnb : n ≤ 1099511627776) (hd : Digs w (some ⟨b, o, none⟩) .u64 64 V n) :
    Calls Try.prog 100 #[.slice (some ⟨b, o, none⟩) n c] w fun e w' => ∃ A c', e = .returned (.slice A n c') ∧ n ≤ c' ∧ c' ≤ maxLen ∧ Digs w' A .u64 64 V n ∧ Below w.heap.size w w' := by
  have HD := Lib.hid hd
  clear hd
  have heq := fun W => Lib.run_eql_slice_nil (P := Try.prog) W 24 62 (some ⟨b, o, none⟩) n c 0 0 Try.underlying24
  obtain ⟨i0, hi, hz0, hz1, hz2⟩ := info_parts PAll.info62
  have hown := World.ownsRow_lit (base := w.heap.size) (e := 62) (size := 1) w #[] 0 (Nat.le_refl _) (by decide) (by decide)
  have HOWN := Lib.hid hown
  have HC := Lib.hid (cba (Below.refl _ w) (.cells #[] 62))
  have HDW := Lib.hid (HD.out.below HC.out)
  clear hown
  go_enter Try.func100, Try.ntmps100
  go_wp2_with (at_builtin; refine wpList_append_lies _ (by rfl) (.tmp 5) (.tmp 6) 24 (by rfl) w.heap.size 62 i0 (.int .u64 0) 1 8 Try.underlying24 hi hz0 hz1 hz2 rfl (by decide) _ 0 [] (by rfl) HOWN.out ⟨b, o, none⟩ n c ((List.range n).map fun i => Value.int .u64 (dig 64 V i : Nat)) (by rfl) ?hl ?hnews ?h1 hn ?h63 ?hby ?hbase (w.heap.size + 1) ?hH ?_)
  case hnews =>
    intro j u hj
    rcases Nat.lt_or_ge j n with h | h
    · rw [List.getElem?_eq_getElem (by simpa using h)] at hj
      simp at hj
      subst hj
      obtain ⟨b', o', e', _, hc'⟩ := HDW.out j h
      cases e'
      exact hc'
    · rw [List.getElem?_eq_none (by simpa using h)] at hj
      cases hj
  case h1 =>
    intro g _
    rfl
  case h63 => unfold maxLen; omega
  case hby => omega
  · intro g cap w1 hown hgrow hat hlt
    have hcl := fun i (hi : i < n) => hown.cellAt i (by omega)
    have hcap : n ≤ cap ∧ cap ≤ maxLen := by
      rcases hown.2 with ⟨hv, h0⟩ | ⟨g', cap', cur, hv, hbg, hgc, hnc, hcm, hsz, htk⟩
      · cases hv
      · cases hv
        exact ⟨hnc, hcm⟩
    have hgrow2 : (w.alloc (.cells #[] 62)).grownBy w1 (some w.heap.size) := hgrow
    have hbb := Lib.hid (HC.out.grown hgrow2 (by simp) (fun k e => by cases e; exact Nat.le_refl _))
    have HCAP := Lib.hid hcap
    have HR := Lib.hid (show Digs w1 (some ⟨g, 0, none⟩) .u64 64 V n from by
      intro i hi
      refine ⟨g, 0, rfl, hlt, ?_⟩
      rw [Nat.zero_add, hcl i hi, List.getElem?_map, List.getElem?_eq_getElem (by simpa using hi)]
      simp)
    clear hown hgrow hgrow2 hat hcl hcap
    go_wp2
    go_ret
    exact ⟨_, _, rfl, HCAP.out.1, HCAP.out.2, HR.out, hbb.out⟩

/-! What a division's steps come to, in plain numbers. B is 2^64. -/
/-- what the row holds where the quotient's digits from m on are done. -/
def rowV (X Y m : Nat) : Nat := X % Y + Y * (X / Y % 2 ^ (64 * m))
theorem rowV_start {X Y m : Nat} (h : X / Y < 2 ^ (64 * m)) : rowV X Y m = X := by
  unfold rowV
  rw [Nat.mod_eq_of_lt h, Nat.mod_add_div]
theorem rowV_end (X Y : Nat) : rowV X Y 0 = X % Y := by unfold rowV; rw [Nat.mul_zero, Nat.pow_zero, Nat.mod_one, Nat.mul_zero, Nat.add_zero]
theorem rowV_lt {X Y : Nat} (hY : 0 < Y) (m : Nat) : rowV X Y m < Y * 2 ^ (64 * m) := by
  unfold rowV
  have h1 := Nat.mod_lt X hY
  have h2 : X / Y % 2 ^ (64 * m) + 1 ≤ 2 ^ (64 * m) := Nat.mod_lt _ (Nat.two_pow_pos _)
  have h3 := Nat.mul_le_mul_left Y h2
  rw [Nat.mul_add, Nat.mul_one] at h3
  omega
theorem rowV_div {X Y : Nat} (hY : 0 < Y) (m : Nat) : rowV X Y m / Y = X / Y % 2 ^ (64 * m) := by
  unfold rowV
  rw [Nat.add_mul_div_left _ _ hY, Nat.div_eq_of_lt (Nat.mod_lt X hY), Nat.zero_add]
/-- the part that a digit is reckoned from. -/
def partV (X Y j : Nat) : Nat := rowV X Y (j + 1) / 2 ^ (64 * j)
theorem partV_lt {X Y : Nat} (hY : 0 < Y) (j : Nat) : partV X Y j < Y * 2 ^ 64 := by
  unfold partV
  rw [Nat.div_lt_iff_lt_mul (Nat.two_pow_pos _), Nat.mul_assoc, Nat.mul_comm (2 ^ 64), ← pow_succ_mul]
  exact rowV_lt hY (j + 1)
theorem partV_div {X Y : Nat} (hY : 0 < Y) (j : Nat) : partV X Y j / Y = dig 64 (X / Y) j := by
  unfold partV
  rw [Nat.div_div_eq_div_mul, Nat.mul_comm, ← Nat.div_div_eq_div_mul, rowV_div hY, pow_succ_mul, Nat.mod_mul_right_div_self]
  rfl
theorem rowV_succ (X Y j : Nat) : rowV X Y (j + 1) = rowV X Y j + 2 ^ (64 * j) * (dig 64 (X / Y) j * Y) := by
  unfold rowV
  rw [mod_succ, Nat.mul_add, Nat.add_assoc, Nat.mul_left_comm Y, Nat.mul_comm Y (dig 64 (X / Y) j)]
theorem rowV_part {X Y : Nat} (j : Nat) : rowV X Y j / 2 ^ (64 * j) = partV X Y j - dig 64 (X / Y) j * Y := by
  unfold partV
  rw [rowV_succ, Nat.add_mul_div_left _ _ (Nat.two_pow_pos _), Nat.add_sub_cancel]
/-- the row behind a digit. -/
theorem rowV_dig {X Y n j p : Nat} (hY0 : 0 < Y) (hY : Y < 2 ^ (64 * n)) : dig 64 (rowV X Y j) p = if j ≤ p ∧ p < j + (n + 1) then dig 64 (partV X Y j - dig 64 (X / Y) j * Y) (p - j) else dig 64 (rowV X Y (j + 1)) p := by
  by_cases h : j ≤ p ∧ p < j + (n + 1)
  · rw [if_pos h, ← rowV_part, dig_div, show j + (p - j) = p by omega]
  · rw [if_neg h]
    rcases Nat.lt_or_ge p j with h1 | h1
    · rw [← dig_mod (x := rowV X Y (j + 1)) h1, rowV_succ, Nat.add_mul_mod_self_left, dig_mod h1]
    · have hb : Y * 2 ^ (64 * (j + 1)) ≤ 2 ^ (64 * p) := by
        refine Nat.le_trans (Nat.mul_le_mul_right _ (Nat.le_of_lt hY)) ?_
        rw [← Nat.pow_add]
        exact Nat.pow_le_pow_right (by decide) (by omega)
      have hc : Y * 2 ^ (64 * j) ≤ 2 ^ (64 * p) := by
        refine Nat.le_trans (Nat.mul_le_mul_right _ (Nat.le_of_lt hY)) ?_
        rw [← Nat.pow_add]
        exact Nat.pow_le_pow_right (by decide) (by omega)
      rw [dig_zero_of_lt (Nat.lt_of_lt_of_le (rowV_lt hY0 (j + 1)) hb), dig_zero_of_lt (Nat.lt_of_lt_of_le (rowV_lt hY0 j) hc)]
/-- a digit added back: what is left where one less is taken. -/
theorem less_back {P Y N xc : Nat} (hP : P < 2 ^ (64 * N)) (hx : xc * Y < 2 ^ (64 * N)) (hov : P < xc * Y) :
    1 ≤ xc ∧ (2 ^ (64 * N) ≤ less 64 N P (xc * Y) + Y ↔ (xc - 1) * Y ≤ P) ∧ ∀ i, i < N → dig 64 (less 64 N P (xc * Y) + Y) i = dig 64 (less 64 N P ((xc - 1) * Y)) i := by
  have h1 : 1 ≤ xc := by
    rcases Nat.eq_zero_or_pos xc with h | h
    · subst h; rw [Nat.zero_mul] at hov; omega
    · exact h
  obtain ⟨c, rfl⟩ : ∃ c, xc = c + 1 := ⟨xc - 1, by omega⟩
  rw [Nat.add_sub_cancel]
  rw [Nat.add_mul, Nat.one_mul] at hx hov ⊢
  have e1 : less 64 N P (c * Y + Y) + Y = P + 2 ^ (64 * N) - c * Y := by
    unfold less
    rw [if_neg (by omega)]
    omega
  refine ⟨h1, ?_, ?_⟩
  · rw [e1]; omega
  · intro i hi
    rw [e1]
    unfold less
    by_cases h2 : c * Y ≤ P
    · rw [if_pos h2, show P + 2 ^ (64 * N) - c * Y = P - c * Y + 2 ^ (64 * N) by omega, ← dig_mod (x := P - c * Y + 2 ^ (64 * N)) hi, Nat.add_mod_right, dig_mod hi]
    · rw [if_neg h2]
end Go.Proofs.Yteikhnmmkanndaa
