/- The walk of the law CrcFinds: true at every input. -/
import Derived.Test.YtokcnblonbcpeaaSpoilt
namespace Go.Proofs.Ytokcnblonbcpeaa
open Go.RowKit

/-- which bits have been turned, after the rounds below i. -/
def FL (n mask : Nat) (l0 l : List UInt8) (i : Nat) : Prop :=
  ∀ j, j < 8 * l0.length → bitL l j = (bitL l0 j ^^ (decide (n ≤ j ∧ j < i) && mask.testBit (j - n)))
theorem FL_start (n mask : Nat) (l0 : List UInt8) : FL n mask l0 l0 n := by
  intro j _
  rw [decide_eq_false (by omega)]
  simp
theorem FL_yes {n mask : Nat} {l0 l : List UInt8} {i : Nat} (h : FL n mask l0 l i) (hn : n ≤ i) (hi : i / 8 < l.length) (hb : mask.testBit (i - n) = true) {p : Nat} (hp : p = 2 ^ (7 - i % 8)) :
    FL n mask l0 (l.set (i / 8) (l.getD (i / 8) 0 ^^^ UInt8.ofNat p)) (i + 1) := by
  intro j hj
  rw [bitL_set l i j hi _ (by rw [hp]), h j hj]
  by_cases e : j = i
  · subst e
    rw [decide_eq_false (by omega), decide_eq_true rfl, decide_eq_true (by omega), hb]
    simp
  · rw [decide_eq_false e, Bool.xor_false]
    congr 2
    rw [Bool.eq_iff_iff, decide_eq_true_iff, decide_eq_true_iff]
    omega
theorem FL_no {n mask : Nat} {l0 l : List UInt8} {i : Nat} (h : FL n mask l0 l i) (hb : mask.testBit (i - n) = false) : FL n mask l0 l (i + 1) := by
  intro j hj
  rw [h j hj]
  by_cases e : j = i
  · subst e
    rw [hb]
    simp
  · congr 2
    rw [Bool.eq_iff_iff, decide_eq_true_iff, decide_eq_true_iff]
    omega
theorem xor_u8 (a : UInt8) (p : Nat) (hp : p < 256) : bits BinOp.xor IntKind.u8 (a.toNat : Int) (p : Int) = ((a ^^^ UInt8.ofNat p).toNat : Int) := by
  show IntKind.u8.wrap ((BitVec.ofInt 8 (a.toNat : Int) ^^^ BitVec.ofInt 8 (p : Int)).toNat : Int) = _
  rw [BitVec.ofInt_natCast, BitVec.ofInt_natCast, BitVec.toNat_xor, BitVec.toNat_ofNat, BitVec.toNat_ofNat, UInt8.toNat_xor, UInt8.toNat_ofNat', IntKind.wrap_u8]
  have ha := a.toNat_lt
  rw [Nat.mod_eq_of_lt (show a.toNat < 2 ^ 8 from ha), Nat.mod_eq_of_lt (show p < 2 ^ 8 from hp)]
  have hx : a.toNat ^^^ p < 2 ^ 8 := Nat.xor_lt_two_pow ha hp
  omega
/-- the bytes l lie in block g, and may be written. -/
def Lies (w : World) (g : Nat) (l : List UInt8) : Prop :=
  ∀ j, j < l.length → w.cell? ⟨g, j, none⟩ = some (.int .u8 ((l.getD j 0).toNat : Int)) ∧ w.frozen? ⟨g, j, none⟩ = false
theorem Lies.set {w : World} {g : Nat} {l : List UInt8} (h : Lies w g l) (i : Nat) (hi : i < l.length) (u : UInt8) : Lies (w.setCell ⟨g, i, none⟩ (.int .u8 (u.toNat : Int))) g (l.set i u) := by
  intro j hj
  rw [List.length_set] at hj
  refine ⟨?_, by rw [World.frozen?_setCell]; exact (h j hj).2⟩
  by_cases e : j = i
  · subst e
    rw [World.cell?_setCell_same' _ _ _ (by rw [(h j hj).1]; rfl)]
    simp [List.getD, hi]
  · rw [World.cell?_setCell_other _ _ _ _ (fun e2 => e (by injection e2 with _ h2 _; exact h2.symm)), (h j hj).1]
    simp only [List.getD, List.getElem?_set]
    rw [if_neg (fun e2 => e e2.symm)]
theorem pow_half {i : Nat} (h : i % 8 ≠ 7) : 2 ^ (7 - i % 8) / 2 = 2 ^ (7 - (i + 1) % 8) ∧ 2 ≤ 2 ^ (7 - i % 8) := by
  obtain ⟨k, hk⟩ : ∃ k, 7 - i % 8 = k + 1 := ⟨6 - i % 8, by omega⟩
  rw [hk, show 7 - (i + 1) % 8 = k by omega, Nat.pow_succ]
  have := Nat.two_pow_pos k
  omega
theorem pow_le7 (k : Nat) : 2 ^ (7 - k) < 256 := Nat.lt_of_le_of_lt (Nat.pow_le_pow_right (by decide) (Nat.sub_le 7 k)) (by decide)

set_option maxHeartbeats 400000 in
theorem crcFinds_live (s : ByteArray) (a mask : Nat) (w : World) (h : 500 < s.size ∨ mask = 0) (hs : s.size ≤ maxLen) :
    Calls Try.prog 7 #[.string s, .int .u16 (a : Int), .int .u32 (mask : Int)] w fun e w' => e = .returned (.bool true) ∧ Below w.heap.size w w' := by
  unfold maxLen at hs
  by_cases h1 : 500 < s.size
  · clear h
    go_enter Try.func7, Try.ntmps7
    go_wp2_with fail
    refine (live_any _).mono ?_
    rintro e w1 ⟨rfl, hb1⟩
    go_wp2
    go_ret
    exact ⟨rfl, hb1⟩
  · obtain rfl : mask = 0 := by omega
    clear h
    go_enter Try.func7, Try.ntmps7
    go_wp2_with fail
    refine (live_any _).mono ?_
    rintro e w1 ⟨rfl, hb1⟩
    go_wp2
    go_ret
    exact ⟨rfl, hb1⟩

set_option maxHeartbeats 400000 in
theorem crcFinds_main (s : ByteArray) (a mask : Nat) (w : World) (hs : s.size ≤ 500) (h0 : 0 < mask) (hm : mask < 4294967296) (ha : a < 65536) :
    Calls Try.prog 7 #[.string s, .int .u16 (a : Int), .int .u32 (mask : Int)] w fun e w' => e = .returned (.bool true) ∧ Below w.heap.size w w' := by
  have hq : ((mask : Int) == 0) = false := by rw [beq_eq_false_iff_ne]; omega
  go_enter Try.func7, Try.ntmps7
  go_wp2_with fail
  refine (seal_bv s _ (by omega)).mono ?_
  rintro e w1 ⟨rfl, hb1⟩
  have hS := sealV_size s
  have HSP := Lib.hid (open_spoilt s)
  generalize sealV s = S1 at *
  have hS1 : S1.size ≤ 504 := by omega
  have hS2 : 4 ≤ S1.size := by omega
  clear hS
  have hcv := run_bytes_of_string (P := Try.prog) w1 9 44 5 S1 Try.underlying9 Try.underlying44 Try.underlying5
  go_upto_block 7 with (fail)
  have hlies : Lies ((w1.alloc (Obj.cells (bytesRow S1 (grownCap w1 S1.size 0 5)) 5 ((bytesRow S1 (grownCap w1 S1.size 0 5)).size, (bytesRow S1 (grownCap w1 S1.size 0 5)).size + 1))).drew) w1.heap.size S1.data.toList := by
    intro j hj
    have hj' : j < S1.data.size := by simpa using hj
    refine ⟨?_, ?_⟩
    · show World.cell? (w1.alloc _) _ = _
      rw [World.cell?_alloc_mark, bytesRow_at S1 _ j hj']
      rw [List.getD_eq_getElem?_getD, Array.getElem?_toList, Array.getElem?_eq_getElem hj']
      rfl
    · show World.frozen? (w1.alloc _) _ = _
      rw [World.frozen?_alloc_mark, Bool.and_eq_false_iff]
      left
      rw [decide_eq_false_iff_not]
      have : S1.data.size ≤ (bytesRow S1 (grownCap w1 S1.size 0 5)).size := by unfold bytesRow; simp
      omega
  have hb2 : Below w.heap.size w ((w1.alloc (Obj.cells (bytesRow S1 (grownCap w1 S1.size 0 5)) 5 ((bytesRow S1 (grownCap w1 S1.size 0 5)).size, (bytesRow S1 (grownCap w1 S1.size 0 5)).size + 1))).drew) := bd (ba hb1 _)
  clear hcv
  generalize (w1.alloc (Obj.cells (bytesRow S1 (grownCap w1 S1.size 0 5)) 5 ((bytesRow S1 (grownCap w1 S1.size 0 5)).size, (bytesRow S1 (grownCap w1 S1.size 0 5)).size + 1))).drew = W0 at *
  generalize grownCap w1 S1.size 0 5 = cap at *
  have hn0 : (0 : Int) ≤ (a : Int) % (8 * (S1.size : Int) - 31) := Int.emod_nonneg _ (by omega)
  have hn1 : (a : Int) % (8 * (S1.size : Int) - 31) < 8 * (S1.size : Int) - 31 := Int.emod_lt_of_pos _ (by omega)
  generalize (a : Int) % (8 * (S1.size : Int) - 31) = nI at *
  obtain ⟨n, rfl⟩ := Int.eq_ofNat_of_zero_le hn0
  have hg : w.heap.size ≤ w1.heap.size := hb1.size
  generalize w1.heap.size = g at *
  clear hn0
  have hL : S1.data.toList.length = S1.size := by simp
  have HL := Lib.hid hL
  have HLies := Lib.hid hlies
  clear hL hlies
  go_loop [10, 11] (fun v10 v11 => ∃ k : Nat, k ≤ n % 8 ∧ v11 = .int .i64 k ∧ v10 = .int .u8 ((2 ^ (7 - k) : Nat) : Int)) (fun _ v11 => 8 - (intOf v11).toNat)
  case atStart => exact ⟨0, by omega, rfl, rfl⟩
  case round =>
    obtain ⟨k, hk, rfl, rfl⟩ := hrel
    by_cases hlt : k < n % 8
    · have hp := pow_le7 k
      have HP := Lib.hid (show 2 ^ (7 - k) / 2 = 2 ^ (7 - (k + 1)) by have := (pow_half (i := k) (by omega)).1; rw [Nat.mod_eq_of_lt (show k < 8 by omega), Nat.mod_eq_of_lt (show k + 1 < 8 by omega)] at this; exact this)
      generalize 2 ^ (7 - k) = p at *
      go_wp2
      go_round
      case rel => exact ⟨k + 1, by omega, by go_num, by rw [← HP.out]; rfl⟩
      case measure => simp [intOf]; omega
    · obtain rfl : k = n % 8 := by omega
      have hp := pow_le7 (n % 8)
      have HP1 := Lib.hid (show 2 ^ (7 - n % 8) = 2 ^ (7 - n % 8) from rfl)
      generalize hpp : 2 ^ (7 - n % 8) = p at *
      have HPP := Lib.hid hpp
      clear hpp HP1
      go_wp2
      go_loopw [9, 10, 12] (fun v9 v10 v12 wr => ∃ (i : Nat) (l : List UInt8), n ≤ i ∧ i ≤ n + 32 ∧ v12 = .int .i64 i ∧ v9 = .int .u64 ((mask / 2 ^ (i - n) : Nat) : Int) ∧ v10 = .int .u8 ((2 ^ (7 - i % 8) : Nat) : Int) ∧ l.length = S1.size ∧ Lies wr g l ∧ Below w.heap.size w wr ∧ FL n mask S1.data.toList l i)
        (fun _ _ v12 _ => n + 32 - (intOf v12).toNat)
      case atStart => exact ⟨n, S1.data.toList, Nat.le_refl _, by omega, rfl, by simp, by rw [HPP.out], HL.out, HLies.out, hb2, FL_start _ _ _⟩
      case round =>
        obtain ⟨i, l, hi0, hi1, rfl, rfl, rfl, hll, hlies, hbr, hfl⟩ := hrel
        have hn2 : n + 32 ≤ 8 * S1.size := by omega
        clear hb2 hp HLies hn1 HPP
        by_cases hlt : i < n + 32
        · have hq1 := pow_le7 (i % 8)
          have hq0 := Nat.two_pow_pos (7 - i % 8)
          have hm1 := half_le mask (i - n)
          have HM := Lib.hid (half_step mask (i - n))
          have HB := bit_beq mask (i - n)
          have hcell := hlies (i / 8) (by omega)
          obtain ⟨hc1, hc2⟩ := hcell
          generalize hB : mask.testBit (i - n) = bb at *
          have HBB := Lib.hid hB
          clear hB
          generalize mask / 2 ^ (i - n) = M1 at *
          have hli : i / 8 < l.length := by omega
          have hset := Lib.hid (hlies.set (i / 8) hli (l.getD (i / 8) 0 ^^^ UInt8.ofNat (2 ^ (7 - i % 8))))
          generalize hy : l.getD (i / 8) 0 = y at *
          have HY := Lib.hid hy
          have HX := Lib.hid (xor_u8 y (2 ^ (7 - i % 8)) hq1)
          have Hlies := Lib.hid hlies
          have Hfl := Lib.hid hfl
          have HLL := Lib.hid hll
          clear hlies hfl hll hy
          have hli2 : i / 8 < S1.size := by omega
          by_cases h7 : i % 8 = 7
          · have HN := Lib.hid (show (2 : Nat) ^ (7 - (i + 1) % 8) = 128 by rw [show (i + 1) % 8 = 0 by omega])
            have hp : 2 ^ (7 - i % 8) = 1 := by rw [h7]
            rw [hp] at hset hq0 hq1 ⊢
            clear HX
            have HX := Lib.hid (show bits BinOp.xor IntKind.u8 (y.toNat : Int) 1 = ((y ^^^ UInt8.ofNat 1).toNat : Int) from xor_u8 y 1 (by decide))
            have HPP := Lib.hid hp
            clear hp h7
            cases bb
            · go_wp2
              go_roundw
              case rel => exact ⟨i + 1, l, by omega, by omega, by go_num, by rw [show i + 1 - n = i - n + 1 by omega, ← HM.out]; go_num, by rw [HN.out]; rfl, HLL.out, Hlies.out, hbr, FL_no Hfl.out HBB.out⟩
              case measure => simp [intOf]; omega
            · go_wp2
              go_roundw
              case rel => exact ⟨i + 1, l.set (i / 8) (y ^^^ UInt8.ofNat 1), by omega, by omega, by go_num, by rw [show i + 1 - n = i - n + 1 by omega, ← HM.out]; go_num, by rw [HN.out]; rfl, by rw [List.length_set]; exact HLL.out, by rw [HX.out]; exact hset.out, hbr.setCell (by simpa using hg) _, by rw [← HY.out]; exact FL_yes Hfl.out hi0 hli HBB.out HPP.out.symm⟩
              case measure => simp [intOf]; omega
          · have HP := Lib.hid (pow_half h7)
            have hp2 := (pow_half h7).2
            generalize hp : 2 ^ (7 - i % 8) = p at *
            have HPP := Lib.hid hp
            clear hp
            have hnz : ((p : Int) / 2 == 0) = false := by rw [beq_eq_false_iff_ne]; omega
            cases bb
            · go_wp2
              go_roundw
              case rel => exact ⟨i + 1, l, by omega, by omega, by go_num, by rw [show i + 1 - n = i - n + 1 by omega, ← HM.out]; go_num, by rw [← HP.out.1]; go_num, HLL.out, Hlies.out, hbr, FL_no Hfl.out HBB.out⟩
              case measure => simp [intOf]; omega
            · go_wp2
              go_roundw
              case rel => exact ⟨i + 1, l.set (i / 8) (y ^^^ UInt8.ofNat p), by omega, by omega, by go_num, by rw [show i + 1 - n = i - n + 1 by omega, ← HM.out]; go_num, by rw [← HP.out.1]; go_num, by rw [List.length_set]; exact HLL.out, by (rw [HX.out]; exact hset.out), hbr.setCell (by simpa using hg) _, by rw [← HY.out]; exact FL_yes Hfl.out hi0 hli HBB.out HPP.out.symm⟩
              case measure => simp [intOf]; omega
        · obtain rfl : i = n + 32 := by omega
          have HLL := Lib.hid hll
          have Hlies := Lib.hid hlies
          have Hfl := Lib.hid hfl
          clear hll hlies hfl
          have hcv := run_convert_bytes_back (P := Try.prog) wr 44 9 5 ⟨g, 0, none⟩ cap l Try.underlying44 Try.underlying5 Try.underlying9 (fun j hj => by
            have e : (⟨g, 0, none⟩ : Addr).add j = ⟨g, j, none⟩ := by unfold Addr.add; split <;> simp_all
            rw [e, (Hlies.out j hj).1]
            simp [List.getD, hj])
          rw [HLL.out] at hcv
          have hop : openV ⟨l.toArray⟩ = (⟨#[]⟩, 4) := HSP.out ⟨l.toArray⟩ n mask (by rw [HL.out]; exact HLL.out) (by rw [HL.out]; exact hn2) (by omega) hm (fun j hj => Hfl.out j hj)
          have Hop := Lib.hid hop
          clear hop
          have hsz : (⟨l.toArray⟩ : ByteArray).size ≤ 1000 := by
            have : (⟨l.toArray⟩ : ByteArray).size = l.length := by simp [ByteArray.size]
            have := HLL.out
            omega
          generalize (⟨l.toArray⟩ : ByteArray) = t at *
          go_wp2_with fail
          refine (open_any t _ hsz).mono ?_
          rintro e w3 ⟨rfl, hb3⟩
          rw [Hop.out]
          go_wp2_with fail
          refine (live_any _).mono ?_
          rintro e w4 ⟨rfl, hb4⟩
          go_wp2
          go_ret
          exact ⟨rfl, bt (bt hbr hb3) hb4⟩

theorem crcFinds_int (s : ByteArray) (a mask : Int) (w : World) (hs : s.size ≤ maxLen) (ha : (Lit.int .u16 a).wf = true) (hm : (Lit.int .u32 mask).wf = true) :
    Calls Try.prog 7 #[.string s, .int .u16 a, .int .u32 mask] w fun e w' => e = .returned (.bool true) ∧ Below w.heap.size w w' := by
  have ha' : 0 ≤ a ∧ a ≤ 65535 := by
    unfold Lit.wf at ha
    rw [Bool.and_eq_true, decide_eq_true_iff, decide_eq_true_iff] at ha
    have h1 : IntKind.u16.min = 0 := by decide
    have h2 : IntKind.u16.max = 65535 := by decide
    rw [h1, h2] at ha
    exact ha
  have hm' : 0 ≤ mask ∧ mask ≤ 4294967295 := by
    unfold Lit.wf at hm
    rw [Bool.and_eq_true, decide_eq_true_iff, decide_eq_true_iff] at hm
    have h1 : IntKind.u32.min = 0 := by decide
    have h2 : IntKind.u32.max = 4294967295 := by decide
    rw [h1, h2] at hm
    exact hm
  obtain ⟨a, rfl⟩ := Int.eq_ofNat_of_zero_le ha'.1
  obtain ⟨mask, rfl⟩ := Int.eq_ofNat_of_zero_le hm'.1
  by_cases h : 500 < s.size ∨ mask = 0
  · exact crcFinds_live s a mask w h hs
  · exact crcFinds_main s a mask w (by omega) (by omega) (by omega) (by omega)
end Go.Proofs.Ytokcnblonbcpeaa
