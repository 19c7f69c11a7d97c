/- The walk of crc.table: it returns the array of sixteen sums tarr, and nothing that lay there has changed. No conditions. -/
import Derived.Test.YtokcnblonbcpeaaRows
import Derived.WalkKit
import Derived.WalkSpells
import Derived.WalkLawsBesides
import Derived.Deep.OwnRows
import Derived.Deep.WholeRow
import Derived.Lib.Hide
import Derived.Outline
namespace Go.Proofs.Ytokcnblonbcpeaa
open Go.RowKit

/-- one bit's step of a sum. -/
def stp (c : Int) : Int := if c / 2147483648 = 1 then bits BinOp.xor IntKind.u32 (c * 2 % 4294967296) 2168537515 else c * 2 % 4294967296
def stpN : Nat → Int → Int
  | 0, c => c
  | n + 1, c => stp (stpN n c)
def tabv (i : Nat) : Int := stpN 4 ((i : Int) * 268435456)
def tcell (k : Nat) (j : Nat) : Value := .int .u32 (if j < k then tabv j else 0)
def tarr : Array Value := #[.int .u32 (tabv 0), .int .u32 (tabv 1), .int .u32 (tabv 2), .int .u32 (tabv 3), .int .u32 (tabv 4), .int .u32 (tabv 5), .int .u32 (tabv 6), .int .u32 (tabv 7), .int .u32 (tabv 8), .int .u32 (tabv 9), .int .u32 (tabv 10), .int .u32 (tabv 11), .int .u32 (tabv 12), .int .u32 (tabv 13), .int .u32 (tabv 14), .int .u32 (tabv 15)]
theorem xor_range (a b : Int) : 0 ≤ bits BinOp.xor IntKind.u32 a b ∧ bits BinOp.xor IntKind.u32 a b < 4294967296 := by
  show 0 ≤ IntKind.u32.wrap _ ∧ IntKind.u32.wrap _ < 4294967296
  rw [IntKind.wrap_u32]; omega
theorem stp_range (c : Int) : 0 ≤ stp c ∧ stp c < 4294967296 := by
  unfold stp
  split
  · exact xor_range _ _
  · omega
theorem stpN_range (n : Nat) (c : Int) (h0 : 0 ≤ c) (h1 : c < 4294967296) : 0 ≤ stpN n c ∧ stpN n c < 4294967296 := by
  cases n with
  | zero => exact ⟨h0, h1⟩
  | succ n => exact stp_range _
theorem stpN_yes (n : Nat) (c : Int) (h : stpN n c / 2147483648 = 1) : bits BinOp.xor IntKind.u32 (stpN n c * 2 % 4294967296) 2168537515 = stpN (n + 1) c := by
  show _ = stp _
  rw [stp, if_pos h]
theorem stpN_no (n : Nat) (c : Int) (h : ¬ stpN n c / 2147483648 = 1) : stpN n c * 2 % 4294967296 = stpN (n + 1) c := by
  show _ = stp _
  rw [stp, if_neg h]
theorem tcell_set (k : Nat) (j : Nat) (hk : k < 16) : (if j = k then Value.int IntKind.u32 (stpN 4 ((k : Int) * 268435456)) else tcell k j) = tcell (k + 1) j := by
  unfold tcell tabv
  by_cases h : j = k
  · subst h; simp
  · rw [if_neg h]
    by_cases h2 : j < k
    · rw [if_pos h2, if_pos (by omega)]
    · rw [if_neg h2, if_neg (by omega)]

theorem below_setRow {B : Nat} {a w : World} (h : Below B a w) {g : Nat} (hg : B ≤ g) (cs : Array Value) : Below B a (w.setRow g cs) :=
  ⟨h.os, h.tape, h.output, by rw [size_setRow]; exact h.size, fun b hb => (setRow_other w g b cs (by omega)).trans (h.block b hb)⟩
theorem tarr_at (i : Nat) (hi : i < 16) : tarr[i]? = some (.int .u32 (tabv i)) := by
  match i, hi with
  | 0, _ => rfl
  | 1, _ => rfl
  | 2, _ => rfl
  | 3, _ => rfl
  | 4, _ => rfl
  | 5, _ => rfl
  | 6, _ => rfl
  | 7, _ => rfl
  | 8, _ => rfl
  | 9, _ => rfl
  | 10, _ => rfl
  | 11, _ => rfl
  | 12, _ => rfl
  | 13, _ => rfl
  | 14, _ => rfl
  | 15, _ => rfl
  | n + 16, h => omega
theorem tarr_size : tarr.size = 16 := rfl
theorem tarr_of {c : Array Value} (hs : c.size = 16) (hc : ∀ i, i < 16 → c[i]? = some (tcell 16 i)) : c = tarr := by
  apply Array.ext_getElem?
  intro i
  by_cases hi : i < 16
  · rw [hc i hi, tarr_at i hi, tcell, if_pos hi]
  · rw [Array.getElem?_eq_none (by omega), Array.getElem?_eq_none (by rw [tarr_size]; omega)]
theorem tarr_one : tarr.all (·.oneCell') = true := by simp [tarr, Value.oneCell']
theorem Try.arr58 : (Try.prog.info? 58).map (·.size) = some tarr.size := by kernel_rfl
def z16 : Array Value := #[Value.int IntKind.u32 0, Value.int IntKind.u32 0, Value.int IntKind.u32 0, Value.int IntKind.u32 0, Value.int IntKind.u32 0, Value.int IntKind.u32 0, Value.int IntKind.u32 0, Value.int IntKind.u32 0, Value.int IntKind.u32 0, Value.int IntKind.u32 0, Value.int IntKind.u32 0, Value.int IntKind.u32 0, Value.int IntKind.u32 0, Value.int IntKind.u32 0, Value.int IntKind.u32 0, Value.int IntKind.u32 0]
theorem z16_at (i : Nat) (hi : i < 16) : z16[i]? = some (.int .u32 0) := by
  have h : z16 = Array.replicate 16 (Value.int IntKind.u32 0) := rfl
  rw [h]; simp [hi]

set_option maxHeartbeats 400000 in
theorem table_any (w : World) :
    Calls Try.prog 30 #[] w fun e w' => e = .returned (.agg tarr) ∧ Below w.heap.size w w' := by
  go_enter Try.func30, Try.ntmps30
  go_wp2
  go_loopw [2, 3, 4, 10] (fun v2 v3 v4 v10 wr => ∃ k : Nat, k ≤ 16 ∧ v4 = .int .i64 k ∧ wr.rowIs (w.heap.size + 1) 58 16 (tcell k) ∧ wr.rowIs w.heap.size 58 16 (fun _ => .int .u32 0) ∧ Below w.heap.size w wr)
    (fun _ _ v4 _ _ => 16 - (intOf v4).toNat)
  case atStart =>
    refine ⟨0, by omega, rfl, ?_, ?_, ((Below.refl _ _).alloc (Nat.le_refl _) _).alloc (by simp) _⟩
    · have h := World.rowIs_alloc (w.alloc (Obj.cells z16 58)) z16 58 (tcell 0) (fun i hi => z16_at i hi)
      rw [World.size_alloc] at h
      exact h
    · exact (World.rowIs_alloc w z16 58 (fun _ => .int .u32 0) (fun i hi => z16_at i hi)).alloc (Obj.cells z16 58)
  case round =>
    obtain ⟨k, hk, rfl, hrow, hres, hb⟩ := hrel
    by_cases hlt : k < 16
    · have hc := hrow.cell hlt
      have hf := hrow.frozen k
      go_wp2
      go_loop [3, 10] (fun v3 v10 => ∃ j : Nat, j ≤ 4 ∧ v10 = .int .i64 j ∧ v3 = .int .u32 (stpN j ((k : Int) * 268435456))) (fun _ v10 => 4 - (intOf v10).toNat)
      case atStart => exact ⟨0, by omega, rfl, rfl⟩
      case round =>
        obtain ⟨j, hj, rfl, rfl⟩ := hrel
        have hs := stpN_range j ((k : Int) * 268435456) (by omega) (by omega)
        by_cases hl : j < 4
        · by_cases h1 : stpN j ((k : Int) * 268435456) / 2147483648 = 1
          · have h1b : (stpN j ((k : Int) * 268435456) / 2147483648 == 1) = true := beq_iff_eq.2 h1
            have H1 := Lib.hid h1
            clear h1
            go_wp2
            go_round
            case rel => exact ⟨j + 1, by omega, by go_num, by rw [stpN_yes _ _ H1.out]⟩
            case measure => simp [intOf]; omega
          · have h1b : (stpN j ((k : Int) * 268435456) / 2147483648 == 1) = false := beq_eq_false_iff_ne.2 h1
            have H1 := Lib.hid h1
            clear h1
            go_wp2
            go_round
            case rel => exact ⟨j + 1, by omega, by go_num, by rw [stpN_no _ _ H1.out]⟩
            case measure => simp [intOf]; omega
        · have hj4 : j = 4 := by omega
          subst hj4
          go_wp2
          go_roundw
          case rel => exact ⟨k + 1, by omega, by go_num, (hrow.set k _).congr (fun j _ => tcell_set k j hlt), hres.setOther (by simp) _, hb.setCell (by simp) _⟩
          case measure => simp [intOf]; omega
    · have hk : k = 16 := by omega
      subst hk
      obtain ⟨c, hblk, hsz, hcs⟩ := hrow
      obtain ⟨c', hblk', hsz', hcs'⟩ := hres
      have hc := tarr_of hsz hcs
      subst hc
      clear hcs hcs'
      have hz' := Lib.hid hsz'
      have hz := Lib.hid hsz
      clear hsz hsz'
      go_wp2_with (first | ((with_reducible refine wpList_load_row rfl 58 (.tmp 1) rfl (w.heap.size + 1) rfl 58 tarr (0, 0) _ hblk Try.underlying58 rfl Try.arr58 ?_)) | ((with_reducible refine wpList_store_row rfl 58 (.tmp 0) (.tmp 25) rfl w.heap.size tarr rfl rfl 58 c' hblk' Try.arr58 (by rw [hz'.out, tarr_size]) tarr_one ?_)))
      refine bodyPost_ret (v := .agg tarr) (results_cell_row Try.results30 _ _ w.heap.size 58 tarr (0, 0) _ rfl (setRow_heap _ _ _ _ _ _ hblk') Try.underlying58 rfl Try.arr58) rfl ⟨rfl, below_setRow hb (Nat.le_refl _) _⟩
end Go.Proofs.Ytokcnblonbcpeaa
