/- The walk of crc.More: the sum, gone on with byte by byte (moreI); nothing that lay there has changed. Condition: the string is no longer than a Go string may be. -/
import Derived.Test.YtokcnblonbcpeaaTab
namespace Go.Proofs.Ytokcnblonbcpeaa
open Go.RowKit

def nib (c : Int) : Int := bits BinOp.xor IntKind.u32 (c * 16 % 4294967296) (tabv (c / 268435456).toNat)
/-- one byte's step of a sum. -/
def byteStep (c : Int) (b : UInt8) : Int := nib (nib (bits BinOp.xor IntKind.u32 c ((b.toNat : Int) * 16777216)))
def foldB (c : Int) (l : List UInt8) : Int := l.foldl byteStep c
theorem nib_range (c : Int) : 0 ≤ nib c ∧ nib c < 4294967296 := xor_range _ _
theorem byteStep_range (c : Int) (b : UInt8) : 0 ≤ byteStep c b ∧ byteStep c b < 4294967296 := nib_range _
theorem foldB_range (c : Int) (l : List UInt8) (h0 : 0 ≤ c) (h1 : c < 4294967296) : 0 ≤ foldB c l ∧ foldB c l < 4294967296 := by
  induction l generalizing c with
  | nil => exact ⟨h0, h1⟩
  | cons b l ih => exact ih _ (byteStep_range _ _).1 (byteStep_range _ _).2
theorem foldB_snoc (c : Int) (l : List UInt8) (b : UInt8) : foldB c (l ++ [b]) = byteStep (foldB c l) b := by simp [foldB]
theorem take_snoc (s : ByteArray) (k : Nat) (h : k < s.size) : s.data.toList.take (k + 1) = s.data.toList.take k ++ [s[k]] := by
  rw [List.take_succ_eq_append_getElem (by simpa using h)]; rfl
theorem byte_lt (b : UInt8) : (b.toNat : Int) < 256 := by have := b.toNat_lt; omega
def inv32 (c : Int) : Int := bits BinOp.xor IntKind.u32 IntKind.u32.max c
/-- a sum, gone on with. -/
def moreI (c : Int) (l : List UInt8) : Int := inv32 (foldB (inv32 c) l)
theorem moreI_range (c : Int) (l : List UInt8) : 0 ≤ moreI c l ∧ moreI c l < 4294967296 := xor_range _ _

set_option maxHeartbeats 400000 in
theorem more_any (c : Int) (s : ByteArray) (w : World) (hs : s.size ≤ maxLen) :
    Calls Try.prog 17 #[.int .u32 c, .string s] w fun e w' => e = .returned (.int .u32 (moreI c s.data.toList)) ∧ Below w.heap.size w w' := by
  unfold maxLen at hs
  go_enter Try.func17, Try.ntmps17
  go_wp2_with fail
  refine (table_any _).mono ?_
  rintro e w1 ⟨rfl, hb⟩
  go_wp2_with (with_reducible refine wpList_store_row rfl 58 (.tmp 5) (.tmp 7) rfl w1.heap.size tarr rfl rfl 58 _ (heap_alloc_last _ _) Try.arr58 rfl tarr_one ?_)
  have hcells : ∀ i, i < 16 → ((w1.alloc (.cells z16 58)).setRow w1.heap.size tarr).cell? ⟨w1.heap.size, i, none⟩ = some (.int .u32 (tabv i)) := by
    intro i hi
    rw [World.setRow_alloc_new, cell_of_row _ _ i tarr 58 (0, 0) (heap_alloc_last _ _), tarr_at i hi]
  have hb2 : Below w.heap.size w ((w1.alloc (.cells z16 58)).setRow w1.heap.size tarr) := below_setRow (hb.alloc hb.size _) hb.size _
  unfold z16 at hcells hb2
  obtain ⟨W0, hW0⟩ : ∃ W0, (w1.alloc (.cells z16 58)).setRow w1.heap.size tarr = W0 := ⟨_, rfl⟩
  unfold z16 at hW0
  rw [hW0] at hcells hb2 ⊢
  clear hW0
  have hz := xor_range IntKind.u32.max c
  go_loop [0, 6] (fun v0 v6 => ∃ k : Nat, k ≤ s.size ∧ v6 = .int .i64 k ∧ v0 = .int .u32 (foldB (inv32 c) (s.data.toList.take k))) (fun _ v6 => s.size - (intOf v6).toNat)
  case atStart => exact ⟨0, Nat.zero_le _, rfl, rfl⟩
  case round =>
    obtain ⟨k, hk, rfl, rfl⟩ := hrel
    by_cases hlt : k < s.size
    · have hx := foldB_range (inv32 c) (s.data.toList.take k) hz.1 hz.2
      have hsn := foldB_snoc (inv32 c) (s.data.toList.take k) s[k]
      rw [← take_snoc s k hlt] at hsn
      have HS := Lib.hid hsn
      clear hsn
      obtain ⟨x, hxe⟩ : ∃ x, foldB (inv32 c) (s.data.toList.take k) = x := ⟨_, rfl⟩
      rw [hxe] at hx HS ⊢
      clear hxe
      have hby := byte_lt s[k]
      have hr1 := xor_range x ((s[k].toNat : Int) * 16777216)
      have hr2 := nib_range (bits BinOp.xor IntKind.u32 x ((s[k].toNat : Int) * 16777216))
      have g1 := hcells (bits BinOp.xor IntKind.u32 x ((s[k].toNat : Int) * 16777216) / 268435456).toNat (by omega)
      have g2 := hcells (nib (bits BinOp.xor IntKind.u32 x ((s[k].toNat : Int) * 16777216)) / 268435456).toNat (by omega)
      unfold nib at g2 hr2
      clear hcells
      go_wp2
      go_round
      case rel => exact ⟨k + 1, by omega, by go_num, by rw [HS.out]; rfl⟩
      case measure => simp [intOf]; omega
    · have hkk : k = s.size := by omega
      subst hkk
      have ht : s.data.toList.take s.size = s.data.toList := List.take_of_length_le (by simp)
      have HT := Lib.hid ht
      clear ht hcells
      go_wp2
      go_ret
      exact ⟨by rw [HT.out]; rfl, hb2⟩
end Go.Proofs.Ytokcnblonbcpeaa
