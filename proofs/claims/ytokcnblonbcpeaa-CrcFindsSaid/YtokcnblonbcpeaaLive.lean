/- The walks of Seal, of the reference's Seal and of the chapter's example, by the linear map. -/
import Derived.Test.YtokcnblonbcpeaaRMore
namespace Go.Proofs.Ytokcnblonbcpeaa
open Go.RowKit

/-! Chains of worlds, each of which has the former's memory as it was. -/
theorem bt {a b c : World} (h1 : Below a.heap.size a b) (h2 : Below b.heap.size b c) : Below a.heap.size a c := h1.trans (h2.mono h1.size)
theorem ba {a b : World} (h : Below a.heap.size a b) (o : Obj) : Below a.heap.size a (b.alloc o) := h.alloc h.size o
theorem bd {a b : World} (h : Below a.heap.size a b) : Below a.heap.size a b.drew := h.drew

/-- what Seal returns. -/
def sealV (s : ByteArray) : ByteArray := s ++ laidI (toI (crcB 0#32 s.data.toList))
theorem moreI_zero (l : List UInt8) : moreI 0 l = toI (crcB 0#32 l) := moreI_toI 0#32 l
theorem laidI_size (c : Int) : (laidI c).size = 4 := by unfold laidI; rw [strOfNums_size]; rfl
theorem sealV_size (s : ByteArray) : (sealV s).size = s.size + 4 := by unfold sealV; rw [ByteArray.size_append, laidI_size]
theorem body_seal (s : ByteArray) : bodyOf (sealV s) = s := by
  unfold bodyOf
  rw [sealV_size, Nat.add_sub_cancel]
  unfold sealV
  apply ByteArray.ext
  rw [ByteArray.data_extract, ByteArray.data_append]
  simp
theorem tail_seal (s : ByteArray) : tailOf (sealV s) = laidI (toI (crcB 0#32 s.data.toList)) := by
  unfold tailOf
  rw [sealV_size, Nat.add_sub_cancel]
  unfold sealV
  have h := laidI_size (toI (crcB 0#32 s.data.toList))
  generalize laidI (toI (crcB 0#32 s.data.toList)) = t at *
  apply ByteArray.ext
  rw [ByteArray.data_extract, ByteArray.data_append]
  have h' : t.data.size = 4 := h
  have hs : s.size = s.data.size := rfl
  rw [hs, Array.extract_append_right]
  simp [h']
theorem body_tail (s : ByteArray) : bodyOf s ++ tailOf s = s := by
  unfold bodyOf tailOf
  apply ByteArray.ext
  rw [ByteArray.data_append, ByteArray.data_extract, ByteArray.data_extract]
  have hs : s.size = s.data.size := rfl
  rw [hs]
  simp
theorem open_seal (s : ByteArray) : openV (sealV s) = (s, 0) := by
  unfold openV
  rw [if_neg (by rw [sealV_size]; omega), if_pos, body_seal]
  rw [tail_seal, body_seal, moreI_zero]

set_option maxHeartbeats 400000 in
theorem more_bv (c : BitVec 32) (s : ByteArray) (w : World) (hs : s.size ≤ 1000) :
    Calls Try.prog 17 #[.int .u32 (toI c), .string s] w fun e w' => e = .returned (.int .u32 (toI (crcB c s.data.toList))) ∧ Below w.heap.size w w' := by
  rw [← moreI_toI]
  exact more_any _ _ _ (by unfold maxLen; omega)
theorem rmore_0 (s : ByteArray) (w : World) (hs : s.size ≤ 1000) :
    Calls Try.prog 18 #[.int .u32 0, .string s] w fun e w' => e = .returned (.int .u32 (toI (crcB 0#32 s.data.toList))) ∧ w = w' :=
  rmore_any 0#32 s w (by unfold maxLen; omega)
theorem of_1 (s : ByteArray) (w : World) (b : Nat) (hb : b < w.heap.size) (hs : s.size ≤ 1000) (hc : w.cell? ⟨b, 0, none⟩ = some (.string s)) :
    Calls Try.prog 19 #[.slice (some ⟨b, 0, none⟩) 1 1] w fun e w' => e = .returned (.int .u32 (toI (crcB 0#32 s.data.toList))) ∧ Below w.heap.size w w' := by
  rw [← moreI_zero]
  exact of_one s w b hb (by unfold maxLen; omega) hc
theorem of_0 (w : World) :
    Calls Try.prog 19 #[.slice none 0 0] w fun e w' => e = .returned (.int .u32 0) ∧ Below w.heap.size w w' :=
  of_any none [] 0 w (by simp) (by simp) (fun i hi => absurd hi (by simp))
theorem of_2 (s t : ByteArray) (w : World) (b : Nat) (hb : b < w.heap.size) (hs : s.size ≤ 1000) (ht : t.size ≤ 1000) (hc : w.cell? ⟨b, 0, none⟩ = some (.string s)) (hd : w.cell? ⟨b, 1, none⟩ = some (.string t)) :
    Calls Try.prog 19 #[.slice (some ⟨b, 0, none⟩) 2 2] w fun e w' => e = .returned (.int .u32 (toI (crcB 0#32 (s.data.toList ++ t.data.toList)))) ∧ Below w.heap.size w w' := by
  have h := of_any (some ⟨b, 0, none⟩) [s, t] 2 w (by simp [maxLen]) (by intro x hx; simp at hx; unfold maxLen; rcases hx with rfl | rfl <;> omega) (fun i hi => ⟨b, 0, rfl, hb, by
    match i, hi with
    | 0, _ => exact hc
    | 1, _ => exact hd⟩)
  rw [crcB_append, ← moreI_toI, ← moreI_zero]
  exact h
theorem seal_bv (s : ByteArray) (w : World) (hs : s.size ≤ 1000) :
    Calls Try.prog 20 #[.string s] w fun e w' => e = .returned (.string (sealV s)) ∧ Below w.heap.size w w' := by
  unfold sealV
  rw [← moreI_zero]
  exact seal_any s w hs

theorem laid_ref (c : Int) : strOfNums [c / 16777216, c / 65536 % 256, c / 256 % 256, c % 256] = laidI c := rfl
set_option maxHeartbeats 400000 in
theorem rseal_any (s : ByteArray) (w : World) (hs : s.size ≤ 1000) :
    Calls Try.prog 22 #[.string s] w fun e w' => e = .returned (.string (sealV s)) ∧ Below w.heap.size w w' := by
  go_enter Try.func22, Try.ntmps22
  go_wp2_with fail
  refine (rmore_0 s _ hs).mono ?_
  rintro e w1 ⟨rfl, rfl⟩
  have hc := toI_lt (crcB 0#32 s.data.toList)
  have hz := laidI_size (toI (crcB 0#32 s.data.toList))
  have HV := Lib.hid (show sealV s = s ++ laidI (toI (crcB 0#32 s.data.toList)) from rfl)
  have hcv := conv4 w (toI (crcB 0#32 s.data.toList) / 16777216) (toI (crcB 0#32 s.data.toList) / 65536 % 256) (toI (crcB 0#32 s.data.toList) / 256 % 256) (toI (crcB 0#32 s.data.toList) % 256)
  rw [laid_ref] at hcv
  generalize crcB 0#32 s.data.toList = C at *
  have hz' : (laidI (toI C)).size ≤ 4 := by omega
  clear hz
  go_wp2
  go_ret
  exact ⟨by rw [HV.out]; rfl, ba (Below.refl _ _) _⟩
set_option maxHeartbeats 400000 in
theorem live_any (w : World) :
    Calls Try.prog 16 #[] w fun e w' => e = .returned (.bool true) ∧ Below w.heap.size w w' := by
  go_enter Try.func16, Try.ntmps16
  go_wp2_with fail
  refine (seal_bv _ _ (by decide)).mono ?_
  rintro e w1 ⟨rfl, hb1⟩
  go_wp2_with fail
  refine (open_any _ _ (by rw [sealV_size]; decide)).mono ?_
  rintro e w2 ⟨rfl, hb2⟩
  rw [open_seal]
  go_wp2_with fail
  refine (of_1 ⟨#[]⟩ _ w2.heap.size (by simp) (by decide) (by simp)).mono ?_
  rintro e w3 ⟨rfl, hb3⟩
  rw [show toI (crcB 0#32 (ByteArray.mk #[]).data.toList) = 0 by decide]
  go_wp2_with fail
  refine (seal_bv _ _ (by decide)).mono ?_
  rintro e w4 ⟨rfl, hb4⟩
  rw [show sealV ⟨#[]⟩ = ⟨#[0, 0, 0, 0]⟩ by decide]
  go_wp2
  go_ret
  exact ⟨rfl, bt (bt (bt (bt hb1 hb2) (ba (Below.refl _ _) _)) hb3) hb4⟩
end Go.Proofs.Ytokcnblonbcpeaa
