/- The walks of crc.laid, Of and Seal: what they return, and that nothing that lay there has changed. -/
import Derived.Test.YtokcnblonbcpeaaMore
namespace Go.Proofs.Ytokcnblonbcpeaa
open Go.RowKit

/-- 'string([]byte{a, b, c, d})' right behind the slice's making. -/
theorem conv4 (W : World) (a b c d : Int) : (convert 44 9 (.slice (some ⟨W.heap.size, 0, none⟩) 4 4)).run Try.prog (W.alloc (.cells #[.int .u8 a, .int .u8 b, .int .u8 c, .int .u8 d] 5)) = .ok (.string (strOfNums [a, b, c, d])) (W.alloc (.cells #[.int .u8 a, .int .u8 b, .int .u8 c, .int .u8 d] 5)) := by
  refine run_convert_bytes_arg _ 44 5 Try.underlying44 Try.underlying5 _ 0 4 4 [a, b, c, d] rfl (fun i hi => ?_) 9 Try.underlying9
  rw [cell_of_row _ _ _ #[.int .u8 a, .int .u8 b, .int .u8 c, .int .u8 d] 5 (0, 0) (heap_alloc_new _ _)]
  match i, hi with
  | 0, _ => rfl
  | 1, _ => rfl
  | 2, _ => rfl
  | 3, _ => rfl

/-- a sum's four bytes. -/
def laidI (c : Int) : ByteArray := strOfNums [c / 16777216, c / 65536 % 256, c / 256 % 256, c % 256]

set_option maxHeartbeats 400000 in
theorem laid_any (c : Int) (w : World) (h0 : 0 ≤ c) (h1 : c < 4294967296) :
    Calls Try.prog 33 #[.int .u32 c] w fun e w' => e = .returned (.string (laidI c)) ∧ Below w.heap.size w w' := by
  have hcv := conv4 w
  go_enter Try.func33, Try.ntmps33
  go_wp2
  go_ret
  exact ⟨rfl, (Below.refl _ _).alloc (Nat.le_refl _) _⟩

/-- the sum of texts, one behind the other. -/
def ofI (l : List ByteArray) : Int := l.foldl (fun c s => moreI c s.data.toList) 0
theorem ofI_snoc (l : List ByteArray) (s : ByteArray) : ofI (l ++ [s]) = moreI (ofI l) s.data.toList := by simp [ofI]
theorem ofI_range (l : List ByteArray) : 0 ≤ ofI l ∧ ofI l < 4294967296 := by
  rcases List.eq_nil_or_concat l with rfl | ⟨l', s, rfl⟩
  · exact ⟨by decide, by decide⟩
  · rw [List.concat_eq_append, ofI_snoc]; exact moreI_range _ _

set_option maxHeartbeats 400000 in
theorem of_any (A : Option Addr) (xs : List ByteArray) (cap : Nat) (w : World) (hn : xs.length ≤ maxLen) (hl : ∀ s ∈ xs, s.size ≤ maxLen)
   (hc : ∀ i (h : i < xs.length), ∃ b o, A = some ⟨b, o, none⟩ ∧ b < w.heap.size ∧ w.cell? ⟨b, o + i, none⟩ = some (.string xs[i])) :
    Calls Try.prog 19 #[.slice A xs.length cap] w fun e w' => e = .returned (.int .u32 (ofI xs)) ∧ Below w.heap.size w w' := by
  unfold maxLen at hn
  go_enter Try.func19, Try.ntmps19
  go_wp2
  go_loopw [3, 8] (fun v3 v8 wr => ∃ k : Nat, k ≤ xs.length ∧ v8 = .int .i64 k ∧ v3 = .int .u32 (ofI (xs.take k)) ∧ Below w.heap.size w wr) (fun _ v8 _ => xs.length - (intOf v8).toNat)
  case atStart => exact ⟨0, Nat.zero_le _, rfl, rfl, Below.refl _ _⟩
  case round =>
    obtain ⟨k, hk, rfl, rfl, hb⟩ := hrel
    by_cases hlt : k < xs.length
    · obtain ⟨b, o, rfl, hlb, hcell⟩ := hc k hlt
      have hcell' : wr.cell? ⟨b, o + k, none⟩ = some (.string xs[k]) := (hb.cell (p := ⟨b, o + k, none⟩) hlb).trans hcell
      have hsz : xs[k].size ≤ maxLen := hl _ (List.getElem_mem hlt)
      have HS := Lib.hid (show ofI (xs.take (k + 1)) = moreI (ofI (xs.take k)) xs[k].data.toList by rw [List.take_succ_eq_append_getElem hlt, ofI_snoc])
      go_wp2_with fail
      refine (more_any _ _ _ hsz).mono ?_
      rintro e w1 ⟨rfl, hb1⟩
      go_wp2
      go_roundw
      case rel => exact ⟨k + 1, by omega, by go_num, by rw [HS.out], hb.trans (hb1.mono hb.size)⟩
      case measure => simp [intOf]; omega
    · have HT := Lib.hid (List.take_of_length_le (show xs.length ≤ k by omega))
      go_wp2
      go_ret
      exact ⟨by rw [HT.out]; rfl, hb⟩

set_option maxHeartbeats 400000 in
theorem of_one (s : ByteArray) (w : World) (b : Nat) (hb : b < w.heap.size) (hs : s.size ≤ maxLen) (hc : w.cell? ⟨b, 0, none⟩ = some (.string s)) :
    Calls Try.prog 19 #[.slice (some ⟨b, 0, none⟩) 1 1] w fun e w' => e = .returned (.int .u32 (moreI 0 s.data.toList)) ∧ Below w.heap.size w w' :=
  of_any (some ⟨b, 0, none⟩) [s] 1 w (by simp [maxLen]) (by simpa using hs) (fun i hi => ⟨b, 0, rfl, hb, by
    have : i = 0 := by simpa using hi
    subst this
    exact hc⟩)

set_option maxHeartbeats 400000 in
theorem seal_any (s : ByteArray) (w : World) (hs : s.size ≤ 1000) :
    Calls Try.prog 20 #[.string s] w fun e w' => e = .returned (.string (s ++ laidI (moreI 0 s.data.toList))) ∧ Below w.heap.size w w' := by
  have hm := moreI_range 0 s.data.toList
  have hl : (laidI (moreI 0 s.data.toList)).size ≤ 4 := by unfold laidI; rw [strOfNums_size]; exact Nat.le_refl 4
  go_enter Try.func20, Try.ntmps20
  go_wp2_with fail
  refine (of_one s _ w.heap.size (by simp) (by unfold maxLen; omega) (by simp)).mono ?_
  rintro e w1 ⟨rfl, hb1⟩
  go_wp2_with fail
  refine (laid_any _ _ hm.1 hm.2).mono ?_
  rintro e w2 ⟨rfl, hb2⟩
  go_wp2
  go_ret
  exact ⟨rfl, (((Below.refl _ _).alloc (Nat.le_refl _) _).trans (hb1.mono (by simp))).trans (hb2.mono (by have := hb1.size; simp at this; omega))⟩
end Go.Proofs.Ytokcnblonbcpeaa
