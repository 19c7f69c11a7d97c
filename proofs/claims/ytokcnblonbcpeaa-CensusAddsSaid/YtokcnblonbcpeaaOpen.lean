/- The walk of crc.Open: what it returns (openV), and that nothing that lay there has changed. Condition: at most 1000 bytes. -/
import Derived.Test.YtokcnblonbcpeaaSeal
import Derived.Deep.Draws
import Derived.Deep.AppendLies
import Derived.Maps.AppendAt
import Derived.OwnWalk
import Derived.Laws.MakeOwn
import Derived.Laws.OwnMore
import Derived.Lib.ConvBytes
import Derived.Laws.Slices
import Derived.Deep.LoopGhost
import Derived.Deep.QuietTactic
import Derived.BigQuiet
import Derived.WideLaws
import Derived.Deep.DeepCutAuto
import Derived.Deep.CutBlock
import Derived.Deep.RegionHeld3
import Derived.Deep.DrawnRows
import Derived.Lib.AppendStr
import Derived.ArgAppend
import Derived.Laws.IdiomCopy
import Derived.OrdersHeld
namespace Go.Proofs.Ytokcnblonbcpeaa
open Go.RowKit

/-- what lies ahead of the last four bytes, and these. -/
def bodyOf (s : ByteArray) : ByteArray := s.extract 0 (s.size - 4)
def tailOf (s : ByteArray) : ByteArray := s.extract (s.size - 4) s.size
/-- what Open returns. -/
def openV (s : ByteArray) : ByteArray × Int :=
  if s.size < 4 then (⟨#[]⟩, 2) else if tailOf s = laidI (moreI 0 (bodyOf s).data.toList) then (bodyOf s, 0) else (⟨#[]⟩, 4)

theorem bytes_beq (a b : ByteArray) : (a.toList == b.toList) = true ↔ a = b := by
  constructor
  · intro h
    have h := eq_of_beq h
    rw [ByteArray.toList_eq, ByteArray.toList_eq] at h
    cases a; cases b
    congr 1
    exact Array.ext' h
  · rintro rfl
    exact beq_self_eq_true _

set_option maxHeartbeats 400000 in
theorem open_any (s : ByteArray) (w : World) (hm : s.size ≤ 1000) :
    Calls Try.prog 21 #[.string s] w fun e w' => e = .returned (.tuple #[.string (openV s).1, .int .i64 (openV s).2]) ∧ Below w.heap.size w w' := by
  by_cases hs : s.size < 4
  · have HV := Lib.hid (show openV s = (⟨#[]⟩, 2) from if_pos hs)
    go_enter Try.func21, Try.ntmps21
    go_wp2
    go_ret2
    exact ⟨by rw [HV.out]; rfl, Below.refl _ _⟩
  · have hV : openV s = if tailOf s = laidI (moreI 0 (bodyOf s).data.toList) then (bodyOf s, 0) else (⟨#[]⟩, 4) := if_neg hs
    have hr := moreI_range 0 (bodyOf s).data.toList
    have HV := Lib.hid hV
    clear hV
    go_enter Try.func21, Try.ntmps21
    go_upto_region 4 with (fail)
    have hbs : (s.extract 0 (s.size - 4)).size = s.size - 4 := by simp
    have hbd : bodyOf s = s.extract 0 (s.size - 4) := rfl
    rw [← hbd] at hbs ⊢
    clear hbd
    generalize hbd : bodyOf s = bd at *
    have HB := Lib.hid hbd
    have hbs1 : bd.size ≤ s.size - 4 := by omega
    have hbs2 : s.size - 4 ≤ bd.size := by omega
    have HZ := Lib.hid hbs
    have hbi0 : (0 : Int) ≤ (bd.size : Int) := by omega
    have hbi : (bd.size : Int) ≤ (s.size : Int) := by omega
    clear hbs hbd
    go_region_held3 (fun _ => True) (trivial) (first | (go_at_call 19; refine (of_one bd _ w.heap.size (by simp) (by unfold maxLen; omega) (by simp)).mono ?_; rintro e w1 ⟨rfl, hb1⟩) | (go_at_call 33; refine (laid_any _ _ hr.1 hr.2).mono ?_; rintro e w2 ⟨rfl, hb2⟩))
    go_wp2
    all_goals
      have hbb : Below w.heap.size w w2 := ((Below.refl _ _).alloc (Nat.le_refl _) _).drew.trans (hb1.mono (by simp)) |>.trans (hb2.mono (by have := hb1.size; simp at this; omega))
    · have ht : (!(s.extract bd.size s.size).toList == (laidI (moreI 0 bd.data.toList)).toList) = true := by assumption
      go_ret2
      refine ⟨?_, hbb⟩
      rw [HV.out, if_neg]
      · rfl
      · intro e
        rw [HZ.out, show s.extract (s.size - 4) s.size = tailOf s from rfl, (bytes_beq _ _).2 e] at ht
        simp at ht
    · have ht : (!(s.extract bd.size s.size).toList == (laidI (moreI 0 bd.data.toList)).toList) = false := by assumption
      go_ret2
      refine ⟨?_, hbb⟩
      rw [HV.out, if_pos]
      · rfl
      · rw [HZ.out, show s.extract (s.size - 4) s.size = tailOf s from rfl] at ht
        exact (bytes_beq _ _).1 (by simpa using ht)
end Go.Proofs.Ytokcnblonbcpeaa
