/- The walk of census.Add: two censuses added up. -/
import Derived.Test.YtokcnblonbcpeaaCOf
namespace Go.Proofs.Ytokcnblonbcpeaa
open Go.RowKit

def Cen.plus (s t : Cen) : Cen := ⟨s.ty + t.ty, s.tot + t.tot, s.n1 + t.n1, s.n2 + t.n2, s.n3 + t.n3, s.n4 + t.n4⟩
/-- the sum, of which the first k numbers of N are reckoned. -/
def Cen.part (s t : Cen) (k : Nat) : Cen := ⟨s.ty + t.ty, s.tot + t.tot, if 2 ≤ k then s.n1 + t.n1 else s.n1, if 3 ≤ k then s.n2 + t.n2 else s.n2, if 4 ≤ k then s.n3 + t.n3 else s.n3, if 5 ≤ k then s.n4 + t.n4 else s.n4⟩
theorem Cen.part5 (s t : Cen) : s.part t 5 = s.plus t := rfl
/-- bounds under which no sum wraps. -/
def Cen.fits (s : Cen) : Prop := 0 ≤ s.ty ∧ s.ty ≤ 1099511627776 ∧ 0 ≤ s.n1 ∧ s.n1 ≤ 1099511627776 ∧ 0 ≤ s.n2 ∧ s.n2 ≤ 1099511627776 ∧ 0 ≤ s.n3 ∧ s.n3 ≤ 1099511627776 ∧ 0 ≤ s.n4 ∧ s.n4 ≤ 1099511627776 ∧ 0 ≤ s.tot ∧ s.tot ≤ 4611686018427387904
theorem Cen.fits_of {s : Cen} {k : Nat} (h : s.ok k) (hk : k ≤ 1099511627776) (h0 : 0 ≤ s.tot) (h1 : s.tot ≤ 4611686018427387904) : s.fits := by
  unfold Cen.ok at h
  unfold Cen.fits
  omega

set_option maxHeartbeats 2000000 in
theorem plus_any (s t : Cen) (w : World) (hs : s.fits) (ht : t.fits) (hsum : s.tot + t.tot ≤ 4611686018427387904) :
    Calls Try.prog 27 #[.agg s.cells, .agg t.cells] w fun e w' => e = .returned (.agg (s.plus t).cells) ∧ Below w.heap.size w w' := by
  unfold Cen.fits at hs ht
  obtain ⟨s1, s2, s3, s4, s5, s6, s7, s8, s9, s10, s11, s12⟩ := hs
  obtain ⟨t1, t2, t3, t4, t5, t6, t7, t8, t9, t10, t11, t12⟩ := ht
  go_enter Try.func27, Try.ntmps27
  unfold Cen.cells
  go_wp2
  go_loopw [18] (fun v18 wr => ∃ k : Nat, k ≤ 5 ∧ v18 = .int .i64 k ∧ Blk wr w.heap.size 28 (s.part t k).cells ∧ Blk wr (w.heap.size + 1) 28 t.cells ∧ Blk wr (w.heap.size + 2) 28 Cen.zero.cells ∧ Below w.heap.size w wr) (fun v18 _ => 5 - (intOf v18).toNat)
  case atStart =>
    have e0 := Blk.new w 28 (s.part t 0).cells
    have e1 := Blk.new (w.alloc (.cells (s.part t 0).cells 28)) 28 t.cells
    have e2 := Blk.new ((w.alloc (.cells (s.part t 0).cells 28)).alloc (.cells t.cells 28)) 28 Cen.zero.cells
    rw [World.size_alloc] at e1
    simp only [World.size_alloc] at e2
    exact ⟨0, by omega, rfl, (e0.alloc _).alloc _, e1.alloc _, e2, cba (cba (cba (Below.refl _ _) _) _) _⟩
  case round =>
    obtain ⟨k, hk, rfl, ha, hbt, hres, hb⟩ := hrel
    have hb1 := hb.size
    by_cases hlt : k < 5
    · have c2 := ha.cell 2
      have c3 := ha.cell 3
      have c4 := ha.cell 4
      have c5 := ha.cell 5
      have c6 := ha.cell 6
      have d2 : wr.cell? ⟨w.heap.size + 1, 2, none⟩ = some (.int .i64 0) := hbt.cell 2
      have d3 : wr.cell? ⟨w.heap.size + 1, 3, none⟩ = some (.int .i64 t.n1) := hbt.cell 3
      have d4 : wr.cell? ⟨w.heap.size + 1, 4, none⟩ = some (.int .i64 t.n2) := hbt.cell 4
      have d5 : wr.cell? ⟨w.heap.size + 1, 5, none⟩ = some (.int .i64 t.n3) := hbt.cell 5
      have d6 : wr.cell? ⟨w.heap.size + 1, 6, none⟩ = some (.int .i64 t.n4) := hbt.cell 6
      have f2 := ha.frozen 2
      have f3 := ha.frozen 3
      have f4 := ha.frozen 4
      have f5 := ha.frozen 5
      have f6 := ha.frozen 6
      obtain rfl | rfl | rfl | rfl | rfl : k = 0 ∨ k = 1 ∨ k = 2 ∨ k = 3 ∨ k = 4 := by omega
      · have q2 : wr.cell? ⟨w.heap.size, 2, none⟩ = some (.int .i64 (0)) := c2
        have q3 : wr.cell? ⟨w.heap.size, 3, none⟩ = some (.int .i64 (s.n1)) := c3
        have q4 : wr.cell? ⟨w.heap.size, 4, none⟩ = some (.int .i64 (s.n2)) := c4
        have q5 : wr.cell? ⟨w.heap.size, 5, none⟩ = some (.int .i64 (s.n3)) := c5
        have q6 : wr.cell? ⟨w.heap.size, 6, none⟩ = some (.int .i64 (s.n4)) := c6
        clear c2 c3 c4 c5 c6
        go_wp2
        go_region
        go_wp2
        go_roundw
        case rel =>
          have hq := (ha.set_ 2 (.int .i64 (0))).drew
          exact ⟨1, by omega, by go_num, hq, (hbt.far (p := ⟨w.heap.size, 2, none⟩) (by simp) _).drew, (hres.far (p := ⟨w.heap.size, 2, none⟩) (by simp) _).drew, below_drewN (hb.setCell (p := ⟨w.heap.size, 2, none⟩) (Nat.le_refl _) _) 1⟩
        case measure => simp [intOf]
      · have q2 : wr.cell? ⟨w.heap.size, 2, none⟩ = some (.int .i64 (0)) := c2
        have q3 : wr.cell? ⟨w.heap.size, 3, none⟩ = some (.int .i64 (s.n1)) := c3
        have q4 : wr.cell? ⟨w.heap.size, 4, none⟩ = some (.int .i64 (s.n2)) := c4
        have q5 : wr.cell? ⟨w.heap.size, 5, none⟩ = some (.int .i64 (s.n3)) := c5
        have q6 : wr.cell? ⟨w.heap.size, 6, none⟩ = some (.int .i64 (s.n4)) := c6
        clear c2 c3 c4 c5 c6
        go_wp2
        go_region
        go_wp2
        go_roundw
        case rel =>
          have hq := (ha.set_ 3 (.int .i64 (s.n1 + t.n1))).drew
          exact ⟨2, by omega, by go_num, hq, (hbt.far (p := ⟨w.heap.size, 3, none⟩) (by simp) _).drew, (hres.far (p := ⟨w.heap.size, 3, none⟩) (by simp) _).drew, below_drewN (hb.setCell (p := ⟨w.heap.size, 3, none⟩) (Nat.le_refl _) _) 1⟩
        case measure => simp [intOf]
      · have q2 : wr.cell? ⟨w.heap.size, 2, none⟩ = some (.int .i64 (0)) := c2
        have q3 : wr.cell? ⟨w.heap.size, 3, none⟩ = some (.int .i64 (s.n1 + t.n1)) := c3
        have q4 : wr.cell? ⟨w.heap.size, 4, none⟩ = some (.int .i64 (s.n2)) := c4
        have q5 : wr.cell? ⟨w.heap.size, 5, none⟩ = some (.int .i64 (s.n3)) := c5
        have q6 : wr.cell? ⟨w.heap.size, 6, none⟩ = some (.int .i64 (s.n4)) := c6
        clear c2 c3 c4 c5 c6
        go_wp2
        go_region
        go_wp2
        go_roundw
        case rel =>
          have hq := (ha.set_ 4 (.int .i64 (s.n2 + t.n2))).drew
          exact ⟨3, by omega, by go_num, hq, (hbt.far (p := ⟨w.heap.size, 4, none⟩) (by simp) _).drew, (hres.far (p := ⟨w.heap.size, 4, none⟩) (by simp) _).drew, below_drewN (hb.setCell (p := ⟨w.heap.size, 4, none⟩) (Nat.le_refl _) _) 1⟩
        case measure => simp [intOf]
      · have q2 : wr.cell? ⟨w.heap.size, 2, none⟩ = some (.int .i64 (0)) := c2
        have q3 : wr.cell? ⟨w.heap.size, 3, none⟩ = some (.int .i64 (s.n1 + t.n1)) := c3
        have q4 : wr.cell? ⟨w.heap.size, 4, none⟩ = some (.int .i64 (s.n2 + t.n2)) := c4
        have q5 : wr.cell? ⟨w.heap.size, 5, none⟩ = some (.int .i64 (s.n3)) := c5
        have q6 : wr.cell? ⟨w.heap.size, 6, none⟩ = some (.int .i64 (s.n4)) := c6
        clear c2 c3 c4 c5 c6
        go_wp2
        go_region
        go_wp2
        go_roundw
        case rel =>
          have hq := (ha.set_ 5 (.int .i64 (s.n3 + t.n3))).drew
          exact ⟨4, by omega, by go_num, hq, (hbt.far (p := ⟨w.heap.size, 5, none⟩) (by simp) _).drew, (hres.far (p := ⟨w.heap.size, 5, none⟩) (by simp) _).drew, below_drewN (hb.setCell (p := ⟨w.heap.size, 5, none⟩) (Nat.le_refl _) _) 1⟩
        case measure => simp [intOf]
      · have q2 : wr.cell? ⟨w.heap.size, 2, none⟩ = some (.int .i64 (0)) := c2
        have q3 : wr.cell? ⟨w.heap.size, 3, none⟩ = some (.int .i64 (s.n1 + t.n1)) := c3
        have q4 : wr.cell? ⟨w.heap.size, 4, none⟩ = some (.int .i64 (s.n2 + t.n2)) := c4
        have q5 : wr.cell? ⟨w.heap.size, 5, none⟩ = some (.int .i64 (s.n3 + t.n3)) := c5
        have q6 : wr.cell? ⟨w.heap.size, 6, none⟩ = some (.int .i64 (s.n4)) := c6
        clear c2 c3 c4 c5 c6
        go_wp2
        go_region
        go_wp2
        go_roundw
        case rel =>
          have hq := (ha.set_ 6 (.int .i64 (s.n4 + t.n4))).drew
          exact ⟨5, by omega, by go_num, hq, (hbt.far (p := ⟨w.heap.size, 6, none⟩) (by simp) _).drew, (hres.far (p := ⟨w.heap.size, 6, none⟩) (by simp) _).drew, below_drewN (hb.setCell (p := ⟨w.heap.size, 6, none⟩) (Nat.le_refl _) _) 1⟩
        case measure => simp [intOf]
    · obtain rfl : k = 5 := by omega
      rw [Cen.part5] at ha
      have q0 : wr.cell? ⟨w.heap.size, 0, none⟩ = some (.int .i64 (s.plus t).ty) := ha.cell 0
      have q1 : wr.cell? ⟨w.heap.size, 1, none⟩ = some (.int .i64 (s.plus t).tot) := ha.cell 1
      have q2 : wr.cell? ⟨w.heap.size, 2, none⟩ = some (.int .i64 0) := ha.cell 2
      have q3 : wr.cell? ⟨w.heap.size, 3, none⟩ = some (.int .i64 (s.plus t).n1) := ha.cell 3
      have q4 : wr.cell? ⟨w.heap.size, 4, none⟩ = some (.int .i64 (s.plus t).n2) := ha.cell 4
      have q5 : wr.cell? ⟨w.heap.size, 5, none⟩ = some (.int .i64 (s.plus t).n3) := ha.cell 5
      have q6 : wr.cell? ⟨w.heap.size, 6, none⟩ = some (.int .i64 (s.plus t).n4) := ha.cell 6
      have r0 : wr.cell? ⟨w.heap.size + 2, 0, none⟩ = some (.int .i64 0) := hres.cell 0
      have r1 : wr.cell? ⟨w.heap.size + 2, 1, none⟩ = some (.int .i64 0) := hres.cell 1
      have r2 : wr.cell? ⟨w.heap.size + 2, 2, none⟩ = some (.int .i64 0) := hres.cell 2
      have r3 : wr.cell? ⟨w.heap.size + 2, 3, none⟩ = some (.int .i64 0) := hres.cell 3
      have r4 : wr.cell? ⟨w.heap.size + 2, 4, none⟩ = some (.int .i64 0) := hres.cell 4
      have r5 : wr.cell? ⟨w.heap.size + 2, 5, none⟩ = some (.int .i64 0) := hres.cell 5
      have r6 : wr.cell? ⟨w.heap.size + 2, 6, none⟩ = some (.int .i64 0) := hres.cell 6
      have f0 := hres.frozen 0
      have f1 := hres.frozen 1
      have f2 := hres.frozen 2
      have f3 := hres.frozen 3
      have f4 := hres.frozen 4
      have f5 := hres.frozen 5
      have f6 := hres.frozen 6
      have hle : w.heap.size ≤ w.heap.size + 2 := by omega
      go_wp2
      exact bodyPost_ret (v := .agg (s.plus t).cells) (by simp [results, Try.results27, go_sem, r0, r1, r2, r3, r4, r5, r6, Cen.cells]) rfl ⟨rfl, ((((((hb.setCell hle _).setCell hle _).setCell hle _).setCell hle _).setCell hle _).setCell hle _).setCell hle _⟩
end Go.Proofs.Ytokcnblonbcpeaa
