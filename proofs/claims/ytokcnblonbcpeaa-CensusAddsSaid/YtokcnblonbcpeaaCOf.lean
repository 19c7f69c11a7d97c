/- The walks of census.Of and of the reference's Ints. -/
import Derived.Test.YtokcnblonbcpeaaAdd
namespace Go.Proofs.Ytokcnblonbcpeaa
open Go.RowKit

theorem Try.str28' : (Try.prog.info? 28).map (·.size) = some 7 := by kernel_rfl
theorem Try.str28 (s : Cen) : (Try.prog.info? 28).map (·.size) = some s.cells.size := Try.str28'
theorem cells_one (s : Cen) : s.cells.all (·.oneCell') = true := by simp [Cen.cells, Value.oneCell']
theorem below_setRow {B : Nat} {a w : World} (h : Below B a w) {g : Nat} (hg : B ≤ g) (cs : Array Value) : Below B a (w.setRow g cs) :=
  ⟨h.os, h.tape, h.output, by rw [size_setRow]; exact h.size, fun b hb => (setRow_other w g b cs (by omega)).trans (h.block b hb)⟩
theorem below_drewN {B : Nat} {a w : World} (h : Below B a w) (n : Nat) : Below B a (w.drewN n) := ⟨h.os, h.tape, h.output, h.size, h.block⟩
set_option maxHeartbeats 1000000 in
theorem cof_any (A : Option Addr) (L : List Cnt) (cap : Nat) (w : World) (hn : L.length ≤ 1099511627776) (hc : CntsAt w A L) (hp : posSum L ≤ 4611686018427387904) :
    Calls Try.prog 13 #[.slice A L.length cap] w fun e w' => e = .returned (.agg (cenOf L).cells) ∧ Below w.heap.size w w' := by
  go_enter Try.func13, Try.ntmps13
  go_wp2
  go_loopw [8] (fun v8 wr => ∃ k : Nat, k ≤ L.length ∧ v8 = .int .i64 k ∧ Blk wr (w.heap.size + 1) 28 (cenOf (L.take k)).cells ∧ Blk wr w.heap.size 28 Cen.zero.cells ∧ Below w.heap.size w wr) (fun v8 _ => L.length - (intOf v8).toNat)
  case atStart =>
    refine ⟨0, Nat.zero_le _, rfl, ?_, (Blk.new w 28 _).alloc _, cba (cba (Below.refl _ _) _) _⟩
    have h := Blk.new (w.alloc (Obj.cells Cen.zero.cells 28)) 28 Cen.zero.cells
    rw [World.size_alloc] at h
    exact h
  case round =>
    obtain ⟨k, hk, rfl, hblk, hres, hb⟩ := hrel
    by_cases hlt : k < L.length
    · obtain ⟨b, o, v, rfl, hbl, hc0, hc1, hv, hr0, hr1⟩ := hc k hlt
      have g0 : wr.cell? ⟨b, o + k * 2, none⟩ = some v := (hb.cell (p := ⟨b, o + k * 2, none⟩) hbl).trans hc0
      have g1 : wr.cell? ⟨b, o + k * 2 + 1, none⟩ = some (.int .i64 L[k].n) := (hb.cell (p := ⟨b, o + k * 2 + 1, none⟩) hbl).trans hc1
      have hvr : IsInts wr v L[k].g := hv.below hb
      have hok := Cen.ok_of L k (by omega)
      have HS := Lib.hid (cenOf_take L k hlt)
      have htot := cen_tot (L.take k)
      have hsum : posSum (L.take k) + max L[k].n 0 ≤ 4611686018427387904 := by
        have h1 := posSum_take_le L (k + 1)
        rw [List.take_succ_eq_append_getElem hlt, posSum_append] at h1
        have h2 : posSum [L[k]] = max L[k].n 0 := by simp [posSum]
        omega
      clear hc hc0 hc1
      obtain ⟨x, hx⟩ : ∃ x, L[k] = x := ⟨_, rfl⟩
      rw [hx] at g1 hvr HS hsum
      clear hx
      have hvr' := hvr
      obtain ⟨A', cap', rfl, _, _, _⟩ := hvr'
      go_wp2_with fail
      refine (add_any (w.heap.size + 1) (cenOf (L.take k)) x _ _ k (by omega) hok htot.1 (by omega) (hblk.alloc _) (hvr.below (cba (Below.refl _ _) _))).mono ?_
      rintro e w1 ⟨rfl, hblk1, hgr⟩
      go_wp2
      go_roundw
      case rel =>
        refine ⟨k + 1, by omega, by go_num, by rw [HS.out]; exact hblk1, (hres.alloc _).grown hgr (by simp), ?_⟩
        exact (hb.alloc hb.size _).grown hgr (by have := hb.size; simp; omega) (fun k e => by cases e; omega)
      case measure => simp [intOf]; omega
    · have HT := Lib.hid (List.take_of_length_le (show L.length ≤ k by omega))
      have hblk2 : Blk wr (w.heap.size + 1) 28 (cenOf L).cells := by rw [← HT.out]; exact hblk
      have q0 : wr.cell? ⟨w.heap.size + 1, 0, none⟩ = some (.int .i64 (cenOf L).ty) := hblk2.cell 0
      have q1 : wr.cell? ⟨w.heap.size + 1, 1, none⟩ = some (.int .i64 (cenOf L).tot) := hblk2.cell 1
      have q2 : wr.cell? ⟨w.heap.size + 1, 2, none⟩ = some (.int .i64 0) := hblk2.cell 2
      have q3 : wr.cell? ⟨w.heap.size + 1, 3, none⟩ = some (.int .i64 (cenOf L).n1) := hblk2.cell 3
      have q4 : wr.cell? ⟨w.heap.size + 1, 4, none⟩ = some (.int .i64 (cenOf L).n2) := hblk2.cell 4
      have q5 : wr.cell? ⟨w.heap.size + 1, 5, none⟩ = some (.int .i64 (cenOf L).n3) := hblk2.cell 5
      have q6 : wr.cell? ⟨w.heap.size + 1, 6, none⟩ = some (.int .i64 (cenOf L).n4) := hblk2.cell 6
      have r0 : wr.cell? ⟨w.heap.size, 0, none⟩ = some (.int .i64 0) := hres.cell 0
      have r1 : wr.cell? ⟨w.heap.size, 1, none⟩ = some (.int .i64 0) := hres.cell 1
      have r2 : wr.cell? ⟨w.heap.size, 2, none⟩ = some (.int .i64 0) := hres.cell 2
      have r3 : wr.cell? ⟨w.heap.size, 3, none⟩ = some (.int .i64 0) := hres.cell 3
      have r4 : wr.cell? ⟨w.heap.size, 4, none⟩ = some (.int .i64 0) := hres.cell 4
      have r5 : wr.cell? ⟨w.heap.size, 5, none⟩ = some (.int .i64 0) := hres.cell 5
      have r6 : wr.cell? ⟨w.heap.size, 6, none⟩ = some (.int .i64 0) := hres.cell 6
      have f0 := hres.frozen 0
      have f1 := hres.frozen 1
      have f2 := hres.frozen 2
      have f3 := hres.frozen 3
      have f4 := hres.frozen 4
      have f5 := hres.frozen 5
      have f6 := hres.frozen 6
      clear hc
      go_wp2
      exact bodyPost_ret (v := .agg (cenOf L).cells) (by simp [results, Try.results13, go_sem, r0, r1, r2, r3, r4, r5, r6, Cen.cells]) rfl ⟨rfl, ((((((hb.setCell (Nat.le_refl _) _).setCell (Nat.le_refl _) _).setCell (Nat.le_refl _) _).setCell (Nat.le_refl _) _).setCell (Nat.le_refl _) _).setCell (Nat.le_refl _) _).setCell (Nat.le_refl _) _⟩
theorem intsB_snoc (a b : List Int) (k : Nat) (ha : k < a.length) (hb : k < b.length) : (a.take (k + 1) = b.take (k + 1)) ↔ (a.take k = b.take k ∧ a[k] = b[k]) := by
  rw [List.take_succ_eq_append_getElem ha, List.take_succ_eq_append_getElem hb]
  constructor
  · intro h
    have := List.append_inj h (by simp; omega)
    exact ⟨this.1, by simpa using this.2⟩
  · rintro ⟨h1, h2⟩
    rw [h1, h2]
set_option maxHeartbeats 1000000 in
theorem ints_any (A B : Option Addr) (a b : List Int) (ca cb : Nat) (w : World) (hla : a.length ≤ 9223372036854775807) (hlb : b.length ≤ 9223372036854775807) (ha : IntsAt w A a) (hb : IntsAt w B b) :
    Calls Try.prog 29 #[.slice A a.length ca, .slice B b.length cb] w fun e w' => e = .returned (.bool (decide (a = b))) ∧ Below w.heap.size w w' := by
  by_cases hl : a.length = b.length
  · have hll : ((a.length : Int) != (b.length : Int)) = false := by simp [hl]
    have hlb' : b.length ≤ a.length := by omega
    have HL := Lib.hid hl
    clear hl
    go_enter Try.func29, Try.ntmps29
    go_wp2
    clear hll
    go_loopw [5] (fun v5 wr => ∃ k : Nat, k ≤ a.length ∧ v5 = .int .i64 k ∧ Hid (a.take k = b.take k) ∧ Below w.heap.size w wr) (fun v5 _ => a.length - (intOf v5).toNat)
    case atStart => exact ⟨0, Nat.zero_le _, rfl, Lib.hid rfl, Below.refl _ _⟩
    case round =>
      obtain ⟨k, hk, rfl, htk, hbr⟩ := hrel
      by_cases hlt : k < a.length
      · have hlt' : k < b.length := by have := HL.out; omega
        obtain ⟨ba, oa, rfl, hba, hca⟩ := ha k hlt
        obtain ⟨bb, ob, rfl, hbb, hcb⟩ := hb k hlt'
        have hca' : wr.cell? ⟨ba, oa + k, none⟩ = some (.int .i64 a[k]) := (hbr.cell (p := ⟨ba, oa + k, none⟩) hba).trans hca
        have hcb' : wr.cell? ⟨bb, ob + k, none⟩ = some (.int .i64 b[k]) := (hbr.cell (p := ⟨bb, ob + k, none⟩) hbb).trans hcb
        clear hca hcb ha hb
        have HS := Lib.hid (intsB_snoc a b k hlt hlt')
        generalize a[k] = x at *
        generalize b[k] = y at *
        have i0 : (0 : Int) ≤ (k : Int) := by omega
        have i1 : (k : Int) < (a.length : Int) := by omega
        have i2 : (k : Int) < (b.length : Int) := by omega
        by_cases hxy : x = y
        · have hne : (x != y) = false := by simp [hxy]
          have HXY := Lib.hid hxy
          clear hxy
          go_wp2
          go_quiet (fail)
          go_wp2
          go_roundw
          case rel => exact ⟨k + 1, by omega, by go_num, Lib.hid (HS.out.2 ⟨htk.out, HXY.out⟩), below_drewN hbr _⟩
          case measure => simp [intOf]; omega
        · have hne : (x != y) = true := by simp [hxy]
          have HXY := Lib.hid hxy
          have hno : ¬ a = b := fun e => by
            subst e
            exact hxy ((HS.out.1 rfl).2)
          have HN := Lib.hid (decide_eq_false hno)
          clear hxy hno
          go_wp2
          go_quiet (fail)
          go_wp2
          go_ret
          exact ⟨by rw [HN.out]; rfl, below_drewN hbr _⟩
      · have hab : a = b := by
          have h1 := htk.out
          rwa [List.take_of_length_le (by omega), List.take_of_length_le (by omega)] at h1
        have HN := Lib.hid (decide_eq_true hab)
        clear hab
        go_wp2
        go_ret
        exact ⟨by rw [HN.out]; rfl, hbr⟩
  · have hll : ((a.length : Int) != (b.length : Int)) = true := by simp; omega
    have HN := Lib.hid (decide_eq_false (fun e : a = b => hl (by rw [e])))
    clear hl
    go_enter Try.func29, Try.ntmps29
    go_wp2
    go_ret
    exact ⟨by rw [HN.out]; rfl, Below.refl _ _⟩
end Go.Proofs.Ytokcnblonbcpeaa
