/- The walk of the reference's Of: the six numbers of the same census. -/
import Derived.Test.YtokcnblonbcpeaaCOf
namespace Go.Proofs.Ytokcnblonbcpeaa
open Go.RowKit

theorem rows_01 (s : Cen) (a b : Int) : (s.row.setIfInBounds 0 (.int .i64 a)).setIfInBounds 1 (.int .i64 b) = (Cen.mk a b s.n1 s.n2 s.n3 s.n4).row := by simp [Cen.row]
theorem rows_2 (s : Cen) (a : Int) : s.row.setIfInBounds 2 (.int .i64 a) = (Cen.mk s.ty s.tot a s.n2 s.n3 s.n4).row := by simp [Cen.row]
theorem rows_3 (s : Cen) (a : Int) : s.row.setIfInBounds 3 (.int .i64 a) = (Cen.mk s.ty s.tot s.n1 a s.n3 s.n4).row := by simp [Cen.row]
theorem rows_4 (s : Cen) (a : Int) : s.row.setIfInBounds 4 (.int .i64 a) = (Cen.mk s.ty s.tot s.n1 s.n2 a s.n4).row := by simp [Cen.row]
theorem rows_5 (s : Cen) (a : Int) : s.row.setIfInBounds 5 (.int .i64 a) = (Cen.mk s.ty s.tot s.n1 s.n2 s.n3 a).row := by simp [Cen.row]
theorem Blk.rowed {w : World} {g : Nat} {s : Cen} (h : Blk w g 30 s.row) (a b : Int) : Blk ((w.setCell ⟨g, 0, none⟩ (.int .i64 a)).setCell ⟨g, 1, none⟩ (.int .i64 b)) g 30 (Cen.mk a b s.n1 s.n2 s.n3 s.n4).row := by
  rw [← rows_01]
  exact (h.set_ 0 _).set_ 1 _
theorem ints_one (A : Option Addr) (a : List Int) (ca : Nat) (w : World) (b : Nat) (hla : a.length ≤ 9223372036854775807) (ha : IntsAt w A a) (hlt : b < w.heap.size) (hb : w.cell? ⟨b, 0, none⟩ = some (.int .i64 1)) :
    Calls Try.prog 29 #[.slice A a.length ca, .slice (some ⟨b, 0, none⟩) 1 1] w fun e w' => e = .returned (.bool (decide (a = [1]))) ∧ Below w.heap.size w w' :=
  ints_any A (some ⟨b, 0, none⟩) a [1] ca 1 w hla (by simp) ha (fun i hi => ⟨b, 0, rfl, hlt, by
    have : i = 0 := by simpa using hi
    subst this
    exact hb⟩)
theorem slot1 {s : Cen} {x : Cnt} (h : ¬ outB x = true) (hn : x.n = 1) : s.add x = ⟨s.ty + 1, s.tot + 1, s.n1 + 1, s.n2, s.n3, s.n4⟩ := by rw [Cen.add_in h, hn]; rfl
theorem slot2 {s : Cen} {x : Cnt} (h : ¬ outB x = true) (hn : x.n = 2) : s.add x = ⟨s.ty + 1, s.tot + 2, s.n1, s.n2 + 1, s.n3, s.n4⟩ := by rw [Cen.add_in h, hn]; rfl
theorem slot3 {s : Cen} {x : Cnt} (h : ¬ outB x = true) (hn : x.n = 3) : s.add x = ⟨s.ty + 1, s.tot + 3, s.n1, s.n2, s.n3 + 1, s.n4⟩ := by rw [Cen.add_in h, hn]; rfl
theorem slot4 {s : Cen} {x : Cnt} (h : ¬ outB x = true) (hn : x.n = 4) : s.add x = ⟨s.ty + 1, s.tot + 4, s.n1, s.n2, s.n3, s.n4 + 1⟩ := by rw [Cen.add_in h, hn]; rfl
theorem slot5 {s : Cen} {x : Cnt} (h : ¬ outB x = true) (hn : 5 ≤ x.n) : s.add x = ⟨s.ty + 1, s.tot + x.n, s.n1, s.n2, s.n3, s.n4⟩ := by
  rw [Cen.add_in h, if_neg (by omega), if_neg (by omega), if_neg (by omega), if_neg (by omega)]

set_option maxHeartbeats 4000000 in
theorem rof_any (A : Option Addr) (L : List Cnt) (cap : Nat) (w : World) (hn : L.length ≤ 1099511627776) (hc : CntsAt w A L) (hp : posSum L ≤ 4611686018427387904) :
    Calls Try.prog 15 #[.slice A L.length cap] w fun e w' => e = .returned (.agg (cenOf L).row) ∧ Below w.heap.size w w' := by
  go_enter Try.func15, Try.ntmps15
  go_wp2
  go_loopw [4] (fun v4 wr => ∃ k : Nat, k ≤ L.length ∧ v4 = .int .i64 k ∧ Blk wr (w.heap.size + 1) 30 (cenOf (L.take k)).row ∧ Blk wr w.heap.size 30 Cen.zero.row ∧ Below w.heap.size w wr) (fun v4 _ => L.length - (intOf v4).toNat)
  case atStart =>
    refine ⟨0, Nat.zero_le _, rfl, ?_, (Blk.new w 30 _).alloc _, cba (cba (Below.refl _ _) _) _⟩
    have h := Blk.new (w.alloc (Obj.cells Cen.zero.row 30)) 30 Cen.zero.row
    rw [World.size_alloc] at h
    exact h
  case round =>
    obtain ⟨k, hk, rfl, hblk, hres, hb⟩ := hrel
    by_cases hlt : k < L.length
    · obtain ⟨b, o, v, rfl, hbl, hc0, hc1, hv, hr0, hr1⟩ := hc k hlt
      have g0 : wr.cell? ⟨b, o + k * 2, none⟩ = some v := (hb.cell (p := ⟨b, o + k * 2, none⟩) hbl).trans hc0
      have g1 : wr.cell? ⟨b, o + k * 2 + 1, none⟩ = some (.int .i64 L[k].n) := (hb.cell (p := ⟨b, o + k * 2 + 1, none⟩) hbl).trans hc1
      have hvr : IsInts wr v L[k].g := hv.below hb
      have hok := Cen.ok_of L k (by omega)
      have HS := Lib.hid (cenOf_take L k hlt)
      have htot := cen_tot (L.take k)
      have hsum : posSum (L.take k) + max L[k].n 0 ≤ 4611686018427387904 := by
        have h1 := posSum_take_le L (k + 1)
        rw [List.take_succ_eq_append_getElem hlt, posSum_append] at h1
        have h2 : posSum [L[k]] = max L[k].n 0 := by simp [posSum]
        omega
      clear hc hc0 hc1 hv
      obtain ⟨x, hx⟩ : ∃ x, L[k] = x := ⟨_, rfl⟩
      rw [hx] at g1 hvr HS hsum hr0 hr1
      clear hx
      obtain ⟨A', cap', rfl, hla, hma, hA'⟩ := hvr
      unfold maxLen at hma
      by_cases hx1 : x.n < 1
      · have HA := Lib.hid (Cen.add_out (s := cenOf (L.take k)) (out_small hx1))
        go_wp2
        go_roundw
        case rel => exact ⟨k + 1, by omega, by go_num, by rw [HS.out, HA.out]; exact hblk, hres, hb⟩
        case measure => simp [intOf]; omega
      · by_cases hg : x.g = [1]
        · have HA := Lib.hid (Cen.add_out (s := cenOf (L.take k)) (out_one hg))
          have hx1' : 1 ≤ x.n := by omega
          have HD := Lib.hid (decide_eq_true hg)
          clear hg hx1
          go_wp2_with fail
          refine (ints_one A' x.g cap' _ wr.heap.size (by omega) (hA'.below (cba (Below.refl _ _) _)) (by simp) (by simp)).mono ?_
          rintro e w1 ⟨rfl, hb1⟩
          rw [HD.out]
          go_wp2
          go_roundw
          case rel =>
            exact ⟨k + 1, by omega, by go_num, by rw [HS.out, HA.out]; exact (hblk.alloc _).below hb1 (by have := hblk.lt; simp; omega), (hres.alloc _).below hb1 (by have := hres.lt; simp; omega), (hb.alloc hb.size _).trans (hb1.mono (by have := hb.size; simp; omega))⟩
          case measure => simp [intOf]; omega
        · have hx1' : 1 ≤ x.n := by omega
          have hno := out_not hx1 hg
          have HD := Lib.hid (decide_eq_false hg)
          clear hg hx1
          have Ha := fun s : Cen => slot5 (s := s) hno
          have Hb := fun s : Cen => slot1 (s := s) hno
          have Hc := fun s : Cen => slot2 (s := s) hno
          have Hd := fun s : Cen => slot3 (s := s) hno
          have He := fun s : Cen => slot4 (s := s) hno
          have H5 := Lib.hid Ha
          have H1 := Lib.hid Hb
          have H2 := Lib.hid Hc
          have H3 := Lib.hid Hd
          have H4 := Lib.hid He
          clear Ha Hb Hc Hd He hno
          go_wp2_with fail
          refine (ints_one A' x.g cap' _ wr.heap.size (by omega) (hA'.below (cba (Below.refl _ _) _)) (by simp) (by simp)).mono ?_
          rintro e w1 ⟨rfl, hb1⟩
          rw [HD.out]
          have hblk1 : Blk w1 (w.heap.size + 1) 30 (cenOf (L.take k)).row := (hblk.alloc _).below hb1 (by have := hblk.lt; simp; omega)
          have hres1 : Blk w1 w.heap.size 30 Cen.zero.row := (hres.alloc _).below hb1 (by have := hres.lt; simp; omega)
          have hbw : Below w.heap.size w w1 := (hb.alloc hb.size _).trans (hb1.mono (by have := hb.size; simp; omega))
          unfold Cen.ok at hok
          obtain ⟨s1, s2, s3, s4, s5, s6, s7, s8, s9, s10⟩ := hok
          obtain ⟨s, hs⟩ : ∃ s, cenOf (L.take k) = s := ⟨_, rfl⟩
          rw [hs] at hblk1 htot HS s1 s2 s3 s4 s5 s6 s7 s8 s9 s10
          clear hs hblk hres g0 g1 hb1
          have q0 : w1.cell? ⟨w.heap.size + 1, 0, none⟩ = some (.int .i64 s.ty) := hblk1.cell 0
          have q1 : w1.cell? ⟨w.heap.size + 1, 1, none⟩ = some (.int .i64 s.tot) := hblk1.cell 1
          have q2 : w1.cell? ⟨w.heap.size + 1, 2, none⟩ = some (.int .i64 s.n1) := hblk1.cell 2
          have q3 : w1.cell? ⟨w.heap.size + 1, 3, none⟩ = some (.int .i64 s.n2) := hblk1.cell 3
          have q4 : w1.cell? ⟨w.heap.size + 1, 4, none⟩ = some (.int .i64 s.n3) := hblk1.cell 4
          have q5 : w1.cell? ⟨w.heap.size + 1, 5, none⟩ = some (.int .i64 s.n4) := hblk1.cell 5
          have f0 := hblk1.frozen 0
          have f1 := hblk1.frozen 1
          have f2 := hblk1.frozen 2
          have f3 := hblk1.frozen 3
          have f4 := hblk1.frozen 4
          have f5 := hblk1.frozen 5
          by_cases h5 : 5 ≤ x.n
          · have HA := Lib.hid (H5.out s h5)
            obtain ⟨N, hN⟩ : ∃ N, x.n = N := ⟨_, rfl⟩
            rw [hN] at h5 hx1' hsum HA ⊢
            clear hN
            go_wp2
            go_roundw
            case rel =>
              have hq := hblk1.rowed (s.ty + 1) (s.tot + N)
              exact ⟨k + 1, by omega, by go_num, by rw [HS.out, HA.out]; exact hq, (hres1.far (p := ⟨w.heap.size + 1, 0, none⟩) (by simp) _).far (p := ⟨w.heap.size + 1, 1, none⟩) (by simp) _, (hbw.setCell (p := ⟨w.heap.size + 1, 0, none⟩) (by simp) _).setCell (p := ⟨w.heap.size + 1, 1, none⟩) (by simp) _⟩
            case measure => simp [intOf]; omega
          · obtain h | h | h | h : x.n = 1 ∨ x.n = 2 ∨ x.n = 3 ∨ x.n = 4 := by omega
            · have HA := Lib.hid (H1.out s h)
              rw [h] at hsum ⊢
              clear h h5 hx1' hr0 hr1
              go_wp2
              go_roundw
              case rel =>
                have hq := (hblk1.rowed (s.ty + 1) (s.tot + 1)).set_ 2 (.int .i64 (s.n1 + 1))
                rw [rows_2] at hq
                exact ⟨k + 1, by omega, by go_num, by rw [HS.out, HA.out]; exact hq, ((hres1.far (p := ⟨w.heap.size + 1, 0, none⟩) (by simp) _).far (p := ⟨w.heap.size + 1, 1, none⟩) (by simp) _).far (p := ⟨w.heap.size + 1, 2, none⟩) (by simp) _, ((hbw.setCell (p := ⟨w.heap.size + 1, 0, none⟩) (by simp) _).setCell (p := ⟨w.heap.size + 1, 1, none⟩) (by simp) _).setCell (p := ⟨w.heap.size + 1, 2, none⟩) (by simp) _⟩
              case measure => simp [intOf]; omega
            · have HA := Lib.hid (H2.out s h)
              rw [h] at hsum ⊢
              clear h h5 hx1' hr0 hr1
              go_wp2
              go_roundw
              case rel =>
                have hq := (hblk1.rowed (s.ty + 1) (s.tot + 2)).set_ 3 (.int .i64 (s.n2 + 1))
                rw [rows_3] at hq
                exact ⟨k + 1, by omega, by go_num, by rw [HS.out, HA.out]; exact hq, ((hres1.far (p := ⟨w.heap.size + 1, 0, none⟩) (by simp) _).far (p := ⟨w.heap.size + 1, 1, none⟩) (by simp) _).far (p := ⟨w.heap.size + 1, 3, none⟩) (by simp) _, ((hbw.setCell (p := ⟨w.heap.size + 1, 0, none⟩) (by simp) _).setCell (p := ⟨w.heap.size + 1, 1, none⟩) (by simp) _).setCell (p := ⟨w.heap.size + 1, 3, none⟩) (by simp) _⟩
              case measure => simp [intOf]; omega
            · have HA := Lib.hid (H3.out s h)
              rw [h] at hsum ⊢
              clear h h5 hx1' hr0 hr1
              go_wp2
              go_roundw
              case rel =>
                have hq := (hblk1.rowed (s.ty + 1) (s.tot + 3)).set_ 4 (.int .i64 (s.n3 + 1))
                rw [rows_4] at hq
                exact ⟨k + 1, by omega, by go_num, by rw [HS.out, HA.out]; exact hq, ((hres1.far (p := ⟨w.heap.size + 1, 0, none⟩) (by simp) _).far (p := ⟨w.heap.size + 1, 1, none⟩) (by simp) _).far (p := ⟨w.heap.size + 1, 4, none⟩) (by simp) _, ((hbw.setCell (p := ⟨w.heap.size + 1, 0, none⟩) (by simp) _).setCell (p := ⟨w.heap.size + 1, 1, none⟩) (by simp) _).setCell (p := ⟨w.heap.size + 1, 4, none⟩) (by simp) _⟩
              case measure => simp [intOf]; omega
            · have HA := Lib.hid (H4.out s h)
              rw [h] at hsum ⊢
              clear h h5 hx1' hr0 hr1
              go_wp2
              go_roundw
              case rel =>
                have hq := (hblk1.rowed (s.ty + 1) (s.tot + 4)).set_ 5 (.int .i64 (s.n4 + 1))
                rw [rows_5] at hq
                exact ⟨k + 1, by omega, by go_num, by rw [HS.out, HA.out]; exact hq, ((hres1.far (p := ⟨w.heap.size + 1, 0, none⟩) (by simp) _).far (p := ⟨w.heap.size + 1, 1, none⟩) (by simp) _).far (p := ⟨w.heap.size + 1, 5, none⟩) (by simp) _, ((hbw.setCell (p := ⟨w.heap.size + 1, 0, none⟩) (by simp) _).setCell (p := ⟨w.heap.size + 1, 1, none⟩) (by simp) _).setCell (p := ⟨w.heap.size + 1, 5, none⟩) (by simp) _⟩
              case measure => simp [intOf]; omega
    · have HT := Lib.hid (List.take_of_length_le (show L.length ≤ k by omega))
      have hblk2 : Blk wr (w.heap.size + 1) 30 (cenOf L).row := by rw [← HT.out]; exact hblk
      have q0 : wr.cell? ⟨w.heap.size + 1, 0, none⟩ = some (.int .i64 (cenOf L).ty) := hblk2.cell 0
      have q1 : wr.cell? ⟨w.heap.size + 1, 1, none⟩ = some (.int .i64 (cenOf L).tot) := hblk2.cell 1
      have q2 : wr.cell? ⟨w.heap.size + 1, 2, none⟩ = some (.int .i64 (cenOf L).n1) := hblk2.cell 2
      have q3 : wr.cell? ⟨w.heap.size + 1, 3, none⟩ = some (.int .i64 (cenOf L).n2) := hblk2.cell 3
      have q4 : wr.cell? ⟨w.heap.size + 1, 4, none⟩ = some (.int .i64 (cenOf L).n3) := hblk2.cell 4
      have q5 : wr.cell? ⟨w.heap.size + 1, 5, none⟩ = some (.int .i64 (cenOf L).n4) := hblk2.cell 5
      have r0 : wr.cell? ⟨w.heap.size, 0, none⟩ = some (.int .i64 0) := hres.cell 0
      have r1 : wr.cell? ⟨w.heap.size, 1, none⟩ = some (.int .i64 0) := hres.cell 1
      have r2 : wr.cell? ⟨w.heap.size, 2, none⟩ = some (.int .i64 0) := hres.cell 2
      have r3 : wr.cell? ⟨w.heap.size, 3, none⟩ = some (.int .i64 0) := hres.cell 3
      have r4 : wr.cell? ⟨w.heap.size, 4, none⟩ = some (.int .i64 0) := hres.cell 4
      have r5 : wr.cell? ⟨w.heap.size, 5, none⟩ = some (.int .i64 0) := hres.cell 5
      have f0 := hres.frozen 0
      have f1 := hres.frozen 1
      have f2 := hres.frozen 2
      have f3 := hres.frozen 3
      have f4 := hres.frozen 4
      have f5 := hres.frozen 5
      clear hc
      go_wp2
      exact bodyPost_ret (v := .agg (cenOf L).row) (by simp [results, Try.results15, go_sem, r0, r1, r2, r3, r4, r5, Cen.row]) rfl ⟨rfl, (((((hb.setCell (Nat.le_refl _) _).setCell (Nat.le_refl _) _).setCell (Nat.le_refl _) _).setCell (Nat.le_refl _) _).setCell (Nat.le_refl _) _).setCell (Nat.le_refl _) _⟩
end Go.Proofs.Ytokcnblonbcpeaa
