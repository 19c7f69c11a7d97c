/- The walk of (*Census).add where the total may pass the greatest number: it wraps. -/
import Derived.Test.YtokcnblonbcpeaaAdd
namespace Go.Proofs.Ytokcnblonbcpeaa
open Go.RowKit

def Cen.addW (s : Cen) (x : Cnt) : Cen :=
  if outB x = true then s else
    ⟨s.ty + 1, wrap64 (s.tot + x.n), if x.n = 1 then s.n1 + 1 else s.n1, if x.n = 2 then s.n2 + 1 else s.n2, if x.n = 3 then s.n3 + 1 else s.n3, if x.n = 4 then s.n4 + 1 else s.n4⟩
theorem Cen.addw_out {s : Cen} {x : Cnt} (h : outB x = true) : s.addW x = s := by unfold Cen.addW; rw [if_pos h]
theorem Cen.addw_in {s : Cen} {x : Cnt} (h : ¬ outB x = true) : s.addW x = ⟨s.ty + 1, wrap64 (s.tot + x.n), if x.n = 1 then s.n1 + 1 else s.n1, if x.n = 2 then s.n2 + 1 else s.n2, if x.n = 3 then s.n3 + 1 else s.n3, if x.n = 4 then s.n4 + 1 else s.n4⟩ := by unfold Cen.addW; rw [if_neg h]
def cenW (L : List Cnt) : Cen := L.foldl Cen.addW Cen.zero
theorem cenW_snoc (L : List Cnt) (x : Cnt) : cenW (L ++ [x]) = (cenW L).addW x := by simp [cenW]
theorem Cen.ok_addW {s : Cen} {k : Nat} (h : s.ok k) (x : Cnt) : (s.addW x).ok (k + 1) := by
  unfold Cen.addW
  unfold Cen.ok at h ⊢
  split
  · omega
  · dsimp only
    split <;> split <;> split <;> split <;> omega
theorem Cen.ok_cenW (L : List Cnt) : (cenW L).ok L.length := by
  rcases List.eq_nil_or_concat L with rfl | ⟨M, x, rfl⟩
  · simp [cenW, Cen.ok, Cen.zero]
  · rw [List.concat_eq_append, cenW_snoc, List.length_append]
    exact Cen.ok_addW (Cen.ok_cenW M) x
termination_by L.length
theorem cenW_eq (L : List Cnt) (h : posSum L ≤ 4611686018427387904) : cenW L = cenOf L := by
  rcases List.eq_nil_or_concat L with rfl | ⟨M, x, rfl⟩
  · rfl
  · rw [List.concat_eq_append] at h ⊢
    rw [posSum_append] at h
    have hp : posSum [x] = max x.n 0 := by simp [posSum]
    have h0 := posSum_nonneg M
    rw [cenW_snoc, cenOf_snoc, cenW_eq M (by omega)]
    have ht := cen_tot M
    by_cases ho : outB x = true
    · rw [Cen.addw_out ho, Cen.add_out ho]
    · have hx : 1 ≤ x.n := by
        unfold outB at ho
        simp at ho
        omega
      rw [Cen.addw_in ho, Cen.add_in ho]
      have : wrap64 ((cenOf M).tot + x.n) = (cenOf M).tot + x.n := by unfold wrap64; omega
      rw [this]
termination_by L.length

set_option maxHeartbeats 1000000 in
theorem addw_small (g : Nat) (s : Cen) (x : Cnt) (v : Value) (w : World) (hblk : Blk w g 28 s.cells) (hx : x.n < 1) :
    Calls Try.prog 28 #[.pointer (some ⟨g, 0, none⟩), .agg #[v, .int .i64 x.n]] w fun e w' => e = .returned (.tuple #[]) ∧ Blk w' g 28 (s.addW x).cells ∧ w.grownBy w' (some g) := by
  have HA := Lib.hid (Cen.addw_out (s := s) (out_small hx))
  go_enter Try.func28, Try.ntmps28
  go_wp2
  refine bodyPost_ret (results_none rfl _ _ _) rfl ?_
  exact ⟨rfl, by rw [HA.out]; exact hblk.alloc _, only_alloc (World.grownBy.refl _ _) _⟩

set_option maxHeartbeats 1000000 in
theorem addw_one (g : Nat) (s : Cen) (x : Cnt) (A : Option Addr) (cap : Nat) (w : World) (hblk : Blk w g 28 s.cells) (hx : ¬ x.n < 1) (hg : x.g = [1]) (hA : IntsAt w A [1]) :
    Calls Try.prog 28 #[.pointer (some ⟨g, 0, none⟩), .agg #[.slice A 1 cap, .int .i64 x.n]] w fun e w' => e = .returned (.tuple #[]) ∧ Blk w' g 28 (s.addW x).cells ∧ w.grownBy w' (some g) := by
  have HA := Lib.hid (Cen.addw_out (s := s) (out_one hg))
  obtain ⟨b, o, rfl, hlt, hc⟩ := hA 0 (by simp)
  have hc' : w.cell? ⟨b, o, none⟩ = some (.int .i64 1) := hc
  clear hA hc hg
  have hx' : 1 ≤ x.n := by omega
  clear hx
  go_enter Try.func28, Try.ntmps28
  go_wp2
  refine bodyPost_ret (results_none rfl _ _ _) rfl ?_
  exact ⟨rfl, by rw [HA.out]; exact hblk.alloc _, only_alloc (World.grownBy.refl _ _) _⟩

set_option maxHeartbeats 2000000 in
theorem addw_in (g : Nat) (s : Cen) (x : Cnt) (A : Option Addr) (n cap : Nat) (w : World) (k : Nat) (hk : k ≤ 1099511627776) (hs : s.ok k) (hblk : Blk w g 28 s.cells) (hx : ¬ x.n < 1) (hg : ¬ x.g = [1])
    (hn : n = x.g.length) (hA : IntsAt w A x.g) (hz : n ≤ maxLen) :
    Calls Try.prog 28 #[.pointer (some ⟨g, 0, none⟩), .agg #[.slice A n cap, .int .i64 x.n]] w fun e w' => e = .returned (.tuple #[]) ∧ Blk w' g 28 (s.addW x).cells ∧ w.grownBy w' (some g) := by
  have HA := Lib.hid (Cen.addw_in (s := s) (out_not hx hg))
  unfold maxLen at hz
  obtain ⟨N, hN⟩ : ∃ N, x.n = N := ⟨_, rfl⟩
  rw [hN] at hx HA ⊢
  clear hN
  have hx' : 1 ≤ N := by omega
  clear hx
  unfold Cen.ok at hs
  obtain ⟨s1, s2, s3, s4, s5, s6, s7, s8, s9, s10⟩ := hs
  have c0 := hblk.cell 0
  have c1 := hblk.cell 1
  have c3 := hblk.cell 3
  have c4 := hblk.cell 4
  have c5 := hblk.cell 5
  have c6 := hblk.cell 6
  have f0 := hblk.frozen 0
  have f1 := hblk.frozen 1
  have f3 := hblk.frozen 3
  have f4 := hblk.frozen 4
  have f5 := hblk.frozen 5
  have f6 := hblk.frozen 6
  have e0 : s.cells[0]? = some (.int .i64 s.ty) := rfl
  have e1 : s.cells[1]? = some (.int .i64 s.tot) := rfl
  have e3 : s.cells[3]? = some (.int .i64 s.n1) := rfl
  have e4 : s.cells[4]? = some (.int .i64 s.n2) := rfl
  have e5 : s.cells[5]? = some (.int .i64 s.n3) := rfl
  have e6 : s.cells[6]? = some (.int .i64 s.n4) := rfl
  rw [e0] at c0
  rw [e1] at c1
  rw [e3] at c3
  rw [e4] at c4
  rw [e5] at c5
  rw [e6] at c6
  clear e0 e1 e3 e4 e5 e6
  have hglt := hblk.lt
  by_cases h1 : n = 1
  · subst h1
    obtain ⟨b, o, rfl, hlt, hc⟩ := hA 0 (by omega)
    have hc' : w.cell? ⟨b, o, none⟩ = some (.int .i64 (x.g[0]'(by omega))) := hc
    have hne : ((x.g[0]'(by omega)) == 1) = false := by
      rw [beq_eq_false_iff_ne]
      intro e
      apply hg
      apply List.ext_getElem
      · exact hn.symm
      · intro i h1 h2
        have : i = 0 := by simp at h2; omega
        subst this
        exact e
    obtain ⟨y, hy⟩ : ∃ y, x.g[0]'(by omega) = y := ⟨_, rfl⟩
    rw [hy] at hc' hne
    clear hA hc hg hy hn
    by_cases h5 : 5 ≤ N
    · go_enter Try.func28, Try.ntmps28
      go_wp2
      go_region
      go_wp2
      go_end0
      refine ⟨rfl, ?_, ?_⟩
      · have hq := ((hblk.counted (s.ty + 1) (wrap64 (s.tot + N))).alloc (Obj.cells #[Value.slice (some ⟨b, o, none⟩) 1 cap, Value.int IntKind.i64 N] 52)).drew
        rw [HA.out, if_neg (by omega), if_neg (by omega), if_neg (by omega), if_neg (by omega)]
        exact hq
      · refine only_drew ?_
        refine only_alloc ?_ _
        refine only_setCell ?_ (.inl rfl) _
        refine only_setCell ?_ (.inl rfl) _
        exact World.grownBy.refl _ _
    · obtain rfl | rfl | rfl | rfl : N = 1 ∨ N = 2 ∨ N = 3 ∨ N = 4 := by omega
      · go_enter Try.func28, Try.ntmps28
        go_wp2
        go_region
        go_wp2
        go_region
        go_wp2
        go_end0
        refine ⟨rfl, ?_, ?_⟩
        · have hq := (((hblk.counted (s.ty + 1) (wrap64 (s.tot + 1))).set_ 3 (.int .i64 (s.n1 + 1))).alloc (Obj.cells #[Value.slice (some ⟨b, o, none⟩) 1 cap, Value.int IntKind.i64 1] 52)).drew.drew
          rw [cells_3] at hq
          rw [HA.out]
          exact hq
        · refine only_drew ?_
          refine only_drew ?_
          refine only_alloc ?_ _
          refine only_setCell ?_ (.inl rfl) _
          refine only_setCell ?_ (.inl rfl) _
          refine only_setCell ?_ (.inl rfl) _
          exact World.grownBy.refl _ _
      · go_enter Try.func28, Try.ntmps28
        go_wp2
        go_region
        go_wp2
        go_region
        go_wp2
        go_end0
        refine ⟨rfl, ?_, ?_⟩
        · have hq := (((hblk.counted (s.ty + 1) (wrap64 (s.tot + 2))).set_ 4 (.int .i64 (s.n2 + 1))).alloc (Obj.cells #[Value.slice (some ⟨b, o, none⟩) 1 cap, Value.int IntKind.i64 2] 52)).drew.drew
          rw [cells_4] at hq
          rw [HA.out]
          exact hq
        · refine only_drew ?_
          refine only_drew ?_
          refine only_alloc ?_ _
          refine only_setCell ?_ (.inl rfl) _
          refine only_setCell ?_ (.inl rfl) _
          refine only_setCell ?_ (.inl rfl) _
          exact World.grownBy.refl _ _
      · go_enter Try.func28, Try.ntmps28
        go_wp2
        go_region
        go_wp2
        go_region
        go_wp2
        go_end0
        refine ⟨rfl, ?_, ?_⟩
        · have hq := (((hblk.counted (s.ty + 1) (wrap64 (s.tot + 3))).set_ 5 (.int .i64 (s.n3 + 1))).alloc (Obj.cells #[Value.slice (some ⟨b, o, none⟩) 1 cap, Value.int IntKind.i64 3] 52)).drew.drew
          rw [cells_5] at hq
          rw [HA.out]
          exact hq
        · refine only_drew ?_
          refine only_drew ?_
          refine only_alloc ?_ _
          refine only_setCell ?_ (.inl rfl) _
          refine only_setCell ?_ (.inl rfl) _
          refine only_setCell ?_ (.inl rfl) _
          exact World.grownBy.refl _ _
      · go_enter Try.func28, Try.ntmps28
        go_wp2
        go_region
        go_wp2
        go_region
        go_wp2
        go_end0
        refine ⟨rfl, ?_, ?_⟩
        · have hq := (((hblk.counted (s.ty + 1) (wrap64 (s.tot + 4))).set_ 6 (.int .i64 (s.n4 + 1))).alloc (Obj.cells #[Value.slice (some ⟨b, o, none⟩) 1 cap, Value.int IntKind.i64 4] 52)).drew.drew
          rw [cells_6] at hq
          rw [HA.out]
          exact hq
        · refine only_drew ?_
          refine only_drew ?_
          refine only_alloc ?_ _
          refine only_setCell ?_ (.inl rfl) _
          refine only_setCell ?_ (.inl rfl) _
          refine only_setCell ?_ (.inl rfl) _
          exact World.grownBy.refl _ _
  · have hne : ((n : Int) == 1) = false := by rw [beq_eq_false_iff_ne]; omega
    clear hn hA hg
    by_cases h5 : 5 ≤ N
    · go_enter Try.func28, Try.ntmps28
      go_wp2
      go_region
      go_wp2
      go_end0
      refine ⟨rfl, ?_, ?_⟩
      · have hq := ((hblk.counted (s.ty + 1) (wrap64 (s.tot + N))).alloc (Obj.cells #[Value.slice A n cap, Value.int IntKind.i64 N] 52)).drew
        rw [HA.out, if_neg (by omega), if_neg (by omega), if_neg (by omega), if_neg (by omega)]
        exact hq
      · refine only_drew ?_
        refine only_alloc ?_ _
        refine only_setCell ?_ (.inl rfl) _
        refine only_setCell ?_ (.inl rfl) _
        exact World.grownBy.refl _ _
    · obtain rfl | rfl | rfl | rfl : N = 1 ∨ N = 2 ∨ N = 3 ∨ N = 4 := by omega
      · go_enter Try.func28, Try.ntmps28
        go_wp2
        go_region
        go_wp2
        go_region
        go_wp2
        go_end0
        refine ⟨rfl, ?_, ?_⟩
        · have hq := (((hblk.counted (s.ty + 1) (wrap64 (s.tot + 1))).set_ 3 (.int .i64 (s.n1 + 1))).alloc (Obj.cells #[Value.slice A n cap, Value.int IntKind.i64 1] 52)).drew.drew
          rw [cells_3] at hq
          rw [HA.out]
          exact hq
        · refine only_drew ?_
          refine only_drew ?_
          refine only_alloc ?_ _
          refine only_setCell ?_ (.inl rfl) _
          refine only_setCell ?_ (.inl rfl) _
          refine only_setCell ?_ (.inl rfl) _
          exact World.grownBy.refl _ _
      · go_enter Try.func28, Try.ntmps28
        go_wp2
        go_region
        go_wp2
        go_region
        go_wp2
        go_end0
        refine ⟨rfl, ?_, ?_⟩
        · have hq := (((hblk.counted (s.ty + 1) (wrap64 (s.tot + 2))).set_ 4 (.int .i64 (s.n2 + 1))).alloc (Obj.cells #[Value.slice A n cap, Value.int IntKind.i64 2] 52)).drew.drew
          rw [cells_4] at hq
          rw [HA.out]
          exact hq
        · refine only_drew ?_
          refine only_drew ?_
          refine only_alloc ?_ _
          refine only_setCell ?_ (.inl rfl) _
          refine only_setCell ?_ (.inl rfl) _
          refine only_setCell ?_ (.inl rfl) _
          exact World.grownBy.refl _ _
      · go_enter Try.func28, Try.ntmps28
        go_wp2
        go_region
        go_wp2
        go_region
        go_wp2
        go_end0
        refine ⟨rfl, ?_, ?_⟩
        · have hq := (((hblk.counted (s.ty + 1) (wrap64 (s.tot + 3))).set_ 5 (.int .i64 (s.n3 + 1))).alloc (Obj.cells #[Value.slice A n cap, Value.int IntKind.i64 3] 52)).drew.drew
          rw [cells_5] at hq
          rw [HA.out]
          exact hq
        · refine only_drew ?_
          refine only_drew ?_
          refine only_alloc ?_ _
          refine only_setCell ?_ (.inl rfl) _
          refine only_setCell ?_ (.inl rfl) _
          refine only_setCell ?_ (.inl rfl) _
          exact World.grownBy.refl _ _
      · go_enter Try.func28, Try.ntmps28
        go_wp2
        go_region
        go_wp2
        go_region
        go_wp2
        go_end0
        refine ⟨rfl, ?_, ?_⟩
        · have hq := (((hblk.counted (s.ty + 1) (wrap64 (s.tot + 4))).set_ 6 (.int .i64 (s.n4 + 1))).alloc (Obj.cells #[Value.slice A n cap, Value.int IntKind.i64 4] 52)).drew.drew
          rw [cells_6] at hq
          rw [HA.out]
          exact hq
        · refine only_drew ?_
          refine only_drew ?_
          refine only_alloc ?_ _
          refine only_setCell ?_ (.inl rfl) _
          refine only_setCell ?_ (.inl rfl) _
          refine only_setCell ?_ (.inl rfl) _
          exact World.grownBy.refl _ _
theorem addw_any (g : Nat) (s : Cen) (x : Cnt) (v : Value) (w : World) (k : Nat) (hk : k ≤ 1099511627776) (hs : s.ok k) (hblk : Blk w g 28 s.cells) (hv : IsInts w v x.g) :
    Calls Try.prog 28 #[.pointer (some ⟨g, 0, none⟩), .agg #[v, .int .i64 x.n]] w fun e w' => e = .returned (.tuple #[]) ∧ Blk w' g 28 (s.addW x).cells ∧ w.grownBy w' (some g) := by
  obtain ⟨A, cap, rfl, hl, hm, hA⟩ := hv
  by_cases hx : x.n < 1
  · exact addw_small g s x _ w hblk hx
  · by_cases hg : x.g = [1]
    · rw [hg] at hA
      have h1 : x.g.length = 1 := by rw [hg]; rfl
      rw [h1]
      exact addw_one g s x A cap w hblk hx hg hA
    · exact addw_in g s x A _ cap w k hk hs hblk hx hg rfl hA (by omega)
end Go.Proofs.Ytokcnblonbcpeaa
