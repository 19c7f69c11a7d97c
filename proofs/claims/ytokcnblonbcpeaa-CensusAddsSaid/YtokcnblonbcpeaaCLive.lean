/- The walks of row and of the chapter's example; equality of censuses. -/
import Derived.Test.YtokcnblonbcpeaaSmall
namespace Go.Proofs.Ytokcnblonbcpeaa
open Go.RowKit

theorem part_int (cs : Array Value) (i : Nat) (v : Value) (h : cs[i]? = some v) (w : World) : (part 3 cs i).run Try.prog w = .ok v w := by
  have ha : ∀ w, (isAgg 3).run Try.prog w = .ok false w := fun w => by kernel_rfl
  unfold part
  simp only [Sem.run_bind, ha, Result.andThen_ok, Bool.false_eq_true, if_false, h, Sem.run_pure]
theorem eq_row (d : Nat) (s : Cen) (w : World) : (Op.equalIn (d + 1 + 1) 30 (.agg s.row) (.agg s.row)).run Try.prog w = .ok true w := by
  have hu := Try.underlying30
  have h3 := Try.underlying3
  have hs : ∀ w, (sizeOf 3).run Try.prog w = .ok 1 w := fun w => by kernel_rfl
  have p0 := part_int s.row (0 * 1) (.int .i64 s.ty) rfl
  have p1 := part_int s.row (1 * 1) (.int .i64 s.tot) rfl
  have p2 := part_int s.row (2 * 1) (.int .i64 s.n1) rfl
  have p3 := part_int s.row (3 * 1) (.int .i64 s.n2) rfl
  have p4 := part_int s.row (4 * 1) (.int .i64 s.n3) rfl
  have p5 := part_int s.row (5 * 1) (.int .i64 s.n4) rfl
  unfold Op.equalIn
  simp only [Sem.run_bind, run_underlying hu, Result.andThen_ok, hs, Std.Legacy.Range.forIn_eq_forIn_range', Std.Legacy.Range.size]
  rw [show List.range' 0 ((6 - 0 + 1 - 1) / 1) 1 = [0, 1, 2, 3, 4, 5] from rfl]
  simp only [List.forIn_cons, List.forIn_nil, Sem.run_bind, p0, p1, p2, p3, p4, p5, Result.andThen_ok, run_equalIn_int _ _ _ _ _ _ _ h3, beq_self_eq_true, Bool.not_true, Bool.false_eq_true, if_false, Sem.run_pure]
theorem eql_row (s : Cen) (w : World) : (binOp .eql 30 (.agg s.row) (.agg s.row)).run Try.prog w = .ok (.bool true) w := by
  rw [run_eql_struct]
  have h := eq_row 9998 s w
  rw [show 9998 + 1 + 1 = 10000 from rfl] at h
  rw [h]
  rfl

set_option maxHeartbeats 400000 in
theorem row_any (s : Cen) (w : World) :
    Calls Try.prog 14 #[.agg s.cells] w fun e w' => e = .returned (.agg s.row) ∧ Below w.heap.size w w' := by
  unfold Cen.cells
  go_enter Try.func14, Try.ntmps14
  go_wp2
  exact bodyPost_ret (v := .agg s.row) (by simp [results, Try.results14, go_sem, Cen.row]) rfl ⟨rfl, cba (cba (Below.refl _ _) _) _⟩
theorem eq_five (d : Nat) (a b c e f : Int) (w : World) : (Op.equalIn (d + 1 + 1) 26 (.agg #[.int .i64 a, .int .i64 b, .int .i64 c, .int .i64 e, .int .i64 f]) (.agg #[.int .i64 a, .int .i64 b, .int .i64 c, .int .i64 e, .int .i64 f])).run Try.prog w = .ok true w := by
  have hu := Try.underlying26
  have h3 := Try.underlying3
  have hs : ∀ w, (sizeOf 3).run Try.prog w = .ok 1 w := fun w => by kernel_rfl
  have p0 := part_int #[.int .i64 a, .int .i64 b, .int .i64 c, .int .i64 e, .int .i64 f] (0 * 1) (.int .i64 a) rfl
  have p1 := part_int #[.int .i64 a, .int .i64 b, .int .i64 c, .int .i64 e, .int .i64 f] (1 * 1) (.int .i64 b) rfl
  have p2 := part_int #[.int .i64 a, .int .i64 b, .int .i64 c, .int .i64 e, .int .i64 f] (2 * 1) (.int .i64 c) rfl
  have p3 := part_int #[.int .i64 a, .int .i64 b, .int .i64 c, .int .i64 e, .int .i64 f] (3 * 1) (.int .i64 e) rfl
  have p4 := part_int #[.int .i64 a, .int .i64 b, .int .i64 c, .int .i64 e, .int .i64 f] (4 * 1) (.int .i64 f) rfl
  unfold Op.equalIn
  simp only [Sem.run_bind, run_underlying hu, Result.andThen_ok, hs, Std.Legacy.Range.forIn_eq_forIn_range', Std.Legacy.Range.size]
  rw [show List.range' 0 ((5 - 0 + 1 - 1) / 1) 1 = [0, 1, 2, 3, 4] from rfl]
  simp only [List.forIn_cons, List.forIn_nil, Sem.run_bind, p0, p1, p2, p3, p4, Result.andThen_ok, run_equalIn_int _ _ _ _ _ _ _ h3, beq_self_eq_true, Bool.not_true, Bool.false_eq_true, if_false, Sem.run_pure]
theorem part_five (s : Cen) (w : World) : (part 26 s.cells 2).run Try.prog w = .ok (.agg #[.int .i64 0, .int .i64 s.n1, .int .i64 s.n2, .int .i64 s.n3, .int .i64 s.n4]) w := by
  have ha : ∀ w, (isAgg 26).run Try.prog w = .ok true w := fun w => by kernel_rfl
  have hs : ∀ w, (sizeOf 26).run Try.prog w = .ok 5 w := fun w => by kernel_rfl
  unfold part
  simp only [Sem.run_bind, ha, hs, Result.andThen_ok, if_true, Sem.run_pure]
  simp [Cen.cells]
theorem eq_cells (d : Nat) (s : Cen) (w : World) : (Op.equalIn (d + 1 + 1 + 1) 28 (.agg s.cells) (.agg s.cells)).run Try.prog w = .ok true w := by
  have h3 := Try.underlying3
  have p0 := part_int s.cells 0 (.int .i64 s.ty) rfl
  have p1 := part_int s.cells 1 (.int .i64 s.tot) rfl
  rw [run_equalIn_struct w (d + 1 + 1) 28 _ _ (by kernel_rfl) (by kernel_rfl)]
  rw [show Try.prog.fieldsOf 28 = #[{ name := "Types", type := 3, offset := 0, embedded := false, tag := "", pkgPath := "", byteOffset := 0 }, { name := "Total", type := 3, offset := 1, embedded := false, tag := "", pkgPath := "", byteOffset := 8 }, { name := "N", type := 26, offset := 2, embedded := false, tag := "", pkgPath := "", byteOffset := 16 }] by kernel_rfl]
  simp [Op.eqFields, p0, p1, part_five, eq_five, run_equalIn_int _ _ _ _ _ _ _ h3]
theorem eql_cells (s : Cen) (w : World) : (binOp .eql 28 (.agg s.cells) (.agg s.cells)).run Try.prog w = .ok (.bool true) w := by
  rw [run_eql_struct]
  have h := eq_cells 9997 s w
  rw [show 9997 + 1 + 1 + 1 = 10000 from rfl] at h
  rw [h]
  rfl

/-- the chapter's example. -/
def exL : List Cnt := [⟨[3], 2⟩, ⟨[4], 1⟩, ⟨[5], 7⟩, ⟨[1], 9⟩]
theorem ex_cen : cenOf exL = ⟨3, 10, 1, 1, 0, 0⟩ := by simp [cenOf, exL, Cen.add, outB, Cen.zero]
def exW (w : World) : World := ((((w.alloc (Obj.cells #[Value.int IntKind.i64 3] 3)).alloc (Obj.cells #[Value.int IntKind.i64 4] 3)).alloc
            (Obj.cells #[Value.int IntKind.i64 5] 3)).alloc (Obj.cells #[Value.int IntKind.i64 1] 3))
def exC (w : World) : Array Value := #[Value.slice (some { block := w.heap.size, off := 0 }) 1 1, Value.int IntKind.i64 2,
        Value.slice (some { block := w.heap.size + 1, off := 0 }) 1 1, Value.int IntKind.i64 1,
        Value.slice (some { block := w.heap.size + 1 + 1, off := 0 }) 1 1, Value.int IntKind.i64 7, Value.slice (some { block := w.heap.size + 1 + 1 + 1, off := 0 }) 1 1, Value.int IntKind.i64 9]
theorem one_at (w : World) (g : Nat) (y : Int) (h : g < w.heap.size) (hc : w.cell? ⟨g, 0, none⟩ = some (.int .i64 y)) : IsInts w (Value.slice (some { block := g, off := 0 }) 1 1) [y] :=
  ⟨some ⟨g, 0, none⟩, 1, rfl, by simp, by decide, fun i hi => ⟨g, 0, rfl, h, by
    have : i = 0 := by simpa using hi
    subst this
    exact hc⟩⟩
theorem ex_at (w : World) : CntsAt ((exW w).alloc (.cells (exC w) 52)) (some ⟨w.heap.size + 1 + 1 + 1 + 1, 0, none⟩) exL := by
  have hz : (exW w).heap.size = w.heap.size + 1 + 1 + 1 + 1 := by simp [exW]
  have hb := Blk.new (exW w) 52 (exC w)
  rw [hz] at hb
  intro i hi
  have hi' : i < 4 := hi
  have hlt : w.heap.size + 1 + 1 + 1 + 1 < ((exW w).alloc (.cells (exC w) 52)).heap.size := by simp [exW]
  have b0 : Blk ((exW w).alloc (.cells (exC w) 52)) w.heap.size 3 #[.int .i64 3] := ((((Blk.new w 3 #[.int .i64 3]).alloc _).alloc _).alloc _).alloc _
  have b1 : Blk ((exW w).alloc (.cells (exC w) 52)) (w.heap.size + 1) 3 #[.int .i64 4] := by
    have h := (((Blk.new (w.alloc (Obj.cells #[Value.int IntKind.i64 3] 3)) 3 #[.int .i64 4]).alloc (Obj.cells #[Value.int IntKind.i64 5] 3)).alloc (Obj.cells #[Value.int IntKind.i64 1] 3)).alloc (.cells (exC w) 52)
    rw [World.size_alloc] at h
    exact h
  have b2 : Blk ((exW w).alloc (.cells (exC w) 52)) (w.heap.size + 1 + 1) 3 #[.int .i64 5] := by
    have h := ((Blk.new ((w.alloc (Obj.cells #[Value.int IntKind.i64 3] 3)).alloc (Obj.cells #[Value.int IntKind.i64 4] 3)) 3 #[.int .i64 5]).alloc (Obj.cells #[Value.int IntKind.i64 1] 3)).alloc (.cells (exC w) 52)
    rw [World.size_alloc, World.size_alloc] at h
    exact h
  have b3 : Blk ((exW w).alloc (.cells (exC w) 52)) (w.heap.size + 1 + 1 + 1) 3 #[.int .i64 1] := by
    have h := (Blk.new (((w.alloc (Obj.cells #[Value.int IntKind.i64 3] 3)).alloc (Obj.cells #[Value.int IntKind.i64 4] 3)).alloc (Obj.cells #[Value.int IntKind.i64 5] 3)) 3 #[.int .i64 1]).alloc (.cells (exC w) 52)
    rw [World.size_alloc, World.size_alloc, World.size_alloc] at h
    exact h
  match i, hi' with
  | 0, _ => exact ⟨_, 0, _, rfl, hlt, (hb.cell 0).trans rfl, (hb.cell 1).trans rfl, one_at _ _ 3 b0.lt (b0.cell 0), (by decide : (-9223372036854775808 : Int) ≤ 2), (by decide : (2 : Int) ≤ 9223372036854775807)⟩
  | 1, _ => exact ⟨_, 0, _, rfl, hlt, (hb.cell 2).trans rfl, (hb.cell 3).trans rfl, one_at _ _ 4 b1.lt (b1.cell 0), (by decide : (-9223372036854775808 : Int) ≤ 1), (by decide : (1 : Int) ≤ 9223372036854775807)⟩
  | 2, _ => exact ⟨_, 0, _, rfl, hlt, (hb.cell 4).trans rfl, (hb.cell 5).trans rfl, one_at _ _ 5 b2.lt (b2.cell 0), (by decide : (-9223372036854775808 : Int) ≤ 7), (by decide : (7 : Int) ≤ 9223372036854775807)⟩
  | 3, _ => exact ⟨_, 0, _, rfl, hlt, (hb.cell 6).trans rfl, (hb.cell 7).trans rfl, one_at _ _ 1 b3.lt (b3.cell 0), (by decide : (-9223372036854775808 : Int) ≤ 9), (by decide : (9 : Int) ≤ 9223372036854775807)⟩

set_option maxHeartbeats 400000 in
theorem clive_any (w : World) :
    Calls Try.prog 12 #[] w fun e w' => e = .returned (.bool true) ∧ Below w.heap.size w w' := by
  have he := fun W => eql_cells ⟨3, 10, 1, 1, 0, 0⟩ W
  unfold Cen.cells at he
  go_enter Try.func12, Try.ntmps12
  go_wp2_with fail
  refine (cof_any (some ⟨w.heap.size + 1 + 1 + 1 + 1, 0, none⟩) exL 4 _ (by decide) (ex_at w) (by decide)).mono ?_
  rintro e w1 ⟨rfl, hb1⟩
  rw [ex_cen]
  unfold Cen.cells
  go_wp2
  go_ret
  refine ⟨rfl, ?_⟩
  have h0 : Below w.heap.size w ((exW w).alloc (.cells (exC w) 52)) := cba (cba (cba (cba (cba (Below.refl _ _) _) _) _) _) _
  exact cba (cbt h0 hb1) _
end Go.Proofs.Ytokcnblonbcpeaa
