/- Laid together by prune.py out of the texts that the row needs: the declarations that its theorem uses. -/
import Derived.Test.YteikhnmmkanndaaXDiscountGamma3
import Derived.Laws.Strings
import Derived.Laws.DeepStrings4
import Derived.ChangeSlices
import Derived.OpenShut
import Derived.ChangeOld
import Derived.Orders
import Derived.Still
import Derived.Tactics
import Derived.Tactics2
namespace Go.Proofs.Yteikhnmmkanndaa
open Go.RowKit
theorem zero_yes (v : Value) (w : World) (h : N64 w v 0) : Calls Try.prog 29 #[v] w fun e w' => e = .returned (.bool true) ∧ Below w.heap.size w w' :=
  (zero_any v 0 w h).mono (fun _ _ ⟨he, hb⟩ => ⟨by rw [he]; rfl, hb⟩)
set_option maxRecDepth 100000 in
set_option maxHeartbeats 2000000 in
theorem ndiv_no (va vb : Value) (x : Nat) (w : World) (ha : N64 w va x) (hb : N64 w vb 0) :
    Calls Try.prog 23 #[va, vb] w fun e w' => ∃ q r, e = .returned (.tuple #[q, r, .int .i64 1]) ∧ N64 w' q 0 ∧ N64 w' r 0 ∧ Below w.heap.size w w' := by
  have HB := Lib.hid (fun W h => zero_yes vb W h)
  have HN := Lib.hid hb
  obtain ⟨A, ca, rfl, hla, hma, _⟩ := ha
  obtain ⟨B, cb, rfl, hlb, hmb, _⟩ := hb
  obtain ⟨n, hn⟩ : ∃ n, wl 64 x = n := ⟨_, rfl⟩
  obtain ⟨m, hm⟩ : ∃ m, wl 64 0 = m := ⟨_, rfl⟩
  rw [hn]
  rw [hm] at HB HN ⊢
  clear hn hm hla hma hlb hmb
  have hb0 := cba (cba (cba (cba (Below.refl _ w) (.cells #[.slice A n ca] 26)) (.cells #[.slice B m cb] 26)) (.cells #[.slice none 0 0] 26)) (.cells #[.slice none 0 0] 26)
  have e2 := (Blk.new ((w.alloc (.cells #[.slice A n ca] 26)).alloc (.cells #[.slice B m cb] 26)) 26 #[.slice none 0 0]).alloc (.cells #[.slice none 0 0] 26)
  have e3 := Blk.new (((w.alloc (.cells #[.slice A n ca] 26)).alloc (.cells #[.slice B m cb] 26)).alloc (.cells #[.slice none 0 0] 26)) 26 #[.slice none 0 0]
  simp only [World.size_alloc] at e2 e3
  go_enter Try.func23, Try.ntmps23
  go_wp2_with fail
  refine (HB.out _ (HN.out.below hb0)).mono ?_
  rintro e S ⟨rfl, hb1⟩
  have s2 := blk_below e2 hb1
  have s3 := blk_below e3 hb1
  have hbS := cbt hb0 hb1
  have k2 : S.cell? ⟨w.heap.size + 1 + 1, 0, none⟩ = some (.slice none 0 0) := s2.cell 0
  have k3 : S.cell? ⟨w.heap.size + 1 + 1 + 1, 0, none⟩ = some (.slice none 0 0) := s3.cell 0
  have f2 := s2.frozen 0
  have f3 := s3.frozen 0
  have hl2 : w.heap.size ≤ w.heap.size + 1 + 1 := by omega
  have hl3 : w.heap.size ≤ w.heap.size + 1 + 1 + 1 := by omega
  go_wp2_with fail
  exact bodyPost_ret (v := .tuple #[.agg #[.slice none 0 0], .agg #[.slice none 0 0], .int .i64 1]) (by simp [results, Try.results23, go_sem, k2, k3]) rfl ⟨_, _, rfl, N64.zero _, N64.zero _, (hbS.setCell (p := ⟨w.heap.size + 1 + 1, 0, none⟩) hl2 _).setCell (p := ⟨w.heap.size + 1 + 1 + 1, 0, none⟩) hl3 _⟩
set_option maxRecDepth 100000 in
set_option maxHeartbeats 2000000 in
theorem ndiv_less (va vb : Value) (x y : Nat) (w : World) (ha : N64 w va x) (hb : N64 w vb y) (hlt : x < y) :
    Calls Try.prog 23 #[va, vb] w fun e w' => ∃ q r, e = .returned (.tuple #[q, r, .int .i64 0]) ∧ N64 w' q 0 ∧ N64 w' r x ∧ Below w.heap.size w w' := by
  have HB := Lib.hid (fun W h => zero_no vb y W h (by omega))
  have HC := Lib.hid (fun W h1 h2 => (ncmp_any va vb x y W h1 h2))
  have HCM := Lib.hid (cmpN_lt hlt)
  have HN := Lib.hid hb
  have HM := Lib.hid ha
  obtain ⟨A, ca, rfl, hla, hma, _⟩ := ha
  obtain ⟨B, cb, rfl, hlb, hmb, _⟩ := hb
  obtain ⟨n, hn⟩ : ∃ n, wl 64 x = n := ⟨_, rfl⟩
  obtain ⟨m, hm⟩ : ∃ m, wl 64 y = m := ⟨_, rfl⟩
  rw [hn] at HC HM ⊢
  rw [hm] at HB HN HC ⊢
  clear hn hm hla hma hlb hmb hlt
  have hb0 := cba (cba (cba (cba (Below.refl _ w) (.cells #[.slice A n ca] 26)) (.cells #[.slice B m cb] 26)) (.cells #[.slice none 0 0] 26)) (.cells #[.slice none 0 0] 26)
  have e0 := (((Blk.new w 26 #[.slice A n ca]).alloc (.cells #[.slice B m cb] 26)).alloc (.cells #[.slice none 0 0] 26)).alloc (.cells #[.slice none 0 0] 26)
  have e1 := ((Blk.new (w.alloc (.cells #[.slice A n ca] 26)) 26 #[.slice B m cb]).alloc (.cells #[.slice none 0 0] 26)).alloc (.cells #[.slice none 0 0] 26)
  have e2 := (Blk.new ((w.alloc (.cells #[.slice A n ca] 26)).alloc (.cells #[.slice B m cb] 26)) 26 #[.slice none 0 0]).alloc (.cells #[.slice none 0 0] 26)
  have e3 := Blk.new (((w.alloc (.cells #[.slice A n ca] 26)).alloc (.cells #[.slice B m cb] 26)).alloc (.cells #[.slice none 0 0] 26)) 26 #[.slice none 0 0]
  simp only [World.size_alloc] at e1 e2 e3
  go_enter Try.func23, Try.ntmps23
  go_wp2_with fail
  obtain ⟨X, hX⟩ : ∃ X, (((w.alloc (.cells #[.slice A n ca] 26)).alloc (.cells #[.slice B m cb] 26)).alloc (.cells #[.slice none 0 0] 26)).alloc (.cells #[.slice none 0 0] 26) = X := ⟨_, rfl⟩
  rw [hX] at e0 e1 e2 e3 hb0 ⊢
  clear hX
  refine (HB.out _ (HN.out.below hb0)).mono ?_
  rintro e X1 ⟨rfl, hb1⟩
  have s0 := blk_below e0 hb1
  have s1 := blk_below e1 hb1
  have k0 : X1.cell? ⟨w.heap.size, 0, none⟩ = some (.slice A n ca) := s0.cell 0
  have k1 : X1.cell? ⟨w.heap.size + 1, 0, none⟩ = some (.slice B m cb) := s1.cell 0
  go_wp2_with fail
  refine (HC.out _ (HM.out.below (cbt hb0 hb1)) (HN.out.below (cbt hb0 hb1))).mono ?_
  rintro e S ⟨rfl, hb2⟩
  rw [HCM.out]
  have hbS := cbt (cbt hb0 hb1) hb2
  have t0 := blk_below s0 hb2
  have t2 := blk_below (blk_below e2 hb1) hb2
  have t3 := blk_below (blk_below e3 hb1) hb2
  have k2 : S.cell? ⟨w.heap.size + 1 + 1, 0, none⟩ = some (.slice none 0 0) := t2.cell 0
  have k3 : S.cell? ⟨w.heap.size + 1 + 1 + 1, 0, none⟩ = some (.slice none 0 0) := t3.cell 0
  have k4 : S.cell? ⟨w.heap.size, 0, none⟩ = some (.slice A n ca) := t0.cell 0
  have f2 := t2.frozen 0
  have f3 := t3.frozen 0
  have hl2 : w.heap.size ≤ w.heap.size + 1 + 1 := by omega
  have hl3 : w.heap.size ≤ w.heap.size + 1 + 1 + 1 := by omega
  clear e0 e1 e2 e3 s0 s1 t0 t2 t3 k0 k1 hb1 hb2
  go_wp2_with fail
  go_region
  all_goals
    go_wp2_with fail
    refine bodyPost_ret (v := .tuple #[.agg #[.slice none 0 0], .agg #[.slice A n ca], .int .i64 0]) (by simp [results, Try.results23, go_sem, k2, k3]) rfl ⟨_, _, rfl, N64.zero _, HM.out.below ?_, ?_⟩
    all_goals (first | exact ((hbS.setCell (p := ⟨w.heap.size + 1 + 1, 0, none⟩) hl2 _).setCell (p := ⟨w.heap.size + 1 + 1 + 1, 0, none⟩) hl3 _).drew | exact ((hbS.setCell (p := ⟨w.heap.size + 1 + 1 + 1, 0, none⟩) hl3 _).setCell (p := ⟨w.heap.size + 1 + 1, 0, none⟩) hl2 _).drew)
end Go.Proofs.Yteikhnmmkanndaa
namespace Go.Proofs.Yteikhnmmkanndaa
open Go.RowKit
theorem cells3 {S W : World} {p1 p2 p3 : Addr} {v1 v2 v3 : Value} (hb : Below S.heap.size S W) (h1 : S.cell? p1 = some v1) (h2 : S.cell? p2 = some v2) (h3 : S.cell? p3 = some v3) : W.cell? p1 = some v1 ∧ W.cell? p2 = some v2 ∧ W.cell? p3 = some v3 :=
  ⟨(hb.cell (World.block_lt_of_cell? S _ h1)).trans h1, (hb.cell (World.block_lt_of_cell? S _ h2)).trans h2, (hb.cell (World.block_lt_of_cell? S _ h3)).trans h3⟩
theorem N64.put {w : World} {v : Value} {x : Nat} (h : N64 w v x) {r : Nat} {t : TypeId} {B : Option Addr} {m c : Nat} (hb : Blk w r t #[.slice B m c]) (u : Value) : N64 (w.setCell ⟨r, 0, none⟩ u) v x := by
  obtain ⟨A, ca, rfl, h1, h2, h3⟩ := h
  exact ⟨A, ca, rfl, h1, h2, h3.put hb u⟩
def SmallOut (S : World) (q r : Nat) (v7 v8 : Value) (W : World) : Prop :=
  ∃ g A n c, v7 = .pointer (some ⟨g, 0, none⟩) ∧ v8 = .int .u64 (r : Nat) ∧ S.heap.size ≤ g ∧ Blk W g 26 #[.slice A n c] ∧ N64 W (.agg #[.slice A n c]) q ∧ Below S.heap.size S W
set_option maxRecDepth 100000 in
set_option maxHeartbeats 4000000 in
theorem ndiv_word (va vb : Value) (x y : Nat) (w : World) (ha : N64 w va x) (hb : N64 w vb y) (hx : wl 64 x ≤ 1099511627) (hy0 : 0 < y) (hy : y < 2 ^ 64) (hge : y ≤ x) :
    Calls Try.prog 23 #[va, vb] w fun e w' => ∃ q r, e = .returned (.tuple #[q, r, .int .i64 0]) ∧ N64 w' q (x / y) ∧ N64 w' r (x % y) ∧ Below w.heap.size w w' := by
  have HB := Lib.hid (fun W h => zero_no vb y W h hy0)
  have HC := Lib.hid (fun W h1 h2 => (ncmp_any va vb x y W h1 h2))
  have hcm : (0 : Int) ≤ cmpN x y := by
    rcases Nat.lt_or_ge y x with h | h
    · rw [cmpN_gt h]; decide
    · rw [show x = y by omega, cmpN_self]; decide
  have HSM := Lib.hid (fun W h => nsmall_any va x y W h (by omega) hy0 hy)
  have hw1 : wl 64 y = 1 := wl_eq (by decide) (by simpa using hy) (.inr (by rw [Nat.sub_self, Nat.mul_zero, Nat.pow_zero]; exact hy0))
  have HOF := Lib.hid (fun W => of_any (x % y) (Nat.lt_of_lt_of_le (Nat.mod_lt x hy0) (Nat.le_of_lt hy)) W)
  have hd0 : dig 64 y 0 = y := by unfold dig; rw [Nat.mul_zero, Nat.pow_zero, Nat.div_one, Nat.mod_eq_of_lt hy]
  have HN := Lib.hid hb
  have HM := Lib.hid ha
  obtain ⟨A, ca, rfl, hla, hma, hda⟩ := ha
  obtain ⟨B, cb, rfl, hlb, hmb, hdb⟩ := hb
  rw [hw1] at hlb hdb HB HN HC ⊢
  obtain ⟨bB, oB, rfl, hltB, hcB⟩ := hdb 0 (by decide)
  rw [hd0] at hcB
  obtain ⟨n, hn⟩ : ∃ n, wl 64 x = n := ⟨_, rfl⟩
  rw [hn] at HC HM HSM ⊢
  obtain ⟨r, hr⟩ : ∃ r, x % y = r := ⟨_, rfl⟩
  rw [hr] at HSM HOF ⊢
  clear hr
  obtain ⟨cm, hcmv⟩ : ∃ cm, cmpN x y = cm := ⟨_, rfl⟩
  rw [hcmv] at HC hcm
  clear hn hla hma hda hdb hlb hmb hw1 hd0 hx hcmv
  have HY := Lib.hid hy
  have HG := Lib.hid hge
  have HY0 := Lib.hid hy0
  clear hy hge hy0
  have hb0 := cba (cba (cba (cba (Below.refl _ w) (.cells #[.slice A n ca] 26)) (.cells #[.slice (some ⟨bB, oB, none⟩) 1 cb] 26)) (.cells #[.slice none 0 0] 26)) (.cells #[.slice none 0 0] 26)
  have e0 := (((Blk.new w 26 #[.slice A n ca]).alloc (.cells #[.slice (some ⟨bB, oB, none⟩) 1 cb] 26)).alloc (.cells #[.slice none 0 0] 26)).alloc (.cells #[.slice none 0 0] 26)
  have e1 := ((Blk.new (w.alloc (.cells #[.slice A n ca] 26)) 26 #[.slice (some ⟨bB, oB, none⟩) 1 cb]).alloc (.cells #[.slice none 0 0] 26)).alloc (.cells #[.slice none 0 0] 26)
  have e2 := (Blk.new ((w.alloc (.cells #[.slice A n ca] 26)).alloc (.cells #[.slice (some ⟨bB, oB, none⟩) 1 cb] 26)) 26 #[.slice none 0 0]).alloc (.cells #[.slice none 0 0] 26)
  have e3 := Blk.new (((w.alloc (.cells #[.slice A n ca] 26)).alloc (.cells #[.slice (some ⟨bB, oB, none⟩) 1 cb] 26)).alloc (.cells #[.slice none 0 0] 26)) 26 #[.slice none 0 0]
  simp only [World.size_alloc] at e1 e2 e3
  go_enter Try.func23, Try.ntmps23
  go_wp2_with fail
  obtain ⟨X, hX⟩ : ∃ X, (((w.alloc (.cells #[.slice A n ca] 26)).alloc (.cells #[.slice (some ⟨bB, oB, none⟩) 1 cb] 26)).alloc (.cells #[.slice none 0 0] 26)).alloc (.cells #[.slice none 0 0] 26) = X := ⟨_, rfl⟩
  rw [hX] at e0 e1 e2 e3 hb0 ⊢
  clear hX
  refine (HB.out _ (HN.out.below hb0)).mono ?_
  rintro e X1 ⟨rfl, hb1⟩
  have s0 := blk_below e0 hb1
  have s1 := blk_below e1 hb1
  have k0 : X1.cell? ⟨w.heap.size, 0, none⟩ = some (.slice A n ca) := s0.cell 0
  have k1 : X1.cell? ⟨w.heap.size + 1, 0, none⟩ = some (.slice (some ⟨bB, oB, none⟩) 1 cb) := s1.cell 0
  go_wp2_with fail
  refine (HC.out _ (HM.out.below (cbt hb0 hb1)) (HN.out.below (cbt hb0 hb1))).mono ?_
  rintro e S ⟨rfl, hb2⟩
  have hbS := cbt (cbt hb0 hb1) hb2
  have T0 := Lib.hid (blk_below s0 hb2)
  have T1 := Lib.hid (blk_below s1 hb2)
  have T2 := Lib.hid (blk_below (blk_below e2 hb1) hb2)
  have T3 := Lib.hid (blk_below (blk_below e3 hb1) hb2)
  have k4 : S.cell? ⟨w.heap.size, 0, none⟩ = some (.slice A n ca) := T0.out.cell 0
  have k5 : S.cell? ⟨w.heap.size + 1, 0, none⟩ = some (.slice (some ⟨bB, oB, none⟩) 1 cb) := T1.out.cell 0
  have k6 : S.cell? ⟨bB, oB, none⟩ = some (.int .u64 (y : Nat)) := (hbS.cell (p := ⟨bB, oB, none⟩) hltB).trans hcB
  have HBS := Lib.hid hbS
  clear e0 e1 e2 e3 s0 s1 k0 k1 hb1 hb2 hb0 hcB
  go_upto_region 6 with (fail)
  go_cut [7, 8] (fun v7 v8 wx => SmallOut S (x / y) r v7 v8 wx)
  case first =>
    have K4 := Lib.hid k4
    have K5 := Lib.hid k5
    have K6 := Lib.hid k6
    go_region_held3 (fun w' => w'.cell? ⟨w.heap.size, 0, none⟩ = some (.slice A n ca) ∧ w'.cell? ⟨w.heap.size + 1, 0, none⟩ = some (.slice (some ⟨bB, oB, none⟩) 1 cb) ∧ w'.cell? ⟨bB, oB, none⟩ = some (.int .u64 (y : Nat)))
      ((refine cells3 (S := S) ?_ K4.out K5.out K6.out; repeat (with_reducible (first | exact Below.refl _ _ | exact hb6 | refine Below.setCell (p := ⟨S.heap.size, 0, none⟩) ?_ (Nat.le_refl _) _ | refine Below.setCell (p := ⟨w5.heap.size, 0, none⟩) ?_ hb6.size _ | refine cba ?_ _ | refine Below.drew ?_))))
      (first | (go_at_call 95; (with_reducible refine (HSM.out _ ?_).mono ?_); (refine HM.out.below (cbt HBS.out ?_); repeat (with_reducible (first | exact Below.refl _ _ | refine cba ?_ _ | refine Below.drew ?_))); rintro e w5 ⟨q, rfl, ⟨A5, c5, rfl, hl5, hm5, hd5⟩, hb5⟩; have hb6 := cbt (a := S) (by repeat (with_reducible (first | exact Below.refl _ _ | refine cba ?_ _ | refine Below.drew ?_))) hb5; have HD5 := Lib.hid hd5; clear hd5; (try (have z0 := blk_below (Blk.drew (Blk.new S 26 #[.slice none 0 0])) hb5; have z1 : w5.cell? ⟨S.heap.size, 0, none⟩ = some (.slice none 0 0) := z0.cell 0; have z2 := z0.frozen 0; have Z0 := Lib.hid z0; clear z0))))
    · have HF := Lib.hid (show SmallOut S (x / y) r (.pointer (some ⟨w5.heap.size, 0, none⟩)) (.int .u64 (r : Nat)) (w5.alloc (.cells #[.slice A5 (wl 64 (x / y)) c5] 26)) from
        ⟨w5.heap.size, A5, _, c5, rfl, rfl, hb6.size, Blk.new _ _ _, ⟨A5, c5, rfl, hl5, hm5, HD5.out.below (cba (Below.refl _ _) _)⟩, cba hb6 _⟩)
      go_wp2_with fail
      go_meet
      exact HF.out
    · have HF := Lib.hid (show SmallOut S (x / y) r (.pointer (some ⟨S.heap.size, 0, none⟩)) (.int .u64 (r : Nat)) (w5.setCell ⟨S.heap.size, 0, none⟩ (.slice A5 (wl 64 (x / y)) c5)) from
        ⟨S.heap.size, A5, _, c5, rfl, rfl, Nat.le_refl _, Z0.out.set_ 0 _, ⟨A5, c5, rfl, hl5, hm5, HD5.out.put Z0.out _⟩, hb6.setCell (p := ⟨S.heap.size, 0, none⟩) (Nat.le_refl _) _⟩)
      go_wp2_with fail
      go_meet
      exact HF.out
  case rest =>
    obtain ⟨g, A7, n7, c7, rfl, rfl, hgS, hblk, hq, hbc⟩ := hcut
    have G7 := Lib.hid hblk
    have HQ := Lib.hid hq
    have u2 := Lib.hid (blk_below T2.out hbc)
    have u3 := Lib.hid (blk_below T3.out hbc)
    have k7 : wc.cell? ⟨g, 0, none⟩ = some (.slice A7 n7 c7) := hblk.cell 0
    have hsz : w.heap.size + 4 ≤ S.heap.size := by
      have := T3.out.lt
      omega
    have HBC := Lib.hid (cbt HBS.out hbc)
    clear hblk hq hbc k4 k5 k6
    go_wp2_with fail
    go_region_held3 (fun w' => w'.cell? ⟨g, 0, none⟩ = some (.slice A7 n7 c7)) ((first | exact k7 | exact z7.cell 0 | exact ((Blk.far z7 (p := ⟨w.heap.size + 1 + 1, 0, none⟩) (by simp; omega) _)).cell 0 | exact ((Blk.far z7 (p := ⟨w.heap.size + 1 + 1 + 1, 0, none⟩) (by simp; omega) _)).cell 0 | exact (Blk.far (Blk.far z7 (p := ⟨w.heap.size + 1 + 1, 0, none⟩) (by simp; omega) _) (p := ⟨w.heap.size + 1 + 1 + 1, 0, none⟩) (by simp; omega) _).cell 0 | exact (Blk.far (Blk.far z7 (p := ⟨w.heap.size + 1 + 1 + 1, 0, none⟩) (by simp; omega) _) (p := ⟨w.heap.size + 1 + 1, 0, none⟩) (by simp; omega) _).cell 0))
      (first | (go_at_call 50; (with_reducible refine (HOF.out _).mono ?_); rintro e w6 ⟨rr, rfl, ⟨A8, c8, rfl, hl8, hm8, hd8⟩, hb8⟩; have z7 := blk_below G7.out.drew hb8; have Z2 := Lib.hid (blk_below u2.out.drew hb8); have Z3 := Lib.hid (blk_below u3.out.drew hb8); have kk2 : w6.cell? ⟨w.heap.size + 1 + 1, 0, none⟩ = some (.slice none 0 0) := Z2.out.cell 0; have kk3 : w6.cell? ⟨w.heap.size + 1 + 1 + 1, 0, none⟩ = some (.slice none 0 0) := Z3.out.cell 0; have ff2 := Z2.out.frozen 0; have ff3 := Z3.out.frozen 0; have HD8 := Lib.hid hd8; clear hd8))
    have z3 := Z3.out.far (p := ⟨w.heap.size + 1 + 1, 0, none⟩) (show w.heap.size + 1 + 1 + 1 ≠ w.heap.size + 1 + 1 by omega) (.slice A7 n7 c7)
    have HF := Lib.hid (show ∃ q rr, (Ending.returned (.tuple #[.agg #[.slice A7 n7 c7], .agg #[.slice A8 (wl 64 r) c8], .int .i64 0])) = .returned (.tuple #[q, rr, .int .i64 0]) ∧ N64 ((w6.setCell ⟨w.heap.size + 1 + 1, 0, none⟩ (.slice A7 n7 c7)).setCell ⟨w.heap.size + 1 + 1 + 1, 0, none⟩ (.slice A8 (wl 64 r) c8)) q (x / y) ∧ N64 ((w6.setCell ⟨w.heap.size + 1 + 1, 0, none⟩ (.slice A7 n7 c7)).setCell ⟨w.heap.size + 1 + 1 + 1, 0, none⟩ (.slice A8 (wl 64 r) c8)) rr r ∧ Below w.heap.size w ((w6.setCell ⟨w.heap.size + 1 + 1, 0, none⟩ (.slice A7 n7 c7)).setCell ⟨w.heap.size + 1 + 1 + 1, 0, none⟩ (.slice A8 (wl 64 r) c8)) from
      ⟨_, _, rfl, ((HQ.out.below (cbt (Below.refl _ _).drew hb8)).put Z2.out _).put z3 _, (N64.put (N64.put ⟨A8, c8, rfl, hl8, hm8, HD8.out⟩ Z2.out _) z3 _),
        ((cbt HBC.out.drew hb8).setCell (p := ⟨w.heap.size + 1 + 1, 0, none⟩) (show w.heap.size ≤ w.heap.size + 1 + 1 by omega) _).setCell (p := ⟨w.heap.size + 1 + 1 + 1, 0, none⟩) (show w.heap.size ≤ w.heap.size + 1 + 1 + 1 by omega) _⟩)
    clear z3 z7 k7
    go_wp2
    exact bodyPost_ret (v := .tuple #[.agg #[.slice A7 n7 c7], .agg #[.slice A8 (wl 64 r) c8], .int .i64 0]) (by simp [results, Try.results23, go_sem, kk2, kk3]) rfl HF.out
end Go.Proofs.Yteikhnmmkanndaa
namespace Go.Proofs.Yteikhnmmkanndaa
open Go.RowKit
theorem shifted_div {y n : Nat} (hn : wl 64 y = n + 1) : y * 2 ^ (64 - bl (dig 64 y n)) < 2 ^ (64 * (n + 1)) ∧ wl 64 (y * 2 ^ (64 - bl (dig 64 y n))) = n + 1 ∧ 64 - bl (dig 64 y n) ≤ 64 := by
  have h1 := bl_top (k := 64) (by decide) hn
  have h2 := (bl_le y (bl y)).1 (Nat.le_refl _)
  have h3 := (bl_le _ 64).2 (dig_lt 64 y n)
  have h4 : y * 2 ^ (64 - bl (dig 64 y n)) < 2 ^ (64 * (n + 1)) := by
    calc y * 2 ^ (64 - bl (dig 64 y n)) < 2 ^ bl y * 2 ^ (64 - bl (dig 64 y n)) := Nat.mul_lt_mul_of_pos_right h2 (Nat.two_pow_pos _)
      _ = 2 ^ (64 * (n + 1)) := by rw [← Nat.pow_add]; congr 1; omega
  refine ⟨h4, wl_eq (by decide) h4 (.inr ?_), by omega⟩
  rw [Nat.add_sub_cancel]
  refine Nat.le_trans ((lt_wl (k := 64) (by decide) y n).1 (by omega)) ?_
  exact Nat.le_mul_of_pos_right _ (Nat.two_pow_pos _)
theorem splice_row {w : World} {g N m X : Nat} {c : Array Value} (hN : c.size = N) (hc : ∀ i, i < N → c[i]? = some (.int .u64 0)) (hm : m ≤ N) (hX : X < 2 ^ (64 * m)) (h : Hid (w.heap[g]? = some (.cells (splice c.toList 0 ((List.range m).map fun i => Value.int .u64 (dig 64 X i : Nat))).toArray 62 (0, 0)))) :
    w.rowIs g 62 N (fun j => .int .u64 (dig 64 X j : Nat)) := by
  refine ⟨_, h.out, ?_, fun i hi => ?_⟩
  · rw [List.size_toArray, length_splice _ _ _ (by simp; omega), Array.length_toList, hN]
  · rw [List.getElem?_toArray]
    unfold splice
    rw [List.take_zero, List.nil_append]
    rcases Nat.lt_or_ge i m with h1 | h1
    · rw [List.getElem?_append_left (by simpa using h1), List.getElem?_map, List.getElem?_eq_getElem (by simpa using h1)]
      simp
    · rw [List.getElem?_append_right (by simpa using h1), List.getElem?_drop]
      simp only [List.length_map, List.length_range]
      rw [show 0 + m + (i - m) = i by omega, Array.getElem?_toList, hc i hi, dig_zero_of_lt (Nat.lt_of_lt_of_le hX (Nat.pow_le_pow_right (by decide) (by omega)))]
      rfl
theorem addr_add (b o j : Nat) : (⟨b, o, none⟩ : Addr).add j = ⟨b, o + j, none⟩ := by
  cases j with
  | zero => rfl
  | succ j => simp [Addr.add]
theorem fld26 (A : Option Addr) (n c : Nat) (W : World) : (Instr.field 26 (.agg #[.slice A n c]) 0).run Try.prog W = .ok (.slice A n c) W := by kernel_rfl
def UpOut (W : World) (k X : Nat) (e : Ending) (w' : World) : Prop := ∃ A c, e = .returned (.agg #[.slice A k c]) ∧ k ≤ c ∧ c ≤ maxLen ∧ Digs w' A .u64 64 X k ∧ Below W.heap.size W w'
theorem UpOut.of {W : World} {X k : Nat} (hk : wl 64 X = k) {e : Ending} {w' : World} (h : Mk64 W X e w') : UpOut W k X e w' := by
  subst hk
  obtain ⟨v, he, ⟨A, c, rfl, hl, hm, hd⟩, hb⟩ := h
  exact ⟨A, c, he, hl, hm, hd, hb⟩
structure DF (X Y L n kx : Nat) : Prop where
  x1 : X < 2 ^ (64 * (L + 1))
  x2 : kx ≤ L + 1
  x3 : X < 2 ^ (64 * kx)
  y1 : Y < 2 ^ (64 * (n + 2))
  y2 : wl 64 Y = n + 2
  y0 : 0 < Y
  q : X / Y < 2 ^ (64 * (L + 1 - (n + 2)))
theorem guess_any (b o nt c n Y P : Nat) (w : World) (hnt : nt = n + 3) (hn2 : nt ≤ 1099511627776) (hY : Y < 2 ^ (64 * (n + 2))) (hY0 : 0 < Y) (hP : P < Y * 2 ^ 64)
    (c2 : w.cell? ⟨b, o + (n + 2), none⟩ = some (.int .u64 (dig 64 P (n + 2) : Nat))) (c1 : w.cell? ⟨b, o + (n + 1), none⟩ = some (.int .u64 (dig 64 P (n + 1) : Nat))) (c0 : w.cell? ⟨b, o + n, none⟩ = some (.int .u64 (dig 64 P n : Nat))) :
    Calls Try.prog 97 #[.slice (some ⟨b, o, none⟩) nt c, .int .u64 (dig 64 Y (n + 1) : Nat), .int .u64 (dig 64 Y n : Nat)] w
      fun e w' => ∃ x : Nat, x < 2 ^ 64 ∧ P / Y ≤ x ∧ e = .returned (.int .u64 (x : Nat)) ∧ Drew w w' := by
  subst hnt
  have hP3 : P < 2 ^ (64 * (n + 3)) := by
    refine Nat.lt_of_lt_of_le hP ?_
    refine Nat.le_trans (Nat.mul_le_mul_right _ (Nat.le_of_lt hY)) ?_
    rw [← Nat.pow_add]
    exact Nat.pow_le_pow_right (by decide) (by omega)
  have hq : P / Y < 2 ^ 64 := (Nat.div_lt_iff_lt_mul hY0).2 (by rw [Nat.mul_comm]; exact hP)
  have hg := guess_of (n := n) (Nat.div_mul_le_self P Y)
  rw [top_two hY, top_three hP3] at hg
  have hfin : ∀ e w', GuessEnd w (dig 64 Y (n + 1)) (dig 64 Y n) (dig 64 P (n + 2)) (dig 64 P (n + 1)) (dig 64 P n) e w' → ∃ x : Nat, x < 2 ^ 64 ∧ P / Y ≤ x ∧ e = .returned (.int .u64 (x : Nat)) ∧ Drew w w' := by
    rintro e w' ⟨x, hx, ha, he, hd⟩
    exact ⟨x, hx, ha _ hq hg, he, hd⟩
  rcases Nat.lt_or_ge (dig 64 P (n + 2)) (dig 64 Y (n + 1)) with h | h
  · exact (guess_less b o (n + 3) c _ _ _ _ _ w (by omega) hn2 c2 c1 c0 h (dig_lt _ _ _) (dig_lt _ _ _) (dig_lt _ _ _) (dig_lt _ _ _)).mono hfin
  · exact (guess_full b o (n + 3) c _ _ _ _ _ w (by omega) hn2 c2 h).mono hfin
theorem win_win (f : Nat → Nat) (o V W k : Nat) : win (win f o V k) o W k = win f o W k := by
  funext j
  unfold win
  by_cases h : o ≤ j ∧ j < o + k
  · rw [if_pos h, if_pos h]
  · rw [if_neg h, if_neg h, if_neg h]
theorem win_congr {f : Nat → Nat} {o V W k : Nat} (h : ∀ i, i < k → dig 64 V i = dig 64 W i) : win f o V k = win f o W k := by
  funext j
  unfold win
  by_cases h1 : o ≤ j ∧ j < o + k
  · rw [if_pos h1, if_pos h1, h _ (by omega)]
  · rw [if_neg h1, if_neg h1]
theorem win_dig (f : Nat → Nat) (o V k i : Nat) (h : i < k) : win f o V k (o + i) = dig 64 V i := by
  unfold win
  rw [if_pos ⟨by omega, by omega⟩, Nat.add_sub_cancel_left]
def overV (X Y j xc k : Nat) (p : Nat) : Nat := win (dig 64 (rowV X Y (j + 1))) j (less 64 k (partV X Y j) (xc * Y)) k p
theorem overV_end {X Y j n xc : Nat} (hY0 : 0 < Y) (hY : Y < 2 ^ (64 * (n + 2))) (hq : dig 64 (X / Y) j ≤ xc) (hx : ¬ partV X Y j < xc * Y) : xc = dig 64 (X / Y) j ∧ ∀ p, overV X Y j xc (n + 3) p = dig 64 (rowV X Y j) p := by
  have h1 : xc ≤ partV X Y j / Y := (Nat.le_div_iff_mul_le hY0).2 (by omega)
  rw [partV_div hY0] at h1
  have h2 : xc = dig 64 (X / Y) j := Nat.le_antisymm h1 hq
  refine ⟨h2, fun p => ?_⟩
  rw [rowV_dig (n := n + 2) hY0 hY, ← h2]
  unfold overV win less
  rw [if_pos (by omega : xc * Y ≤ partV X Y j)]
theorem part_bound {X Y n : Nat} (hY0 : 0 < Y) (hY : Y < 2 ^ (64 * (n + 2))) (j : Nat) : partV X Y j < 2 ^ (64 * (n + 3)) := by
  refine Nat.lt_of_lt_of_le (partV_lt hY0 j) ?_
  refine Nat.le_trans (Nat.mul_le_mul_right _ (Nat.le_of_lt hY)) ?_
  rw [← Nat.pow_add]
  exact Nat.pow_le_pow_right (by decide) (by omega)
theorem prod_bound {Y n xc : Nat} (hY : Y < 2 ^ (64 * (n + 2))) (hx : xc < 2 ^ 64) : xc * Y < 2 ^ (64 * (n + 3)) := by
  calc xc * Y < 2 ^ 64 * 2 ^ (64 * (n + 2)) := Nat.mul_lt_mul'' hx hY
    _ = 2 ^ (64 * (n + 3)) := by rw [← Nat.pow_add]; congr 1; omega
theorem sub_part (g X Y L n j nt ct xg cd : Nat) (Ad : Option Addr) (w : World) (hrow : w.rowIs g 62 (L + 1) (fun p => .int .u64 (dig 64 (rowV X Y (j + 1)) p : Nat))) (hx : xg < 2 ^ 64) (hN : j + (n + 3) ≤ L + 1) (hnt : n + 2 < nt) (hm : n + 2 ≤ 1099511627776)
    (hd : Digs w Ad .u64 64 Y (n + 2)) (hY : Y < 2 ^ (64 * (n + 2))) (hY0 : 0 < Y) (hne : ∀ b p, Ad = some ⟨b, p, none⟩ → b ≠ g) :
    Calls Try.prog 98 #[.slice (some ⟨g, j, none⟩) nt ct, .slice Ad (n + 2) cd, .int .u64 (xg : Nat)] w fun e w' => e = .returned (.bool (decide (partV X Y j < xg * Y))) ∧
      w'.rowIs g 62 (L + 1) (fun p => .int .u64 (overV X Y j xg (n + 3) p : Nat)) ∧ w.grownBy w' (some g) :=
  submul_any g j nt ct (L + 1) Ad (n + 2) cd (dig 64 (rowV X Y (j + 1))) (partV X Y j) xg Y w hrow (fun _ _ => (dig_div _ _ _ _).symm) hx hN hnt hm hd hY (part_bound hY0 hY j) (fun b p h _ => hne b p h)
theorem back_part (g X Y L n j nt ct xc cd : Nat) (Ad : Option Addr) (w : World) (hrow : w.rowIs g 62 (L + 1) (fun p => .int .u64 (overV X Y j xc (n + 3) p : Nat))) (hx : xc < 2 ^ 64) (hov : partV X Y j < xc * Y) (hN : j + (n + 3) ≤ L + 1) (hnt : n + 2 < nt) (hm : n + 2 ≤ 1099511627776)
    (hd : Digs w Ad .u64 64 Y (n + 2)) (hY : Y < 2 ^ (64 * (n + 2))) (hY0 : 0 < Y) (hne : ∀ b p, Ad = some ⟨b, p, none⟩ → b ≠ g) :
    Calls Try.prog 99 #[.slice (some ⟨g, j, none⟩) nt ct, .slice Ad (n + 2) cd] w fun e w' => e = .returned (.bool (!decide (partV X Y j < (xc - 1) * Y))) ∧
      w'.rowIs g 62 (L + 1) (fun p => .int .u64 (overV X Y j (xc - 1) (n + 3) p : Nat)) ∧ w.grownBy w' (some g) := by
  obtain ⟨h1, h2, h3⟩ := less_back (part_bound hY0 hY j) (prod_bound hY hx) hov
  have := addback_any g j nt ct (L + 1) Ad (n + 2) cd (overV X Y j xc (n + 3)) (less 64 (n + 3) (partV X Y j) (xc * Y)) Y w hrow (fun i hi => win_dig _ _ _ _ _ hi) hN hnt hm hd hY (less_lt (part_bound hY0 hY j)) (fun b p h _ => hne b p h)
  refine this.mono ?_
  rintro e w' ⟨he, hr, hg⟩
  refine ⟨?_, hr.congr (fun p _ => ?_), hg⟩
  · rw [he, ← decide_not]
    congr 3
    rw [eq_iff_iff, show n + 2 + 1 = n + 3 from rfl, h2]
    omega
  · have h4 : win (overV X Y j xc (n + 3)) j (less 64 (n + 3) (partV X Y j) (xc * Y) + Y) (n + 2 + 1) = overV X Y j (xc - 1) (n + 3) := by
      rw [show n + 2 + 1 = n + 3 from rfl, win_congr h3]
      exact win_win _ _ _ _ _
    rw [h4]
theorem row_grown {w w' : World} {row : Option Nat} {b N : Nat} {t : TypeId} {f : Nat → Value} (h : w.rowIs b t N f) (hg : w.grownBy w' row) (hne : some b ≠ row) : w'.rowIs b t N f := by
  have hlt := h.lt
  obtain ⟨c, hc, hs, hf⟩ := h
  exact ⟨c, (hg.block b hlt hne).trans hc, hs, hf⟩
theorem row_far {w : World} {b N : Nat} {t : TypeId} {f : Nat → Value} (h : w.rowIs b t N f) {p : Addr} (hp : b ≠ p.block) (u : Value) : (w.setCell p u).rowIs b t N f := by
  obtain ⟨c, hc, hs, hf⟩ := h
  exact ⟨c, (Below.heap_setCell w p u b hp).trans hc, hs, hf⟩
set_option maxRecDepth 100000 in
set_option maxHeartbeats 4000000 in
theorem ndiv_main (va vb : Value) (x y n : Nat) (w : World) (ha : N64 w va x) (hb : N64 w vb y) (hx : wl 64 x ≤ 1000000000) (hyn : wl 64 y = n + 2) (hge : y ≤ x) :
    Calls Try.prog 23 #[va, vb] w fun e w' => ∃ q r, e = .returned (.tuple #[q, r, .int .i64 0]) ∧ N64 w' q (x / y) ∧ N64 w' r (x % y) ∧ Below w.heap.size w w' := by
  have hy0 : 0 < y := by
    rcases Nat.eq_zero_or_pos y with h | h
    · subst h; rw [wl_zero (by decide)] at hyn; omega
    · exact h
  have hwl : n + 2 ≤ wl 64 x := by rw [← hyn]; exact wl_mono (by decide) hge
  have HB := Lib.hid (fun W h => zero_no vb y W h hy0)
  have HC := Lib.hid (fun W h1 h2 => (ncmp_any va vb x y W h1 h2))
  have hcm : (0 : Int) ≤ cmpN x y := by
    rcases Nat.lt_or_ge y x with h | h
    · rw [cmpN_gt h]; decide
    · rw [show x = y by omega, cmpN_self]; decide
  obtain ⟨hsd1, hsd2, hsd3⟩ := shifted_div hyn
  have HLZ := Lib.hid (fun W => lead64_any (dig 64 y (n + 1)) (dig_lt 64 y (n + 1)) W)
  obtain ⟨s, hs⟩ : ∃ s, 64 - bl (dig 64 y (n + 1)) = s := ⟨_, rfl⟩
  rw [hs] at HLZ hsd1 hsd2 hsd3
  clear hs
  obtain ⟨hdv1, hdv2⟩ := shifted x y s
  have hub := fun W h => nup_any vb y W h (by omega) (s : Nat) (by omega)
  have hua := fun W h => nup_any va x W h (by omega) (s : Nat) (by omega)
  rw [Int.toNat_natCast] at hub hua
  obtain ⟨kx, hkx⟩ : ∃ kx, wl 64 (x * 2 ^ s) = kx := ⟨_, rfl⟩
  have hx3 : x * 2 ^ s < 2 ^ (64 * kx) := by rw [← hkx]; exact wl_lt (by decide) _
  have HUB := Lib.hid (fun W h => (hub W h).mono (fun _ _ h => UpOut.of (k := n + 2) hsd2 h))
  have HUA := Lib.hid (fun W h => (hua W h).mono (fun _ _ h => UpOut.of hkx h))
  clear hub hua
  have hX1 : x * 2 ^ s < 2 ^ (64 * (wl 64 x + 1)) := by
    rw [pow_succ_mul]
    exact Nat.lt_of_lt_of_le (Nat.mul_lt_mul_of_pos_right (wl_lt (by decide) x) (Nat.two_pow_pos s)) (Nat.mul_le_mul_left _ (Nat.pow_le_pow_right (by decide) hsd3))
  have HN := Lib.hid hb
  have HM := Lib.hid ha
  obtain ⟨A, ca, rfl, hla, hma, hda⟩ := ha
  obtain ⟨B, cb, rfl, hlb, hmb, hdb⟩ := hb
  have HDB := Lib.hid hdb
  rw [hyn] at hlb hdb HB HN HC HUB HDB ⊢
  obtain ⟨bB, oB, rfl, hltB, hcB⟩ := hdb (n + 1) (by omega)
  obtain ⟨yt, hyt⟩ : ∃ yt, dig 64 y (n + 1) = yt := ⟨_, rfl⟩
  rw [hyt] at hcB HLZ
  clear hyt
  obtain ⟨cm, hcmv⟩ : ∃ cm, cmpN x y = cm := ⟨_, rfl⟩
  rw [hcmv] at HC hcm
  have hX2 : kx ≤ wl 64 x + 1 := by rw [← hkx]; exact (wl_le (by decide) _ _).2 hX1
  have HQK := Lib.hid (show x / y < 2 ^ (64 * (wl 64 x + 1 - (n + 2))) from by
    rw [Nat.div_lt_iff_lt_mul hy0]
    refine Nat.lt_of_lt_of_le (wl_lt (k := 64) (by decide) x) ?_
    refine Nat.le_trans ?_ (Nat.mul_le_mul_left _ ((lt_wl (k := 64) (by decide) y (n + 1)).1 (by omega)))
    rw [← Nat.pow_add]
    exact Nat.pow_le_pow_right (by decide) (by omega))
  have hY0 : 0 < y * 2 ^ s := Nat.mul_pos hy0 (Nat.two_pow_pos s)
  obtain ⟨L, hL⟩ : ∃ L, wl 64 x = L := ⟨_, rfl⟩
  rw [hL] at HC HM hX1 hX2 HUA HQK hla hx hwl ⊢
  obtain ⟨X, hX⟩ : ∃ X, x * 2 ^ s = X := ⟨_, rfl⟩
  obtain ⟨Y, hY⟩ : ∃ Y, y * 2 ^ s = Y := ⟨_, rfl⟩
  rw [hX] at HUA hdv1 hdv2 hX1 hx3 hkx
  rw [hY] at HUB hdv1 hdv2 hsd1 hsd2 hY0
  rw [← hdv1] at HQK
  rw [← hdv1, ← hdv2]
  have HF : DF X Y L n kx := ⟨hX1, hX2, hx3, hsd1, hsd2, hY0, HQK.out⟩
  have hkL : kx ≤ L + 1 := hX2
  clear hkx hx3 HQK hL hX hY hX1 hX2 hsd1 hsd2 hY0 hdv1 hdv2 hcmv hyn hge hy0 hda hdb
  unfold maxLen at hma hmb
  have hn1 : (((n : Int) + 2) == 1) = false := by rw [beq_eq_false_iff_ne]; omega
  have hb0 := cba (cba (cba (cba (Below.refl _ w) (.cells #[.slice A L ca] 26)) (.cells #[.slice (some ⟨bB, oB, none⟩) (n + 2) cb] 26)) (.cells #[.slice none 0 0] 26)) (.cells #[.slice none 0 0] 26)
  have e0 := (((Blk.new w 26 #[.slice A L ca]).alloc (.cells #[.slice (some ⟨bB, oB, none⟩) (n + 2) cb] 26)).alloc (.cells #[.slice none 0 0] 26)).alloc (.cells #[.slice none 0 0] 26)
  have e1 := ((Blk.new (w.alloc (.cells #[.slice A L ca] 26)) 26 #[.slice (some ⟨bB, oB, none⟩) (n + 2) cb]).alloc (.cells #[.slice none 0 0] 26)).alloc (.cells #[.slice none 0 0] 26)
  have e2 := (Blk.new ((w.alloc (.cells #[.slice A L ca] 26)).alloc (.cells #[.slice (some ⟨bB, oB, none⟩) (n + 2) cb] 26)) 26 #[.slice none 0 0]).alloc (.cells #[.slice none 0 0] 26)
  have e3 := Blk.new (((w.alloc (.cells #[.slice A L ca] 26)).alloc (.cells #[.slice (some ⟨bB, oB, none⟩) (n + 2) cb] 26)).alloc (.cells #[.slice none 0 0] 26)) 26 #[.slice none 0 0]
  simp only [World.size_alloc] at e1 e2 e3
  go_enter Try.func23, Try.ntmps23
  go_wp2_with fail
  obtain ⟨X0, hX0⟩ : ∃ X0, (((w.alloc (.cells #[.slice A L ca] 26)).alloc (.cells #[.slice (some ⟨bB, oB, none⟩) (n + 2) cb] 26)).alloc (.cells #[.slice none 0 0] 26)).alloc (.cells #[.slice none 0 0] 26) = X0 := ⟨_, rfl⟩
  rw [hX0] at e0 e1 e2 e3 hb0 ⊢
  clear hX0
  refine (HB.out _ (HN.out.below hb0)).mono ?_
  rintro e X1 ⟨rfl, hb1⟩
  have s0 := blk_below e0 hb1
  have s1 := blk_below e1 hb1
  have k0 : X1.cell? ⟨w.heap.size, 0, none⟩ = some (.slice A L ca) := s0.cell 0
  have k1 : X1.cell? ⟨w.heap.size + 1, 0, none⟩ = some (.slice (some ⟨bB, oB, none⟩) (n + 2) cb) := s1.cell 0
  go_wp2_with fail
  refine (HC.out _ (HM.out.below (cbt hb0 hb1)) (HN.out.below (cbt hb0 hb1))).mono ?_
  rintro e S ⟨rfl, hb2⟩
  have hbS := cbt (cbt hb0 hb1) hb2
  have t0 := blk_below s0 hb2
  have t1 := blk_below s1 hb2
  have t2 := blk_below (blk_below e2 hb1) hb2
  have t3 := blk_below (blk_below e3 hb1) hb2
  have k4 : S.cell? ⟨w.heap.size, 0, none⟩ = some (.slice A L ca) := t0.cell 0
  have k5 : S.cell? ⟨w.heap.size + 1, 0, none⟩ = some (.slice (some ⟨bB, oB, none⟩) (n + 2) cb) := t1.cell 0
  have k6 : S.cell? ⟨bB, oB + (n + 1), none⟩ = some (.int .u64 (yt : Nat)) := (hbS.cell (p := ⟨bB, oB + (n + 1), none⟩) hltB).trans hcB
  have T0 := Lib.hid t0
  have T1 := Lib.hid t1
  have T2 := Lib.hid t2
  have T3 := Lib.hid t3
  have HBS := Lib.hid hbS
  clear e0 e1 e2 e3 s0 s1 k0 k1 hb1 hb2 hb0 hcB HB HC HDB t0 t1 t2 t3 hbS
  go_wp2_with fail
  refine (HLZ.out _).mono ?_
  rintro e S' ⟨rfl, rfl⟩
  go_wp2_with fail
  refine (HUB.out _ (HN.out.below HBS.out)).mono ?_
  rintro e S2 ⟨Ad, cd, rfl, hld, hmd, hdd, hb2⟩
  have HDD := Lib.hid hdd
  have hf1 := fld26 Ad (n + 2) cd
  have hmk1 := run_make_row' (P := Try.prog) 24 62 (.int .u64 0) 8 Try.underlying24 Try.info62 rfl .i64 .i64 (L + 1) (by omega) (by omega)
  simp only [Int.natCast_add, Int.natCast_one] at hmk1
  have w0 := blk_below T0.out hb2
  have k7 : S2.cell? ⟨w.heap.size, 0, none⟩ = some (.slice A L ca) := w0.cell 0
  have k7' : (S2.alloc (.cells (madeCells #[.int .u64 0] (L + 1)) 62)).cell? ⟨w.heap.size, 0, none⟩ = some (.slice A L ca) := (w0.alloc _).cell 0
  have HB2 := Lib.hid (cbt HBS.out hb2)
  have V0 := Lib.hid w0
  have V2 := Lib.hid (blk_below T2.out hb2)
  have V3 := Lib.hid (blk_below T3.out hb2)
  have hgu : w.heap.size + 4 ≤ S2.heap.size := by
    have := V3.out.lt
    omega
  clear hdd k4 k5 k6 hb2 w0
  go_wp2_with fail
  refine (HUA.out _ (HM.out.below (cba HB2.out _))).mono ?_
  rintro e S3 ⟨Ax, cx, rfl, hlx, hmx, hdx, hb3⟩
  have HDX := Lib.hid hdx
  have hf2 := fld26 Ax kx cx
  have hgb : S3.heap[S2.heap.size]? = some (.cells (madeCells #[.int .u64 0] (L + 1)) 62 (0, 0)) := (hb3.block S2.heap.size (by simp)).trans (heap_alloc_new S2 _)
  have HGB := Lib.hid hgb
  have HB3 := Lib.hid hb3
  have hbb3 : Below S2.heap.size S2 S3 := cbt (cba (Below.refl _ _) _) hb3
  have HBB3 := Lib.hid hbb3
  have hsz62 : (Try.prog.info? 62).map (·.size) = some 1 := by kernel_rfl
  clear hdx hgb hb3 hbb3 k7 k7' hmk1
  go_wp2_with (with_reducible refine wpList_copy_splice rfl (.tmp 65) (.tmp 69) 24 24 rfl 62 Try.underlying24 hsz62 (some ⟨S2.heap.size, 0, none⟩) Ax (L + 1) (L + 1) kx cx rfl rfl S2.heap.size 0 (madeCells #[.int .u64 0] (L + 1)).toList 62 HGB.out ((List.range kx).map fun i => Value.int .u64 (dig 64 X i : Nat)) ?hn ?hpos ?hfit ?h1 S2.heap.size S2 HBB3.out (Nat.le_refl _) ?_)
  case hn => rw [List.length_map, List.length_range]; exact (Nat.min_eq_left hkL).symm
  case hpos =>
    intro h0
    obtain ⟨b', o', e', _, _⟩ := HDX.out 0 h0
    subst e'
    refine ⟨_, rfl, fun j a hj => ?_⟩
    rcases Nat.lt_or_ge j kx with h | h
    · rw [List.getElem?_eq_getElem (by simpa using h)] at hj
      simp at hj
      subst hj
      obtain ⟨b2, o2, e2, _, hc2⟩ := HDX.out j h
      cases e2
      rw [addr_add]
      exact hc2
    · rw [List.getElem?_eq_none (by simpa using h)] at hj
      cases hj
  case hfit => simp [size_madeCells]; omega
  case h1 =>
    intro v hv
    simp at hv
    obtain ⟨a, _, rfl⟩ := hv
    rfl
  intro S4 hrow4 hb4
  have HR4 := Lib.hid (splice_row (X := X) (c := madeCells #[.int .u64 0] (L + 1)) (size_madeCells _ _) (fun i hi => by simp [madeCells, hi, Nat.mod_one]) HF.x2 HF.x3 hrow4)
  clear hrow4 HGB HB3 HBB3 HDX hf2 hf1 hlx hmx hsz62 hkL HUA HUB HLZ
  obtain ⟨K, hK⟩ : ∃ K, L + 1 - (n + 2) = K := ⟨_, rfl⟩
  have hKL : K + (n + 2) = L + 1 := by omega
  clear hK
  have hLK : (L : Int) + 1 = (K : Int) + ((n : Int) + 2) := by omega
  have hK0 : 0 < K := by omega
  have hmk2 := run_make_row' (P := Try.prog) 24 62 (.int .u64 0) 8 Try.underlying24 Try.info62 rfl .i64 .i64 K (by omega) (by omega)
  have j1 : IntKind.i64.wrap ((L : Int) + 1 - ((n : Int) + 2)) = (K : Int) := by rw [hLK]; exact (IntWalk.i64_in _ (by omega)).trans (by omega)
  have hrq := World.rowIs_made S4 (.int .u64 0) K 62
  have HRQ := Lib.hid hrq
  clear hrq
  go_wp2_with fail
  have hgq : S2.heap.size < S4.heap.size := HR4.out.lt
  have HDA := Lib.hid (fun (W : World) (h : Below S2.heap.size S2 W) => HDD.out.below h)
  have hne : ∀ b p, Ad = some ⟨b, p, none⟩ → b ≠ S2.heap.size := by
    intro b p e
    obtain ⟨b', o', e', hlt', _⟩ := HDD.out 0 (by omega)
    rw [e] at e'
    cases e'
    omega
  have HNE := Lib.hid hne
  clear hne hmk2 j1 hK0 hgu hLK
  go_loopw [14] (fun v14 wr => ∃ m : Nat, m ≤ K ∧ v14 = .int .i64 ((m : Int) - 1) ∧ wr.rowIs S2.heap.size 62 (L + 1) (fun p => .int .u64 (dig 64 (rowV X Y m) p : Nat)) ∧ wr.rowIs S4.heap.size 62 K (fun p => .int .u64 (hiw (X / Y) m p : Nat)) ∧ Below S2.heap.size S2 wr) (fun v14 _ => (intOf v14 + 1).toNat)
  case atStart =>
    refine ⟨K, Nat.le_refl _, rfl, ?_, ?_, cba hb4 _⟩
    · rw [rowV_start (by rw [show K = L + 1 - (n + 2) by omega]; exact HF.q)]
      exact HR4.out.alloc _
    · exact HRQ.out.congr (fun p hp => by unfold hiw; rw [if_neg (by omega)]; rfl)
  case round =>
    obtain ⟨m, hm, rfl, hru, hrq, hbr⟩ := hrel
    have HRU := Lib.hid hru
    have HRQ := Lib.hid hrq
    have HBR := Lib.hid hbr
    clear hru hrq hbr
    rcases Nat.eq_zero_or_pos m with h0 | h0
    · subst h0
      have hqb : X / Y < 2 ^ (64 * K) := by
        rw [show K = L + 1 - (n + 2) by omega]
        exact HF.q
      have hrb : X % Y < 2 ^ (64 * (n + 2)) := Nat.lt_trans (Nat.mod_lt X HF.y0) HF.y1
      have hqd : Digs wr (some ⟨S4.heap.size, 0, none⟩) .u64 64 (X / Y) K := Digs.of_row HRQ.out (Nat.le_refl _) (fun i _ => by unfold hiw; rw [if_pos (Nat.zero_le _)])
      have hrd : Digs wr (some ⟨S2.heap.size, 0, none⟩) .u64 64 (X % Y) (n + 2) := Digs.of_row HRU.out (by omega) (fun i _ => by rw [rowV_end])
      have HLB := Lib.hid ((wl_le (k := 64) (by decide) (X % Y) (n + 2)).2 hrb)
      have hu2 := blk_below V2.out HBR.out
      have hu3 := blk_below V3.out HBR.out
      have hbw := cbt HB2.out HBR.out
      have HTQ := Lib.hid (fun (W : World) (h : Below wr.heap.size wr W) => trim_any (some ⟨S4.heap.size, 0, none⟩) K K (X / Y) W (Nat.le_refl _) (by unfold maxLen; omega) (hqd.below h) hqb)
      have HCL := Lib.hid (fun (W : World) (h : Below wr.heap.size wr W) => clone_any S2.heap.size 0 (n + 2) (L + 1) (X % Y) W (by omega) (by omega) (hrd.below h))
      have HRB := Lib.hid hrb
      obtain ⟨r, hr⟩ : ∃ r, X % Y = r := ⟨_, rfl⟩
      obtain ⟨q, hq⟩ : ∃ q, X / Y = q := ⟨_, rfl⟩
      rw [hq] at HTQ
      rw [hr] at HCL HRB HLB
      have HQE := Lib.hid hq
      have HRE := Lib.hid hr
      have U2 := Lib.hid hu2
      have U3 := Lib.hid hu3
      have HBW := Lib.hid hbw
      have hsz : w.heap.size + 4 ≤ wr.heap.size := by
        have := hu3.lt
        omega
      clear hqb hrb hqd hrd hu2 hu3 hbw hr hq HRU HRQ HBR hb4 HR4
      have i0 : (0 : Int) ≤ (n : Int) + 2 := by omega
      have i1 : (n : Int) + 2 ≤ (L : Int) + 1 := by omega
      have i2 : ((n : Int) + 2).toNat = n + 2 := by omega
      go_wp2_with fail
      go_region_held3 (fun _ => True) (exact trivial)
        (first
          | (go_at_call 92; (with_reducible refine (HTQ.out _ ?_).mono ?_); (repeat (with_reducible (first | exact Below.refl _ _ | exact below_drewN (Below.refl _ _) _ | refine Below.drew ?_))); rintro e w5 ⟨v5, rfl, ⟨A5, c5, rfl, hl5, hm5, hd5⟩, hb5⟩; have hb5' := Lib.hid (cbt (below_drewN (Below.refl wr.heap.size wr) 1) hb5); have HD5 := Lib.hid hd5; clear hd5)
          | (go_at_call 100; (with_reducible refine (HCL.out _ ?_).mono ?_); (exact hb5'.out); rintro e w6 ⟨A6, c6, rfl, hl6, hm6, hd6, hb6⟩; have hb6' := Lib.hid (cbt hb5'.out hb6); have HD6 := Lib.hid hd6; clear hd6)
          | (go_at_call 92; (with_reducible refine (trim_any A6 (n + 2) c6 r _ hl6 hm6 HD6.out HRB.out).mono ?_); rintro e w7 ⟨v7, rfl, hn7, hb7⟩; have hb7' := Lib.hid (cbt hb6'.out hb7); have HN7 := Lib.hid hn7)
          | (go_at_call 33; (with_reducible refine (ndown_any v7 r _ HN7.out ?_ (s : Nat) ?_).mono ?_); (have := HLB.out; omega); (have := hsd3; omega); rintro e w8 ⟨v8, rfl, ⟨A8, c8, rfl, hl8, hm8, hd8⟩, hb8⟩; have hb8' := Lib.hid (cbt hb7'.out hb8); have HD8 := Lib.hid hd8; clear hd8; have Z2 := Lib.hid (blk_below U2.out hb8'.out); have Z3 := Lib.hid (blk_below U3.out hb8'.out); have kk2 : w8.cell? ⟨w.heap.size + 1 + 1, 0, none⟩ = some (.slice none 0 0) := Z2.out.cell 0; have kk3 : w8.cell? ⟨w.heap.size + 1 + 1 + 1, 0, none⟩ = some (.slice none 0 0) := Z3.out.cell 0; have ff2 := Z2.out.frozen 0; have ff3 := Z3.out.frozen 0))
      rw [Int.toNat_natCast] at hl8
      have hd8 := HD8.out
      rw [Int.toNat_natCast] at hd8
      have z3 := Z3.out.far (p := ⟨w.heap.size + 1 + 1, 0, none⟩) (show w.heap.size + 1 + 1 + 1 ≠ w.heap.size + 1 + 1 by omega) (.slice A5 (wl 64 q) c5)
      have HF2 := Lib.hid (show ∃ q' r', (Ending.returned (.tuple #[.agg #[.slice A5 (wl 64 q) c5], .agg #[.slice A8 (wl 64 (r / 2 ^ s)) c8], .int .i64 0])) = .returned (.tuple #[q', r', .int .i64 0]) ∧ N64 ((w8.setCell ⟨w.heap.size + 1 + 1, 0, none⟩ (.slice A5 (wl 64 q) c5)).setCell ⟨w.heap.size + 1 + 1 + 1, 0, none⟩ (.slice A8 (wl 64 (r / 2 ^ s)) c8)) q' (X / Y) ∧ N64 ((w8.setCell ⟨w.heap.size + 1 + 1, 0, none⟩ (.slice A5 (wl 64 q) c5)).setCell ⟨w.heap.size + 1 + 1 + 1, 0, none⟩ (.slice A8 (wl 64 (r / 2 ^ s)) c8)) r' (X % Y / 2 ^ s) ∧ Below w.heap.size w ((w8.setCell ⟨w.heap.size + 1 + 1, 0, none⟩ (.slice A5 (wl 64 q) c5)).setCell ⟨w.heap.size + 1 + 1 + 1, 0, none⟩ (.slice A8 (wl 64 (r / 2 ^ s)) c8)) from by
        rw [HQE.out, HRE.out]
        exact ⟨_, _, rfl, N64.put (N64.put (N64.below ⟨A5, c5, rfl, hl5, hm5, HD5.out⟩ (cbt (cbt hb6 hb7) hb8)) Z2.out _) z3 _, (N64.put (N64.put ⟨A8, c8, rfl, hl8, hm8, hd8⟩ Z2.out _) z3 _),
          ((cbt HBW.out hb8'.out).setCell (p := ⟨w.heap.size + 1 + 1, 0, none⟩) (show w.heap.size ≤ w.heap.size + 1 + 1 by omega) _).setCell (p := ⟨w.heap.size + 1 + 1 + 1, 0, none⟩) (show w.heap.size ≤ w.heap.size + 1 + 1 + 1 by omega) _⟩)
      clear z3 hl8 hd8 hb5 hb6 hb7 hb8 hn7
      go_wp2
      exact bodyPost_ret (v := .tuple #[.agg #[.slice A5 (wl 64 q) c5], .agg #[.slice A8 (wl 64 (r / 2 ^ s)) c8], .int .i64 0]) (by simp [results, Try.results23, go_sem, kk2, kk3]) rfl HF2.out
    · obtain ⟨j, rfl⟩ : ∃ j, m = j + 1 := ⟨m - 1, by omega⟩
      obtain ⟨bD, oD, rfl, hltD, hcD1⟩ := HDD.out (n + 1) (by omega)
      have hcD0 : S2.cell? ⟨bD, oD + n, none⟩ = some (.int .u64 (dig 64 Y n : Nat)) := by
        obtain ⟨b', o', e', _, hc⟩ := HDD.out n (by omega)
        cases e'
        exact hc
      have d1 : wr.cell? ⟨bD, oD + (n + 1), none⟩ = some (.int .u64 (dig 64 Y (n + 1) : Nat)) := (HBR.out.cell (p := ⟨bD, oD + (n + 1), none⟩) hltD).trans hcD1
      have d0 : wr.cell? ⟨bD, oD + n, none⟩ = some (.int .u64 (dig 64 Y n : Nat)) := (HBR.out.cell (p := ⟨bD, oD + n, none⟩) hltD).trans hcD0
      have HD1 := Lib.hid d1
      have HD0 := Lib.hid d0
      have HGU := Lib.hid (fun (W : World) (hW : Drew wr W) => guess_any S2.heap.size j (n + 3) (L + 1 - j) n Y (partV X Y j) W rfl (by omega) HF.y1 HF.y0 (partV_lt HF.y0 j)
        (by rw [hW.cell]; unfold partV; rw [dig_div]; exact HRU.out.cell (by omega)) (by rw [hW.cell]; unfold partV; rw [dig_div]; exact HRU.out.cell (by omega)) (by rw [hW.cell]; unfold partV; rw [dig_div]; exact HRU.out.cell (by omega)))
      rw [partV_div HF.y0] at HGU
      obtain ⟨y1, hy1⟩ : ∃ y1, dig 64 Y (n + 1) = y1 := ⟨_, rfl⟩
      obtain ⟨y0, hy0⟩ : ∃ y0, dig 64 Y n = y0 := ⟨_, rfl⟩
      rw [hy1] at HD1 HGU
      rw [hy0] at HD0 HGU
      clear hcD1 hcD0 d1 d0 hy1 hy0
      have p1 : (0 : Int) ≤ (j : Int) + 1 - 1 := by omega
      have p2 : ¬ (L + 1 = j) := by omega
      have p3 : IntKind.i64.wrap ((j : Int) + 1 - 1 + ((n : Int) + 2)) = (j : Int) + (n : Int) + 2 := (IntWalk.i64_in _ (by omega)).trans (by omega)
      have p4 : IntKind.i64.wrap ((j : Int) + (n : Int) + 2 + 1) = (j : Int) + (n : Int) + 3 := (IntWalk.i64_in _ (by omega)).trans (by omega)
      have p5 : (j : Int) + 1 - 1 ≤ (j : Int) + (n : Int) + 3 := by omega
      have p6 : (j : Int) + (n : Int) + 3 ≤ (L : Int) + 1 := by omega
      have p7 : ((j : Int) + 1 - 1).toNat = j := by omega
      have p8 : ((j : Int) + (n : Int) + 3).toNat = j + n + 3 := by omega
      go_wp2_with fail
      rw [show j + (n + 2) + 1 - j = n + 3 by omega]
      clear p1 p2 p3 p4 p5 p6 p7 p8
      have m1 : IntKind.i64.wrap ((n : Int) + 2 - 1) = (n : Int) + 1 := (IntWalk.i64_in _ (by omega)).trans (by omega)
      have m2 : IntKind.i64.wrap ((n : Int) + 2 - 2) = (n : Int) := (IntWalk.i64_in _ (by omega)).trans (by omega)
      have m2b : IntKind.i64.wrap (n : Int) = (n : Int) := IntWalk.i64_in _ (by omega)
      have m3 : (0 : Int) ≤ (n : Int) + 1 := by omega
      have m4 : (n : Int) + 1 < (n : Int) + 2 := by omega
      have m5 : (0 : Int) ≤ (n : Int) := by omega
      have m6 : (n : Int) < (n : Int) + 2 := by omega
      have m7 : ((n : Int) + 1).toNat = n + 1 := by omega
      have m8 : ((n : Int)).toNat = n := by omega
      go_region_held3 (fun w' => w'.cell? ⟨bD, oD + (n + 1), none⟩ = some (.int .u64 (y1 : Nat)) ∧ w'.cell? ⟨bD, oD + n, none⟩ = some (.int .u64 (y0 : Nat))) (first | exact ⟨HD1.out, HD0.out⟩ | exact ⟨(hdw2.cell _).trans HD1.out, (hdw2.cell _).trans HD0.out⟩)
        (first | (go_at_call 97; (with_reducible refine (HGU.out _ ?_).mono ?_); (exact ⟨_, rfl⟩); rintro e w2 ⟨xg, hxg, hqg, rfl, hdw⟩; have hdw2 : Drew wr w2 := Drew.trans ⟨_, rfl⟩ hdw))
      clear m1 m2 m2b m3 m4 m5 m6 m7 m8 HGU HD1 HD0
      have HQG := Lib.hid hqg
      have hb2 : Below S2.heap.size S2 w2 := HBR.out.trans (hdw2.below.mono HBR.out.size)
      have HRU2 := Lib.hid (show w2.rowIs S2.heap.size 62 (L + 1) (fun p => .int .u64 (dig 64 (rowV X Y (j + 1)) p : Nat)) from by obtain ⟨k, rfl⟩ := hdw2; exact World.rowIs.drewN HRU.out k)
      have HRQ2 := Lib.hid (show w2.rowIs S4.heap.size 62 K (fun p => .int .u64 (hiw (X / Y) (j + 1) p : Nat)) from by obtain ⟨k, rfl⟩ := hdw2; exact World.rowIs.drewN HRQ.out k)
      have HSP := Lib.hid (sub_part S2.heap.size X Y L n j (n + 3) (L + 1 - j) xg cd (some ⟨bD, oD, none⟩) w2 HRU2.out hxg (by omega) (by omega) (by omega) (HDA.out _ hb2) HF.y1 HF.y0 HNE.out)
      have HB2' := Lib.hid hb2
      clear hdw hdw2 hqg hb2
      go_wp2_with fail
      refine HSP.out.mono ?_
      rintro e w3 ⟨rfl, hr3, hg3⟩
      have HR3 := Lib.hid hr3
      have HQ3 := Lib.hid (row_grown HRQ2.out hg3 (by simp; omega))
      have HB3 := Lib.hid (HB2'.out.grown hg3 (Nat.le_of_lt HRU2.out.lt) (fun k e => by cases e; exact Nat.le_refl _))
      clear hr3 hg3
      go_wp2_with fail
      go_loopw [16, 17] (fun v16 v17 wr => ∃ xc : Nat, v16 = .int .u64 (xc : Nat) ∧ v17 = .bool (decide (partV X Y j < xc * Y)) ∧ dig 64 (X / Y) j ≤ xc ∧ xc < 2 ^ 64 ∧ wr.rowIs S2.heap.size 62 (L + 1) (fun p => .int .u64 (overV X Y j xc (n + 3) p : Nat)) ∧ wr.rowIs S4.heap.size 62 K (fun p => .int .u64 (hiw (X / Y) (j + 1) p : Nat)) ∧ Below S2.heap.size S2 wr) (fun v16 _ _ => (intOf v16).toNat)
      case atStart => exact ⟨xg, rfl, rfl, HQG.out, hxg, HR3.out, HQ3.out, HB3.out⟩
      case round =>
        obtain ⟨xc, rfl, rfl, hqc, hxc, hr, hq, hb⟩ := hrel
        have HQ4 := Lib.hid hq
        have HB4 := Lib.hid hb
        have HXC := Lib.hid hxc
        have HQC := Lib.hid hqc
        clear hqc
        by_cases hov : partV X Y j < xc * Y
        · have hx1 : 1 ≤ xc := by
            rcases Nat.eq_zero_or_pos xc with h | h
            · subst h; rw [Nat.zero_mul] at hov; omega
            · exact h
          obtain ⟨c, rfl⟩ : ∃ c, xc = c + 1 := ⟨xc - 1, by omega⟩
          have HBK := Lib.hid (back_part S2.heap.size X Y L n j (n + 3) (L + 1 - j) (c + 1) cd (some ⟨bD, oD, none⟩) wr hr hxc hov (by omega) (by omega) (by omega) (HDA.out _ hb) HF.y1 HF.y0 HNE.out)
          rw [Nat.add_sub_cancel] at HBK
          have HC := Lib.hid (show dig 64 (X / Y) j ≤ c from by
            rcases Nat.lt_or_ge c (dig 64 (X / Y) j) with h | h
            · exfalso
              rw [← partV_div HF.y0] at h
              have h2 := Nat.mul_le_mul_right Y h
              have h3 := Nat.div_mul_le_self (partV X Y j) Y
              have h4 : (c + 1) * Y = (c.succ) * Y := rfl
              omega
            · exact h)
          have hlt := hr.lt
          have hc64 : c < 18446744073709551616 := by omega
          have hdt : decide (partV X Y j < (c + 1) * Y) = true := decide_eq_true hov
          obtain ⟨od, hod⟩ : ∃ od, decide (partV X Y j < c * Y) = od := ⟨_, rfl⟩
          rw [hod] at HBK
          have HOD := Lib.hid hod
          clear hr hq hb hxc hov hod hx1
          rw [hdt]
          clear hdt
          go_wp2_with fail
          refine HBK.out.mono ?_
          rintro e w5 ⟨rfl, hr5, hg5⟩
          have HR5 := Lib.hid hr5
          have HQ5 := Lib.hid (row_grown HQ4.out hg5 (by simp; omega))
          have HB5 := Lib.hid (HB4.out.grown hg5 (Nat.le_of_lt hlt) (fun k e => by cases e; exact Nat.le_refl _))
          clear hr5 hg5
          go_wp2_with fail
          go_roundw
          case rel => exact ⟨c, by simp, by rw [HOD.out], HC.out, by omega, HR5.out, HQ5.out, HB5.out⟩
          case measure => simp [intOf]
        · obtain ⟨hxe, hrow⟩ := overV_end HF.y0 HF.y1 HQC.out hov
          have HRW := Lib.hid (hr.congr (fun p _ => by rw [hrow p]) : wr.rowIs S2.heap.size 62 (L + 1) (fun p => .int .u64 (dig 64 (rowV X Y j) p : Nat)))
          have HXE := Lib.hid hxe
          have hdt : decide (partV X Y j < xc * Y) = false := decide_eq_false hov
          have hjK : j < K := by omega
          have fq := hq.frozen j
          have hqj := hq.cell hjK
          clear hr hq hb hxc hov hrow hxe
          rw [hdt]
          clear hdt
          have p1 : (0 : Int) ≤ (j : Int) := by omega
          have p2 : (j : Int) < (K : Int) := by omega
          go_wp2_with fail
          go_roundw
          case measure => simp [intOf]
          refine ⟨j, by omega, rfl, row_far HRW.out (show S2.heap.size ≠ S4.heap.size by omega) _, ?_, HB4.out.setCell (p := ⟨S4.heap.size, j, none⟩) (Nat.le_of_lt hgq) _⟩
          refine (HQ4.out.set j (.int .u64 (xc : Nat))).congr (fun p _ => ?_)
          rw [hiw_step (q := X / Y) (i := j) (p := p), ← HXE.out]
          by_cases h1 : p = j
          · rw [if_pos h1, if_pos h1]
          · rw [if_neg h1, if_neg h1]
theorem ndiv_any (va vb : Value) (x y : Nat) (w : World) (ha : N64 w va x) (hb : N64 w vb y) (hx : wl 64 x ≤ 1000000000) (hy0 : 0 < y) :
    Calls Try.prog 23 #[va, vb] w fun e w' => ∃ q r, e = .returned (.tuple #[q, r, .int .i64 0]) ∧ N64 w' q (x / y) ∧ N64 w' r (x % y) ∧ Below w.heap.size w w' := by
  rcases Nat.lt_or_ge x y with h | h
  · have := ndiv_less va vb x y w ha hb h
    rw [Nat.div_eq_of_lt h, Nat.mod_eq_of_lt h]
    exact this
  · rcases Nat.lt_or_ge y (2 ^ 64) with h1 | h1
    · exact ndiv_word va vb x y w ha hb (by omega) hy0 h1 h
    · obtain ⟨n, hn⟩ : ∃ n, wl 64 y = n + 2 := by
        refine ⟨wl 64 y - 2, ?_⟩
        have := (lt_wl (k := 64) (by decide) y 1).2 (by simpa using h1)
        omega
      exact ndiv_main va vb x y n w ha hb hx hn h
end Go.Proofs.Yteikhnmmkanndaa
namespace Go.Proofs.Yteikhnmmkanndaa
open Go.RowKit
def Box (w : World) (r x : Nat) : Prop := ∃ A c, Blk w r 26 #[.slice A (wl 64 x) c] ∧ N64 w (.agg #[.slice A (wl 64 x) c]) x
theorem Box.below {w w' : World} {r x : Nat} (h : Box w r x) (hb : Below w.heap.size w w') : Box w' r x := by
  obtain ⟨A, c, hk, hn⟩ := h
  exact ⟨A, c, blk_below hk hb, hn.below hb⟩
set_option maxRecDepth 100000 in
set_option maxHeartbeats 2000000 in
theorem ngcd_any (va vb : Value) (x y : Nat) (w : World) (ha : N64 w va x) (hb : N64 w vb y) (hx : wl 64 x ≤ 1000000000) (hy : wl 64 y ≤ 1000000000) :
    Calls Try.prog 53 #[va, vb] w (Mk64 w (Nat.gcd x y)) := by
  have HM := Lib.hid ha
  have HN := Lib.hid hb
  obtain ⟨A, ca, rfl, _, _, _⟩ := ha
  obtain ⟨B, cb, rfl, _, _, _⟩ := hb
  have hb0 := cba (cba (cba (Below.refl _ w) (.cells #[.slice A (wl 64 x) ca] 26)) (.cells #[.slice B (wl 64 y) cb] 26)) (.cells #[.slice none 0 0] 26)
  have e0 := ((Blk.new w 26 #[.slice A (wl 64 x) ca]).alloc (.cells #[.slice B (wl 64 y) cb] 26)).alloc (.cells #[.slice none 0 0] 26)
  have e1 := (Blk.new (w.alloc (.cells #[.slice A (wl 64 x) ca] 26)) 26 #[.slice B (wl 64 y) cb]).alloc (.cells #[.slice none 0 0] 26)
  have e2 := Blk.new ((w.alloc (.cells #[.slice A (wl 64 x) ca] 26)).alloc (.cells #[.slice B (wl 64 y) cb] 26)) 26 #[.slice none 0 0]
  simp only [World.size_alloc] at e1 e2
  have B0 := Lib.hid (show Box _ w.heap.size x from ⟨A, ca, e0, HM.out.below hb0⟩)
  have B1 := Lib.hid (show Box _ (w.heap.size + 1) y from ⟨B, cb, e1, HN.out.below hb0⟩)
  have B2 := Lib.hid e2
  have HB0 := Lib.hid hb0
  have HX := Lib.hid hx
  have HY := Lib.hid hy
  clear hb0 e0 e1 e2 hx hy
  go_enter Try.func53, Try.ntmps53
  go_wp2_with fail
  go_loopg [7] y (fun k _ wr => ∃ x' : Nat, Hid (Nat.gcd x' k = Nat.gcd x y) ∧ Hid (wl 64 x' ≤ 1000000000) ∧ Hid (wl 64 k ≤ 1000000000) ∧ Hid (Box wr w.heap.size x') ∧ Hid (Box wr (w.heap.size + 1) k) ∧ Hid (Blk wr (w.heap.size + 1 + 1) 26 #[.slice none 0 0]) ∧ Hid (Below w.heap.size w wr))
  case atStart => exact ⟨x, Lib.hid rfl, HX, HY, B0, B1, B2, HB0⟩
  case round =>
    obtain ⟨x', hg, hx', hy', b0, b1, b2, hbw⟩ := hrel
    obtain ⟨A', ca', hA, hnA⟩ := b0.out
    obtain ⟨B', cb', hB, hnB⟩ := b1.out
    have k0 : wr.cell? ⟨w.heap.size, 0, none⟩ = some (.slice A' (wl 64 x') ca') := hA.cell 0
    have k1 : wr.cell? ⟨w.heap.size + 1, 0, none⟩ = some (.slice B' (wl 64 gk) cb') := hB.cell 0
    have HA := Lib.hid hA
    have HB := Lib.hid hB
    have HNA := Lib.hid hnA
    have HNB := Lib.hid hnB
    clear hA hB hnA hnB
    rcases Nat.eq_zero_or_pos gk with h0 | h0
    · subst h0
      have HZ := Lib.hid (fun W h => zero_yes (.agg #[.slice B' (wl 64 0) cb']) W h)
      have HG := Lib.hid (show x' = Nat.gcd x y by rw [← hg.out, Nat.gcd_zero_right])
      go_wp2_with fail
      refine (HZ.out _ HNB.out).mono ?_
      rintro e w1 ⟨rfl, hb1⟩
      have z0 := blk_below HA.out hb1
      have z2 := blk_below b2.out hb1
      have q0 : w1.cell? ⟨w.heap.size, 0, none⟩ = some (.slice A' (wl 64 x') ca') := z0.cell 0
      have q2 : w1.cell? ⟨w.heap.size + 1 + 1, 0, none⟩ = some (.slice none 0 0) := z2.cell 0
      have f2 := z2.frozen 0
      have HF := Lib.hid (show Mk64 w (Nat.gcd x y) (.returned (.agg #[.slice A' (wl 64 x') ca'])) (w1.setCell ⟨w.heap.size + 1 + 1, 0, none⟩ (.slice A' (wl 64 x') ca')) from by
        rw [← HG.out]
        exact ⟨_, rfl, N64.put (HNA.out.below hb1) z2 _, (cbt hbw.out hb1).setCell (p := ⟨w.heap.size + 1 + 1, 0, none⟩) (show w.heap.size ≤ w.heap.size + 1 + 1 by omega) _⟩)
      clear z0 z2 hb1 k0 k1
      go_wp2
      exact bodyPost_ret (v := .agg #[.slice A' (wl 64 x') ca']) (by simp [results, Try.results53, go_sem, q2]) rfl HF.out
    · have HZ := Lib.hid (fun W h => zero_no (.agg #[.slice B' (wl 64 gk) cb']) gk W h h0)
      have HDV := Lib.hid (fun W h1 h2 => ndiv_any (.agg #[.slice A' (wl 64 x') ca']) (.agg #[.slice B' (wl 64 gk) cb']) x' gk W h1 h2 hx'.out h0)
      go_wp2_with fail
      refine (HZ.out _ HNB.out).mono ?_
      rintro e w1 ⟨rfl, hb1⟩
      have z0 := blk_below HA.out hb1
      have z1 := blk_below HB.out hb1
      have q0 : w1.cell? ⟨w.heap.size, 0, none⟩ = some (.slice A' (wl 64 x') ca') := z0.cell 0
      have q1 : w1.cell? ⟨w.heap.size + 1, 0, none⟩ = some (.slice B' (wl 64 gk) cb') := z1.cell 0
      have HB1 := Lib.hid hb1
      clear z0 z1 hb1 k0 k1
      go_wp2_with fail
      refine (HDV.out _ (HNA.out.below HB1.out) (HNB.out.below HB1.out)).mono ?_
      rintro e w2 ⟨vq, vr, rfl, hq, hr, hb2⟩
      obtain ⟨Q, cq, rfl, _, _, _⟩ := hq
      have HR := Lib.hid hr
      obtain ⟨R, cr, rfl, _, _, _⟩ := hr
      have HB2 := Lib.hid (cbt HB1.out hb2)
      clear hb2 q0 q1
      go_wp2_with fail
      have hbS : Below wr.heap.size wr ((w2.alloc (.cells #[.slice Q (wl 64 (x' / gk)) cq] 26)).alloc (.cells #[.slice R (wl 64 (x' % gk)) cr] 26)) := cba (cba HB2.out _) _
      have zR := Blk.new (w2.alloc (.cells #[.slice Q (wl 64 (x' / gk)) cq] 26)) 26 #[.slice R (wl 64 (x' % gk)) cr]
      have nR := HR.out.below (cba (cba (Below.refl _ w2) (.cells #[.slice Q (wl 64 (x' / gk)) cq] 26)) (.cells #[.slice R (wl 64 (x' % gk)) cr] 26))
      have hsz : wr.heap.size ≤ w2.heap.size + 1 := Nat.le_succ_of_le HB2.out.size
      simp only [World.size_alloc] at zR
      obtain ⟨S, hS⟩ : ∃ S, (w2.alloc (.cells #[.slice Q (wl 64 (x' / gk)) cq] 26)).alloc (.cells #[.slice R (wl 64 (x' % gk)) cr] 26) = S := ⟨_, rfl⟩
      rw [hS] at hbS zR nR ⊢
      obtain ⟨g6, hg6⟩ : ∃ g6, w2.heap.size + 1 = g6 := ⟨_, rfl⟩
      rw [hg6] at zR hsz
      simp only [hg6]
      have zA := blk_below HA.out hbS
      have zB := blk_below HB.out hbS
      have zC := blk_below b2.out hbS
      have c1 : S.cell? ⟨w.heap.size + 1, 0, none⟩ = some (.slice B' (wl 64 gk) cb') := zB.cell 0
      have c0 : S.cell? ⟨w.heap.size, 0, none⟩ = some (.slice A' (wl 64 x') ca') := zA.cell 0
      have c6 : S.cell? ⟨g6, 0, none⟩ = some (.slice R (wl 64 (x' % gk)) cr) := zR.cell 0
      have hne6 : g6 ≠ w.heap.size := by
        have := HA.out.lt
        omega
      have c6a : (S.setCell ⟨w.heap.size, 0, none⟩ (.slice B' (wl 64 gk) cb')).cell? ⟨g6, 0, none⟩ = some (.slice R (wl 64 (x' % gk)) cr) := (zR.far (p := ⟨w.heap.size, 0, none⟩) hne6 _).cell 0
      have f0 := zA.frozen 0
      have f1 := zB.frozen 0
      have z1a := zB.far (p := ⟨w.heap.size, 0, none⟩) (show w.heap.size + 1 ≠ w.heap.size by omega) (.slice B' (wl 64 gk) cb')
      have z2a := (zC.far (p := ⟨w.heap.size, 0, none⟩) (show w.heap.size + 1 + 1 ≠ w.heap.size by omega) (.slice B' (wl 64 gk) cb')).far (p := ⟨w.heap.size + 1, 0, none⟩) (show w.heap.size + 1 + 1 ≠ w.heap.size + 1 by omega) (.slice R (wl 64 (x' % gk)) cr)
      have bA : Blk ((S.setCell ⟨w.heap.size, 0, none⟩ (.slice B' (wl 64 gk) cb')).setCell ⟨w.heap.size + 1, 0, none⟩ (.slice R (wl 64 (x' % gk)) cr)) w.heap.size 26 #[.slice B' (wl 64 gk) cb'] := (zA.set_ 0 (.slice B' (wl 64 gk) cb')).far (p := ⟨w.heap.size + 1, 0, none⟩) (show w.heap.size ≠ w.heap.size + 1 by omega) _
      have bB : Blk ((S.setCell ⟨w.heap.size, 0, none⟩ (.slice B' (wl 64 gk) cb')).setCell ⟨w.heap.size + 1, 0, none⟩ (.slice R (wl 64 (x' % gk)) cr)) (w.heap.size + 1) 26 #[.slice R (wl 64 (x' % gk)) cr] := z1a.set_ 0 _
      have HFA := Lib.hid (show Box ((S.setCell ⟨w.heap.size, 0, none⟩ (.slice B' (wl 64 gk) cb')).setCell ⟨w.heap.size + 1, 0, none⟩ (.slice R (wl 64 (x' % gk)) cr)) w.heap.size gk from ⟨_, _, bA, N64.put (N64.put (HNB.out.below hbS) zA _) z1a _⟩)
      have HFB := Lib.hid (show Box ((S.setCell ⟨w.heap.size, 0, none⟩ (.slice B' (wl 64 gk) cb')).setCell ⟨w.heap.size + 1, 0, none⟩ (.slice R (wl 64 (x' % gk)) cr)) (w.heap.size + 1) (x' % gk) from ⟨_, _, bB, N64.put (N64.put nR zA _) z1a _⟩)
      have HFC := Lib.hid z2a
      have HFW := Lib.hid (((cbt hbw.out hbS).setCell (p := ⟨w.heap.size, 0, none⟩) (Nat.le_refl _) (.slice B' (wl 64 gk) cb')).setCell (p := ⟨w.heap.size + 1, 0, none⟩) (Nat.le_succ _) (.slice R (wl 64 (x' % gk)) cr))
      have hmod := Nat.mod_lt x' h0
      have HGG := Lib.hid (show Nat.gcd gk (x' % gk) = Nat.gcd x y by rw [← hg.out, Nat.gcd_comm x' gk, Nat.gcd_rec gk x', Nat.gcd_comm])
      have HWM := Lib.hid (show wl 64 (x' % gk) ≤ 1000000000 from Nat.le_trans (wl_mono (by decide) (Nat.le_of_lt hmod)) hy'.out)
      have HMOD := Lib.hid hmod
      clear hS hg6 zA zB zC zR nR z1a z2a bA bB hmod HZ HDV
      go_region
      all_goals
        go_wp2_with fail
        go_roundg (x' % gk)
        case measure => exact HMOD.out
        case rel => exact ⟨gk, HGG, hy', HWM, Lib.hid (HFA.out.below (Below.refl _ _).drew), Lib.hid (HFB.out.below (Below.refl _ _).drew), Lib.hid HFC.out.drew, Lib.hid HFW.out.drew⟩
end Go.Proofs.Yteikhnmmkanndaa
namespace Go.Proofs.Yteikhnmmkanndaa
open Go.RowKit Go.Proofs.YteikhnmmkanndaaW.PrintWords
theorem wpList_append_run {P : Program} {ops : Array Oper} {rest : List Oper} {o : Oper} {a : Act} {W : World} {Q : Exit → Act → World → Prop} (hgd : o.guard = none) (s x : Operand) (t ti : TypeId)
    (ho : o.op = .call { callee := .builtin .append, args := #[s, x], argTypes := #[t, ti] }) {v u v1 : Value} {w1 : World} (hs : a.eval s = v) (hx : a.eval x = u)
    (hrun : (Builtin.append_ #[t, ti] o.type #[v, u]).run P W = .ok v1 w1) (h : wpList P ops Q rest (a.put o.dst v1) w1) : wpList P ops Q (o :: rest) a W := by
  refine wpList_plain hgd fun K hK => ?_
  unfold Oper.wp execOp
  simp only [ho, resolve, invoke, builtin, Sem.run_bind, Sem.run_pure, Result.andThen_ok, List.map_toArray, List.map_cons, List.map_nil, hs, hx, hrun]
  exact hK _ _ h
set_option maxRecDepth 100000 in
set_option maxHeartbeats 2000000 in
theorem grow_any (n : Nat) (w : World) (hn0 : 0 < n) (hn : n ≤ 1099511627776) :
    Calls Try.prog 132 #[.slice none 0 0, .int .i64 (n : Nat)] w fun e w' => ∃ v, e = .returned v ∧ w'.ownsRow w.heap.size 5 1 v 0 [] ∧ Below w.heap.size w w' := by
  obtain ⟨i0, hi, hz0, hz1, hz2⟩ := info_parts PAll.info5
  obtain ⟨v', w', hrun, hown, hg, _⟩ := run_append_zeros (P := Try.prog) w w.heap.size 22 3 22 5 i0 (.int .u8 0) 1 1 Try.underlying22 (k := .i64) (by kernel_rfl) hi hz0 hz1 hz2 rfl (by decide) (by decide) (.slice none 0 0) 0 []
    ⟨rfl, .inl ⟨rfl, rfl⟩⟩ .i64 n (by
      intro u hu
      unfold Builtin.zeroCells at hu
      simp at hu
      obtain ⟨a, ha, rfl⟩ := hu
      show (#[Value.int .u8 0])[a % 1]!.oneCell' = true
      rw [Nat.mod_one]
      rfl) (by omega) (Nat.le_refl _)
  have hb := (Below.refl w.heap.size w).grown hg (Nat.le_refl _) (fun k e => by cases e)
  rcases hown.2 with ⟨_, h0⟩ | ⟨g, cap, cur, rfl, hbg, hgc, hnc, hcm, hsz, htk⟩
  · omega
  · have HF := Lib.hid (show w'.ownsRow w.heap.size 5 1 (.slice (some ⟨g, 0, none⟩) 0 cap) 0 [] from ⟨rfl, .inr ⟨g, cap, cur, rfl, hbg, hgc, Nat.zero_le _, hcm, hsz, by simp⟩⟩)
    have HB := Lib.hid hb
    have i1 : (0 : Int) < (n : Int) := by omega
    have i2 : ¬ ((n : Int) < 0) := by omega
    have i3 : IntKind.i64.wrap (n : Int) = (n : Int) := IntWalk.i64_in _ (by omega)
    clear hown hg hb hgc htk hsz
    go_enter Try.func132, Try.ntmps132
    go_wp2_with (at_builtin; refine wpList_append_run (by rfl) (.tmp 20) (.tmp 21) 22 3 (by rfl) (by rfl) (by rfl) hrun ?_)
    go_ret
    exact ⟨_, rfl, HF.out, HB.out⟩
def Parts (w : World) (g : Nat) (ls : List (List Int)) : Prop := ∀ i l, ls[i]? = some l → ∃ b c, w.cell? ⟨g, i, none⟩ = some (.slice (some ⟨b, 0, none⟩) l.length c) ∧ b < w.heap.size ∧ 0 < l.length ∧ ∀ j z, l[j]? = some z → w.cell? ⟨b, j, none⟩ = some (.int .u8 z)
theorem Parts.below {w w' : World} {g : Nat} {ls : List (List Int)} (hg : g < w.heap.size) (h : Parts w g ls) (hb : Below w.heap.size w w') : Parts w' g ls := by
  intro i l hl
  obtain ⟨b, c, h1, h2, h3, h4⟩ := h i l hl
  exact ⟨b, c, (hb.cell (p := ⟨g, i, none⟩) hg).trans h1, Nat.lt_of_lt_of_le h2 hb.size, h3, fun j z hz => (hb.cell (p := ⟨b, j, none⟩) h2).trans (h4 j z hz)⟩
theorem take_flat {ls : List (List Int)} {i : Nat} {l : List Int} (h : ls[i]? = some l) : (ls.take (i + 1)).flatten = (ls.take i).flatten ++ l := by
  rw [List.take_add_one, h]
  simp
theorem take_le (ls : List (List Int)) (i : Nat) : (ls.take i).flatten.length ≤ ls.flatten.length := by
  conv => rhs; rw [← List.take_append_drop i ls, List.flatten_append, List.length_append]
  exact Nat.le_add_right _ _
def ConcatEnd (w : World) (ls : List (List Int)) : Ending → World → Prop := fun e w' => ∃ v, e = .returned v ∧ w'.ownsRow w.heap.size 5 1 v ls.flatten.length (ls.flatten.map (Value.int .u8)) ∧ Below w.heap.size w w'
set_option maxRecDepth 100000 in
set_option maxHeartbeats 2000000 in
theorem concat_any (g k cap : Nat) (ls : List (List Int)) (w : World) (hk : ls.length = k) (hk0 : 0 < ls.flatten.length) (hg : g < w.heap.size) (hp : Parts w g ls) (hkb : k ≤ 1099511627776) (ht : ls.flatten.length ≤ 1099511627776) :
    Calls Try.prog 116 #[.slice (some ⟨g, 0, none⟩) k cap] w (ConcatEnd w ls) := by
  have HG := Lib.hid (fun W => grow_any ls.flatten.length W hk0 ht)
  have HP := Lib.hid hp
  have HK := Lib.hid hk
  have HT := Lib.hid (fun i => take_le ls i)
  obtain ⟨T, hT⟩ : ∃ T, ls.flatten.length = T := ⟨_, rfl⟩
  rw [hT] at HG ht HT hk0
  have HTE := Lib.hid hT
  obtain ⟨i0, hi, hz0, hz1, hz2⟩ := info_parts PAll.info5
  clear hp hT hk
  go_enter Try.func116, Try.ntmps116
  go_wp2_with fail
  go_loopw [3, 11] (fun v3 v11 wr => ∃ i : Nat, i ≤ k ∧ v11 = .int .i64 i ∧ v3 = .int .i64 ((ls.take i).flatten.length : Nat) ∧ wr = w) (fun _ v11 _ => k - (intOf v11).toNat)
  case atStart => exact ⟨0, Nat.zero_le _, rfl, by simp, rfl⟩
  case round =>
    obtain ⟨i, hik, rfl, rfl, rfl⟩ := hrel
    have hle := HT.out i
    rcases Nat.lt_or_ge i k with h | h
    · have hl : ls[i]? = some (ls[i]'(by have := HK.out; omega)) := List.getElem?_eq_getElem _
      obtain ⟨l, hlv⟩ : ∃ l, ls[i]'(by have := HK.out; omega) = l := ⟨_, rfl⟩
      rw [hlv] at hl
      obtain ⟨b, c, h1, _, _, _⟩ := HP.out i l hl
      have hnx := take_flat hl
      have hle2 := HT.out (i + 1)
      have HNX := Lib.hid (show (ls.take (i + 1)).flatten.length = (ls.take i).flatten.length + l.length by rw [hnx, List.length_append])
      rw [HNX.out] at hle2
      obtain ⟨s, hs⟩ : ∃ s, (ls.take i).flatten.length = s := ⟨_, rfl⟩
      rw [hs] at hle hle2 HNX ⊢
      obtain ⟨m, hm⟩ : ∃ m, l.length = m := ⟨_, rfl⟩
      rw [hm] at h1 hle2 HNX
      have w1 : IntKind.i64.wrap ((s : Int) + (m : Int)) = (s : Int) + (m : Int) := IntWalk.i64_in _ (by omega)
      have w2 : ¬ ((s : Int) + (m : Int) < 0) := by omega
      clear hl hlv hnx hs hm
      go_wp2_with fail
      refine ⟨⟨i + 1, by omega, by simp, by rw [HNX.out]; simp, trivial⟩, by simp [intOf]; omega⟩
    · obtain rfl : i = k := by omega
      have hall : ls.take i = ls := List.take_of_length_le (by have := HK.out; omega)
      rw [hall, HTE.out]
      clear hall hle
      go_wp2_with fail
      refine (HG.out _).mono ?_
      rintro e S ⟨v0, rfl, hown0, hb0⟩
      have HO0 := Lib.hid hown0
      have HB0 := Lib.hid hb0
      have HPS := Lib.hid (HP.out.below hg hb0)
      have hgS : g < S.heap.size := Nat.lt_of_lt_of_le hg hb0.size
      obtain ⟨B, hB⟩ : ∃ B, wr.heap.size = B := ⟨_, rfl⟩
      have hBS := hb0.size
      rw [hB] at hown0 hBS
      rw [hB] at HO0 HB0
      clear hown0 hb0
      go_wp2_with fail
      clear HPS hgS hBS
      have HPB := Lib.hid (fun (W : World) (h : Below B wr W) => HP.out.below hg (by rw [hB]; exact h))
      have HEND := Lib.hid (fun (W : World) (v : Value) (h1 : W.ownsRow B 5 1 v T (ls.flatten.map (Value.int .u8))) (h2 : Below B wr W) => (show ConcatEnd wr ls (.returned v) W from ⟨v, rfl, by rw [hB, HTE.out]; exact h1, by rw [hB]; exact h2⟩))
      have HBSZ := Lib.hid (fun (W : World) (h : Below B wr W) => (show B ≤ W.heap.size by rw [← hB]; exact h.size))
      have HBG := Lib.hid (fun (W W' : World) (v : Value) (n : Nat) (xs : List Value) (h : Below B wr W) (ho : W.ownsRow B 5 1 v n xs) (hg : W.grownBy W' v.ownBlock) => (show Below B wr W' from by
        refine h.grown hg (by rw [← hB]; exact h.size) (fun k e => ?_)
        rcases ho.2 with ⟨rfl, _⟩ | ⟨g', cap', cur, rfl, hbg, _⟩
        · cases e
        · cases e; exact hbg))
      go_loopw [6, 27] (fun v6 v27 wx => ∃ j : Nat, j ≤ i ∧ v27 = .int .i64 j ∧ Hid (wx.ownsRow B 5 1 v6 (ls.take j).flatten.length ((ls.take j).flatten.map (Value.int .u8))) ∧ Hid (Below B wr wx)) (fun _ v27 _ => i - (intOf v27).toNat)
      case atStart => exact ⟨0, Nat.zero_le _, rfl, by simpa using HO0, HB0⟩
      case round =>
        obtain ⟨j, hji, rfl, hown, hbw⟩ := hrel
        rcases Nat.lt_or_ge j i with h | h
        · have hl : ls[j]? = some (ls[j]'(by have := HK.out; omega)) := List.getElem?_eq_getElem _
          obtain ⟨l, hlv⟩ : ∃ l, ls[j]'(by have := HK.out; omega) = l := ⟨_, rfl⟩
          rw [hlv] at hl
          obtain ⟨b, c, h1, _, h3, h4⟩ := HPB.out _ hbw.out j l hl
          have hnx := take_flat hl
          have hle2 := HT.out (j + 1)
          have HNX := Lib.hid (show (ls.take (j + 1)).flatten.length = (ls.take j).flatten.length + l.length by rw [hnx, List.length_append])
          rw [HNX.out] at hle2
          have HNX2 := Lib.hid hnx
          have HB := Lib.hid (HBSZ.out _ hbw.out)
          have HX := Lib.hid (show ∀ (W' : World) (v : Value), W'.ownsRow B 5 1 v ((ls.take j).flatten.length + l.length) ((ls.take j).flatten.map (Value.int .u8) ++ l.map (Value.int .u8)) → W'.ownsRow B 5 1 v (ls.take (j + 1)).flatten.length ((ls.take (j + 1)).flatten.map (Value.int .u8)) from by
            intro W' v hv
            rw [HNX.out, HNX2.out, List.map_append]
            exact hv)
          obtain ⟨s, hs⟩ : ∃ s, (ls.take j).flatten.length = s := ⟨_, rfl⟩
          obtain ⟨xs, hxs⟩ : ∃ xs, (ls.take j).flatten.map (Value.int .u8) = xs := ⟨_, rfl⟩
          rw [hs] at hle2 hown HX
          rw [hxs] at hown HX
          have H4 := Lib.hid h4
          clear hl hlv hnx hs hxs h4
          go_wp2_with (at_builtin; refine wpList_append_lies _ (by rfl) (.tmp 31) (.tmp 32) 22 (by rfl) B 5 i0 (.int .u8 0) 1 1 Try.underlying22 hi hz0 hz1 hz2 rfl (by decide) _ s xs (by rfl) hown.out ⟨b, 0, none⟩ l.length c (l.map (Value.int .u8)) (by rfl) ?hl ?hnews ?h1 h3 ?h63 ?hby HB.out _ rfl ?_)
          case hl => simp
          case hnews =>
            intro p u hp
            rw [List.getElem?_map] at hp
            cases hz : l[p]? with
            | none => rw [hz] at hp; cases hp
            | some z =>
              rw [hz] at hp
              cases hp
              rw [addr_add, Nat.zero_add]
              exact H4.out p z hz
          case h1 =>
            intro u hu
            obtain ⟨z, _, rfl⟩ := List.mem_map.1 hu
            rfl
          case h63 => unfold maxLen; omega
          case hby => omega
          · intro g' cap' w1 ho1 hg1 hat hlt
            have HO1 := Lib.hid (HX.out _ _ ho1)
            have HB1 := Lib.hid (HBG.out _ _ _ _ _ hbw.out hown.out hg1)
            clear ho1 hg1 hat
            go_wp2_with fail
            exact ⟨⟨j + 1, by omega, by simp, HO1, HB1⟩, by simp [intOf]; omega⟩
        · obtain rfl : j = i := by omega
          have hall : ls.take j = ls := List.take_of_length_le (by have := HK.out; omega)
          rw [hall] at hown
          have HF := Lib.hid (show wr.ownsRow B 5 1 u6 T (ls.flatten.map (Value.int .u8)) from by rw [← HTE.out]; exact hown.out)
          clear hown hall
          have HZ := Lib.hid (HEND.out _ _ HF.out hbw.out)
          clear HF
          go_wp2_with fail
          go_ret
          exact HZ.out
end Go.Proofs.Yteikhnmmkanndaa
namespace Go.Proofs.Yteikhnmmkanndaa
open Go.RowKit Go.Proofs.YteikhnmmkanndaaW.PrintWords
set_option maxRecDepth 100000 in
set_option maxHeartbeats 2000000 in
theorem reverse_one (A : Option Addr) (c : Nat) (w : World) : Calls Try.prog 115 #[.slice A 1 c] w fun e w' => e = .returned (.tuple #[]) ∧ w' = w := by
  go_enter Try.func115, Try.ntmps115
  go_wp2_with fail
  go_loopw [2, 3] (fun v2 v3 wr => v2 = .int .i64 0 ∧ v3 = .int .i64 0 ∧ wr = w) (fun _ _ _ => 0)
  case atStart => exact ⟨rfl, rfl, rfl⟩
  case round =>
    obtain ⟨rfl, rfl, rfl⟩ := hrel
    go_wp2_with fail
    first | go_end0 | ((try simp only [Exit.inBlock, Exit.then]); refine bodyPost_ret (results_none rfl _ _ _) rfl ?_)
    exact ⟨rfl, rfl⟩
theorem R_own {w : World} {base : Nat} {ok : Nat → Prop} {v : Value} {xs : List Int} (h : Kd.R (Kd.int .u8) 5 w base ok v xs) : w.ownsRow base 5 1 v xs.length (nums .u8 xs) := by
  obtain ⟨_, inner, ho, hr⟩ := h
  have hlen : inner.length = xs.length := by have := hr.1; rw [show (Kd.int .u8).sz = 1 from rfl, Nat.mul_one] at this; exact this
  have he : inner = nums .u8 xs := by
    apply List.ext_getElem?
    intro j
    unfold nums
    rw [List.getElem?_map]
    rcases Nat.lt_or_ge j xs.length with hj | hj
    · have h1 := hr.2 j xs[j] (List.getElem?_eq_getElem hj)
      have h2 : (inner.drop (j * 1)).take 1 = [.int .u8 xs[j]] := h1
      rw [Nat.mul_one] at h2
      rw [List.getElem?_eq_getElem hj]
      have h3 : ((inner.drop j).take 1)[0]? = some (.int .u8 xs[j]) := by rw [h2]; rfl
      rw [List.getElem?_take, if_pos (by decide), List.getElem?_drop, Nat.add_zero] at h3
      exact h3
    · rw [List.getElem?_eq_none (by omega), List.getElem?_eq_none hj]
      rfl
  rw [he] at ho
  exact ho
theorem info22 : (Try.prog.info? 22).map (fun i => (i.zero, i.size, i.bytes)) = some (some (.slice none 0 0), 1, 24) := by kernel_rfl
def nat_digits_f (k x : Nat) (l : List Int) : Prop := PAll.nat_digits.f k (x : Int) 1 = some l ∧ 0 < l.length ∧ l.length ≤ 100
set_option maxRecDepth 100000 in
set_option maxHeartbeats 2000000 in
/-- the text of a number of nineteen digits at most. -/
theorem ntext_one (v : Value) (x : Nat) (l : List Int) (w : World) (h : N64 w v x) (hx : x < 10 ^ 19) (hd : nat_digits_f 100 x l) :
    Calls Try.prog 46 #[v] w fun e w' => e = .returned (.string (strOfNums l)) ∧ Below w.heap.size w w' := by
  have HM := Lib.hid h
  obtain ⟨A, ca, rfl, _, _, _⟩ := h
  have hw1 : wl 64 x ≤ 1099511627776 := Nat.le_trans ((wl_le (k := 64) (by decide) x 1).2 (Nat.lt_of_lt_of_le hx (by decide))) (by decide)
  have HSM : Hid (∀ W v, N64 W v x → Calls Try.prog 95 #[v, .int .u64 10000000000000000000] W fun e w' => ∃ q, e = .returned (.tuple #[q, .int .u64 (x : Nat)]) ∧ N64 w' q 0 ∧ Below W.heap.size W w') := Lib.hid (fun W v hv => by
    have := nsmall_any v x (10 ^ 19) W hv hw1 (by decide) (by decide)
    rw [Nat.mod_eq_of_lt hx, Nat.div_eq_of_lt hx] at this
    exact this)
  have HZ := Lib.hid (fun v W h => zero_yes v W h)
  have HDG := Lib.hid (fun W => PAll.nat_digits.calls 100 (x : Int) 1 l W hd.1)
  have HL := Lib.hid hd.2
  have hb0 := cba (Below.refl _ w) (.cells #[.slice A (wl 64 x) ca] 26)
  have e0 := Blk.new w 26 #[.slice A (wl 64 x) ca]
  have k0 : (w.alloc (.cells #[.slice A (wl 64 x) ca] 26)).cell? ⟨w.heap.size, 0, none⟩ = some (.slice A (wl 64 x) ca) := e0.cell 0
  clear hx hd hw1
  go_enter Try.func46, Try.ntmps46
  go_wp2_with fail
  have e1 := Blk.new (w.alloc (.cells #[.slice A (wl 64 x) ca] 26)) 26 #[.slice A (wl 64 x) ca]
  have hb1 := cba hb0 (.cells #[.slice A (wl 64 x) ca] 26)
  simp only [World.size_alloc] at e1
  obtain ⟨S, hS⟩ : ∃ S, (w.alloc (.cells #[.slice A (wl 64 x) ca] 26)).alloc (.cells #[.slice A (wl 64 x) ca] 26) = S := ⟨_, rfl⟩
  rw [hS] at e1 hb1 ⊢
  clear hS e0 k0 hb0
  have E1 := Lib.hid e1
  have HB1 := Lib.hid hb1
  clear e1 hb1
  go_loopw [3, 4] (fun v3 v4 wr => v3 = .slice none 0 0 ∧ v4 = .pointer (some ⟨w.heap.size + 1, 0, none⟩) ∧ wr = S) (fun _ _ _ => 0)
  case atStart => exact ⟨rfl, rfl, rfl⟩
  case round =>
    obtain ⟨rfl, rfl, rfl⟩ := hrel
    have k1 : wr.cell? ⟨w.heap.size + 1, 0, none⟩ = some (.slice A (wl 64 x) ca) := E1.out.cell 0
    go_wp2_with fail
    refine (HSM.out _ _ (HM.out.below HB1.out)).mono ?_
    rintro e w2 ⟨q, rfl, hq, hb2⟩
    obtain ⟨Q, cq, rfl, hq1, hq2, hq3⟩ := hq
    have HQ := Lib.hid (show N64 w2 (.agg #[.slice Q (wl 64 0) cq]) 0 from ⟨Q, cq, rfl, hq1, hq2, hq3⟩)
    have HB2 := Lib.hid (cbt HB1.out hb2)
    have e2 := Blk.new w2 26 #[.slice Q (wl 64 0) cq]
    have k2 : (w2.alloc (.cells #[.slice Q (wl 64 0) cq] 26)).cell? ⟨w2.heap.size, 0, none⟩ = some (.slice Q (wl 64 0) cq) := e2.cell 0
    clear hq1 hq2 hq3 hb2 k1 e2
    go_wp2_with fail
    refine (HZ.out _ _ (HQ.out.below (cba (Below.refl _ w2) _))).mono ?_
    rintro e w3 ⟨rfl, hb3⟩
    have HB3 := Lib.hid (cbt (cba HB2.out _) hb3)
    clear hb3 k2
    go_wp2_with fail
    refine (HDG.out _).mono ?_
    rintro e w4 ⟨vd, rfl, hR, hb4⟩
    have hO := R_own hR
    have HB4 := Lib.hid (cbt HB3.out hb4)
    obtain ⟨b, cd, rfl, hbb, hcell⟩ : ∃ b c, vd = .slice (some ⟨b, 0, none⟩) l.length c ∧ b < w4.heap.size ∧ ∀ j z, l[j]? = some z → w4.cell? ⟨b, j, none⟩ = some (.int .u8 z) := by
      rcases hO.2 with ⟨_, h0⟩ | ⟨g, cap, cur, rfl, _⟩
      · have := HL.out.1; omega
      · have hl := fun i (hi : i < l.length * 1) => hO.cellAt i hi
        refine ⟨g, cap, rfl, own_lt hO g rfl, fun j z hz => ?_⟩
        have hj : j < l.length := by
          rcases Nat.lt_or_ge j l.length with h | h
          · exact h
          · rw [List.getElem?_eq_none h] at hz; cases hz
        have := hl j (by omega)
        rw [this]
        unfold nums
        rw [List.getElem?_map, hz]
        rfl
    have HC := Lib.hid hcell
    clear hR hO hb4 hcell
    obtain ⟨i0, hi, hz0, hz1, hz2⟩ := info_parts info22
    go_wp2_with (at_builtin; refine wpList_append_lies _ (by rfl) (.tmp 15) (.tmp 18) 143 (by rfl) w.heap.size 22 i0 (.slice none 0 0) 1 24 Try.underlying143 hi hz0 hz1 hz2 rfl (by decide) _ 0 [] (by rfl) (own_nil _ _ _ _) ⟨w4.heap.size, 0, none⟩ 1 1 [.slice (some ⟨b, 0, none⟩) l.length cd] (by rfl) ?hl ?hnews ?h1 (by decide) ?h63 ?hby ?hbase (w4.heap.size + 1) ?hH ?_)
    case hl => rfl
    case hnews =>
      intro p u hp
      match p, hp with
      | 0, hp =>
        cases hp
        exact (Blk.new w4 22 #[.slice (some ⟨b, 0, none⟩) l.length cd]).cell 0
    case h1 =>
      intro u hu
      rw [List.mem_singleton.1 hu]
      rfl
    case h63 => decide
    case hby => decide
    case hbase => exact Nat.le_trans HB4.out.size (by simp)
    case hH => simp
    · intro g cap w5 hown hgrow hat hlt
      have hc0 := hown.cellAt 0 (by decide)
      have hgB : w.heap.size ≤ g := own_base hown g rfl
      have hg4 : g = w4.heap.size + 1 := by
        rcases hat with h | h
        · cases h
        · exact h
      have hb5 : Below w4.heap.size w4 w5 := (cba (Below.refl _ w4) _).grown hgrow (by simp) (fun k e => by cases e)
      have HP := Lib.hid (show Parts w5 g [l] from by
        intro i l' hl'
        match i, hl' with
        | 0, hl' =>
          cases hl'
          exact ⟨b, cd, hc0, Nat.lt_of_lt_of_le hbb hb5.size, HL.out.1, fun j z hz => (hb5.cell (p := ⟨b, j, none⟩) hbb).trans (HC.out j z hz)⟩)
      have HB5 := Lib.hid (cbt HB4.out hb5)
      have HLT := Lib.hid hlt
      clear hown hgrow hat hc0 hg4 hb5
      go_wp2_with fail
      refine (reverse_one _ _ _).mono ?_
      rintro e w6 ⟨rfl, rfl⟩
      go_wp2_with fail
      refine (concat_any g 1 cap [l] w6 rfl (by simpa using HL.out.1) HLT.out HP.out (by decide) (by have := HL.out.2; simp; omega)).mono ?_
      rintro e w7 ⟨vs, rfl, hs, hb7⟩
      have hconv := own_string (P := Try.prog) (src := 22) (dst := 9) (e := 5) (xs := l) Try.underlying22 (by kernel_rfl) (by kernel_rfl) (by simpa [nums] using hs)
      have HB7 := Lib.hid (cbt HB5.out hb7)
      clear hs hb7
      go_wp2_with fail
      go_ret
      exact ⟨rfl, HB7.out⟩
end Go.Proofs.Yteikhnmmkanndaa

namespace Go.Proofs.Yteikhnmmkanndaa
section
variable {P : Program} {ops : Array Oper}
def dstOf (ops : Array Oper) (j : Nat) : Option Tmp := (ops[j]?).bind (·.dst)
def waits (ops : Array Oper) (i k : Nat) : Bool := ((ops[i]?).map (fun o => o.after.any (fun e => Region.binds .any e && e.on == k))).getD false
def dstsB (ops : Array Oper) (size : Nat) : Bool :=
  (List.range ops.size).all fun i => match dstOf ops i with
    | none => true
    | some t => decide (t < size) && (List.range ops.size).all fun j => j == i || dstOf ops j != some t
structure Mix (ops : Array Oper) (a0 : Act) (L : Nat → Bool) (v : Nat → Value) (a : Act) : Prop where
  defers : a.defers = a0.defers
  size : a.tmps.size = a0.tmps.size
  got : ∀ j t, L j = true → dstOf ops j = some t → t < a0.tmps.size → a.tmps[t]? = some (v j)
  kept : ∀ t, (∀ j, L j = true → dstOf ops j ≠ some t) → a.tmps[t]? = a0.tmps[t]?
def setB (L : Nat → Bool) (i : Nat) : Nat → Bool := fun j => if j = i then true else L j
def setV (v : Nat → Value) (i : Nat) (u : Value) : Nat → Value := fun j => if j = i then u else v j
theorem setV_same (v : Nat → Value) (i : Nat) : setV v i (v i) = v := by
  funext j
  unfold setV
  split
  · rename_i h; rw [h]
  · rfl
set_option maxRecDepth 4000 in
theorem dst_ne {size i j : Nat} {t : Tmp} (hD : dstsB ops size = true) (hi : dstOf ops i = some t) (hj : dstOf ops j = some t) : i = j := by
  have hil : i < ops.size := by
    rcases Nat.lt_or_ge i ops.size with h | h
    · exact h
    · unfold dstOf at hi; rw [Array.getElem?_eq_none h] at hi; cases hi
  have hjl : j < ops.size := by
    rcases Nat.lt_or_ge j ops.size with h | h
    · exact h
    · unfold dstOf at hj; rw [Array.getElem?_eq_none h] at hj; cases hj
  unfold dstsB at hD
  have h1 := List.all_eq_true.1 hD i (List.mem_range.2 hil)
  rw [hi] at h1
  simp only [Bool.and_eq_true] at h1
  have h2 := List.all_eq_true.1 h1.2 j (List.mem_range.2 hjl)
  rw [hj] at h2
  rcases Bool.or_eq_true _ _ ▸ h2 with h3 | h3
  · exact (beq_iff_eq.1 h3).symm
  · simp at h3
theorem dst_lt {size i : Nat} {t : Tmp} (hD : dstsB ops size = true) (hi : dstOf ops i = some t) : t < size := by
  have hil : i < ops.size := by
    rcases Nat.lt_or_ge i ops.size with h | h
    · exact h
    · unfold dstOf at hi; rw [Array.getElem?_eq_none h] at hi; cases hi
  have h1 := List.all_eq_true.1 hD i (List.mem_range.2 hil)
  rw [hi] at h1
  simp only [Bool.and_eq_true, decide_eq_true_eq] at h1
  exact h1.1
theorem Mix.start (a0 : Act) (v : Nat → Value) : Mix ops a0 (fun _ => false) v a0 := ⟨rfl, rfl, fun _ _ h => absurd h (by simp), fun _ _ => rfl⟩
theorem Mix.put {a0 a : Act} {L : Nat → Bool} {v : Nat → Value} (h : Mix ops a0 L v a) {size : Nat} (hD : dstsB ops size = true) (i : Nat) (u : Value) : Mix ops a0 (setB L i) (setV v i u) (a.put (dstOf ops i) u) := by
  cases hd : dstOf ops i with
  | none =>
    refine ⟨h.defers, h.size, fun j t hj ht htl => ?_, fun t hno => h.kept t fun j hj => hno j (by unfold setB; split <;> simp_all)⟩
    have hji : j ≠ i := by rintro rfl; rw [hd] at ht; cases ht
    unfold setB setV at *
    rw [if_neg hji] at hj ⊢
    exact h.got j t hj ht htl
  | some d =>
    refine ⟨h.defers, by simp [Act.put, h.size], fun j t hj ht htl => ?_, fun t hno => ?_⟩
    · show (a.tmps.setIfInBounds d u)[t]? = _
      by_cases hji : j = i
      · subst hji
        rw [hd] at ht
        cases ht
        rw [Array.getElem?_setIfInBounds_self_of_lt (by rw [h.size]; exact htl)]
        unfold setV
        rw [if_pos rfl]
      · have hne : d ≠ t := fun e => hji (dst_ne hD ht (by rw [hd, e]))
        rw [Array.getElem?_setIfInBounds_ne hne]
        unfold setB at hj
        unfold setV
        rw [if_neg hji] at hj ⊢
        exact h.got j t hj ht htl
    · have hne : d ≠ t := fun e => hno i (by unfold setB; rw [if_pos rfl]) (by rw [hd, e])
      show (a.tmps.setIfInBounds d u)[t]? = _
      rw [Array.getElem?_setIfInBounds_ne hne]
      exact h.kept t fun j hj => hno j (by unfold setB; split <;> simp_all)
theorem Mix.congrL {a0 a : Act} {L L' : Nat → Bool} {v : Nat → Value} (h : Mix ops a0 L v a) (hL : ∀ j, j < ops.size → L j = L' j) : Mix ops a0 L' v a := by
  have hlt : ∀ j t, dstOf ops j = some t → j < ops.size := fun j t hj => by
    rcases Nat.lt_or_ge j ops.size with h | h
    · exact h
    · unfold dstOf at hj; rw [Array.getElem?_eq_none h] at hj; cases hj
  refine ⟨h.defers, h.size, fun j t hj ht => h.got j t (by rw [hL j (hlt j t ht)]; exact hj) ht, fun t hno => h.kept t fun j hj ht => hno j (by rw [← hL j (hlt j t ht)]; exact hj) ht⟩
theorem Mix.same {a0 a a' : Act} {L : Nat → Bool} {v : Nat → Value} (h : Mix ops a0 L v a) (h' : Mix ops a0 L v a') {size : Nat} (hD : dstsB ops size = true) (hs : size = a0.tmps.size) : a = a' := by
  have ht : a.tmps = a'.tmps := by
    apply Array.ext_getElem?
    intro t
    by_cases hx : ∃ j, L j = true ∧ dstOf ops j = some t
    · obtain ⟨j, hj, hd⟩ := hx
      have hl := dst_lt hD hd
      rw [hs] at hl
      rw [h.got j t hj hd hl, h'.got j t hj hd hl]
    · rw [h.kept t (fun j hj hd => hx ⟨j, hj, hd⟩), h'.kept t (fun j hj hd => hx ⟨j, hj, hd⟩)]
  cases a; cases a'
  have := h.defers; have := h'.defers
  simp_all
def putN (ops : Array Oper) (v : Nat → Value) (a0 : Act) : Nat → Act
  | 0 => a0
  | n + 1 => (putN ops v a0 n).put (dstOf ops n) (v n)
theorem Mix.putN {a0 : Act} (v : Nat → Value) {size : Nat} (hD : dstsB ops size = true) (n : Nat) : Mix ops a0 (fun j => decide (j < n)) v (putN ops v a0 n) := by
  induction n with
  | zero => exact (Mix.start a0 v).congrL (fun j _ => by simp)
  | succ n ih =>
    have h1 := ih.put hD n (v n)
    rw [setV_same] at h1
    refine h1.congrL (fun j _ => ?_)
    unfold setB
    split
    · rename_i hj; subst hj; simp
    · rename_i hj
      rw [Bool.eq_iff_iff, decide_eq_true_iff, decide_eq_true_iff]
      omega
theorem lex_apart : ∀ (fuel k : Nat) (listed : Array Bool), listed.size = ops.size → (∀ j, j < ops.size → listed.getD j false = decide (j < k)) → Region.lexFrom .any ops fuel k listed = true → k + fuel = ops.size →
    ∀ i j oi oj, k ≤ i → i < j → ops[i]? = some oi → ops[j]? = some oj → waits ops j i = true ∨ oi.apart ops oj = true := by
  intro fuel
  induction fuel with
  | zero =>
    intro k listed _ _ _ hk i j oi oj hki _ hoi _
    have := (Array.getElem?_eq_some_iff.1 hoi).1
    omega
  | succ fuel ih =>
    intro k listed hsz hl hB hk i j oi oj hki hij hoi hoj
    simp only [Region.lexFrom, Bool.and_eq_true] at hB
    obtain ⟨⟨hr, hf⟩, hB'⟩ := hB
    by_cases hik : i = k
    · subst hik
      have hjl := (Array.getElem?_eq_some_iff.1 hoj).1
      have hun : listed.getD j true = false := by
        have h1 := hl j hjl
        rw [decide_eq_false (by omega)] at h1
        have h2 : j < listed.size := by omega
        simp [h2] at h1 ⊢
        exact h1
      by_cases hw : waits ops j i = true
      · exact .inl hw
      · refine .inr (Region.free_spec hoi hf j oj hoj (by omega) hun fun e he hb heq => hw ?_)
        unfold waits
        rw [hoj]
        simp only [Option.map_some, Option.getD_some]
        exact Array.any_eq_true'.2 ⟨e, he, by simp [hb, heq]⟩
    · refine ih (k + 1) (listed.setIfInBounds k true) (by simpa using hsz) ?_ hB' (by omega) i j oi oj (by omega) hij hoi hoj
      intro m hm
      by_cases hmk : m = k
      · subst hmk
        rw [decide_eq_true (by omega)]
        have h2 : m < listed.size := by omega
        simp [h2]
      · rw [getD_set_ne false (Ne.symm hmk), hl m hm, Bool.eq_iff_iff, decide_eq_true_iff, decide_eq_true_iff]
        omega
def see (o : Oper) (a : Act) : Value := match o.dst with
  | some d => a.tmps.getD d undef
  | none => undef
def Only (a0 : Act) (o : Oper) (R : Value → World → Prop) : Exit → Act → World → Prop := fun e a w => e = .normal ∧ a.defers = a0.defers ∧ R (see o a) w
theorem wpOp_of_only {Q : Exit → Act → World → Prop} {a0 ai a : Act} {i : Nat} {o : Oper} {w : World} {R : Value → World → Prop} {K : Act → World → Prop}
    (ho : ops[i]? = some o) (hai : ai.defers = a0.defers) (hsz : ∀ d, o.dst = some d → d < ai.tmps.size)
    (he : execOp a.eval o = execOp ai.eval o) (hw : Region.wanted o (yielded ops a.tmps) = Region.wanted o (yielded ops ai.tmps))
    (h : wpList P ops (Only a0 o R) [o] ai w) (hK : ∀ u w', R u w' → K (a.put o.dst u) w') : wpOp P ops Q i K a w := by
  have hsee : ∀ u, ∃ u', see o (ai.put o.dst u) = u' ∧ a.put o.dst u' = a.put o.dst u := by
    intro u
    unfold see
    cases hd : o.dst with
    | none => exact ⟨undef, rfl, rfl⟩
    | some d =>
      refine ⟨u, ?_, rfl⟩
      have := hsz d hd
      simp [Act.put, Array.getD_eq_getD_getElem?, this]
  have hR : ∀ u w', R (see o (ai.put o.dst u)) w' → K (a.put o.dst u) w' := by
    intro u w' hr
    obtain ⟨u', hu', hp⟩ := hsee u
    rw [← hp]
    exact hK u' w' (hu' ▸ hr)
  unfold wpOp
  simp only [ho]
  unfold wpList at h
  rw [hw]
  split
  · rename_i hwt
    rw [if_pos hwt] at h
    rcases h with h | ⟨_, a', w', hf, _⟩
    case inr => cases hf
    refine .inl ?_
    unfold Oper.wp at h ⊢
    rw [he]
    generalize (execOp ai.eval o).run P w = r at h ⊢
    cases r with
    | ok n w' =>
      cases n <;> simp only [Oper.upon, wpList] at h ⊢
      case value u => exact hR u w' h.2.2
      case skip => exact hR undef w' h.2.2
      case defer d =>
        exfalso
        have h1 := h.2.1
        rw [← hai] at h1
        have h2 : (d :: ai.defers) = ai.defers := by cases hd : o.dst <;> rw [hd] at h1 <;> exact h1
        have := congrArg List.length h2
        simp at this
      case enter f args =>
        refine Calls.mono h fun e w'' he => ?_
        cases e with
        | returned u => exact hR u w'' he.2.2
        | panicked c => exact absurd he.1 (by simp)
        | outgrown => obtain ⟨_, _, hf, _⟩ := he; cases hf
      case row row args => exact Rows.mono h fun u w'' he => hR u w'' he.2.2
    | halt x w' =>
      cases x <;> simp only [Oper.upon] at h ⊢
      case panic u => exact absurd h.1 (by simp)
  · rename_i hwt
    rw [if_neg hwt] at h
    exact hR undef w h.2.2
def Steps (P : Program) (ops : Array Oper) (a0 : Act) (J : (Nat → Bool) → (Nat → Value) → World → Prop) (E : ((Nat → Value) → Act) → Prop) : Nat → List Oper → ((Nat → Value) → Act) → Prop
  | _, [], F => E F
  | k, o :: r, F => (∀ L v w, J L v w → L k = false → (∀ j, waits ops k j = true → L j = true) → (∀ j, waits ops j k = true → L j = false) → wpList P ops (Only a0 o (fun u w' => J (setB L k) (setV v k u) w')) [o] (F v) w) ∧
      Steps P ops a0 J E (k + 1) r (fun v => (F v).put o.dst (v k))
variable {J : (Nat → Bool) → (Nat → Value) → World → Prop} {E : ((Nat → Value) → Act) → Prop}
theorem Steps.cons {a0 : Act} {k : Nat} {o : Oper} {r : List Oper} {F : (Nat → Value) → Act}
    (h : ∀ L v w, J L v w → L k = false → (∀ j, waits ops k j = true → L j = true) → (∀ j, waits ops j k = true → L j = false) → wpList P ops (Only a0 o (fun u w' => J (setB L k) (setV v k u) w')) [o] (F v) w)
    (h2 : Steps P ops a0 J E (k + 1) r (fun v => (F v).put o.dst (v k))) : Steps P ops a0 J E k (o :: r) F := ⟨h, h2⟩
theorem Steps.nil {a0 : Act} {k : Nat} {F : (Nat → Value) → Act} (h : E F) : Steps P ops a0 J E k [] F := h
theorem Steps.last {a0 : Act} : ∀ (l : List Oper) (k : Nat) (F : (Nat → Value) → Act), (∀ j, l[j]? = ops[k + j]?) → (∀ v, F v = putN ops v a0 k) → Steps P ops a0 J E k l F → E (fun v => putN ops v a0 (k + l.length))
  | [], k, F, _, hF, h => by
    have : F = fun v => putN ops v a0 k := funext hF
    rw [this] at h
    exact h
  | x :: l, k, F, hl, hF, h => by
    have h0 : ops[k]? = some x := by simpa using (hl 0).symm
    have := Steps.last l (k + 1) _ (fun j => by have := hl (j + 1); simpa [Nat.add_assoc, Nat.add_comm 1 j] using this) (fun v => by
      show (F v).put x.dst (v k) = (putN ops v a0 k).put (dstOf ops k) (v k)
      rw [hF v]
      unfold dstOf
      rw [h0]
      rfl) h.2
    rw [show k + (x :: l).length = k + 1 + l.length by simp; omega]
    exact this
theorem Steps.get {a0 : Act} : ∀ (l : List Oper) (k : Nat) (F : (Nat → Value) → Act), (∀ j, l[j]? = ops[k + j]?) → (∀ v, F v = putN ops v a0 k) → Steps P ops a0 J E k l F →
    ∀ i o, k ≤ i → ops[i]? = some o → ∀ L v w, J L v w → L i = false → (∀ j, waits ops i j = true → L j = true) → (∀ j, waits ops j i = true → L j = false) → wpList P ops (Only a0 o (fun u w' => J (setB L i) (setV v i u) w')) [o] (putN ops v a0 i) w
  | [], k, F, hl, _, _, i, o, hki, ho => by
    have h := hl (i - k)
    rw [show k + (i - k) = i by omega, ho] at h
    simp at h
  | x :: l, k, F, hl, hF, hS, i, o, hki, ho => by
    have h0 : ops[k]? = some x := by simpa using (hl 0).symm
    by_cases hik : i = k
    · subst hik
      rw [h0] at ho
      cases ho
      intro L v w
      rw [← hF v]
      exact hS.1 L v w
    · refine Steps.get l (k + 1) _ (fun j => by have := hl (j + 1); simpa [Nat.add_assoc, Nat.add_comm 1 j] using this) (fun v => ?_) hS.2 i o (by omega) ho
      show (F v).put x.dst (v k) = (putN ops v a0 k).put (dstOf ops k) (v k)
      rw [hF v]
      unfold dstOf
      rw [h0]
      rfl
theorem lex_waits : ∀ (fuel k : Nat) (listed : Array Bool), listed.size = ops.size → (∀ j, j < ops.size → listed.getD j false = decide (j < k)) → Region.lexFrom .any ops fuel k listed = true → k + fuel = ops.size →
    ∀ i m, k ≤ i → waits ops i m = true → m < i := by
  intro fuel
  induction fuel with
  | zero =>
    intro k listed _ _ _ hk i m hki hw
    unfold waits at hw
    rw [Array.getElem?_eq_none (by omega)] at hw
    cases hw
  | succ fuel ih =>
    intro k listed hsz hl hB hk i m hki hw
    simp only [Region.lexFrom, Bool.and_eq_true] at hB
    obtain ⟨⟨hr, hf⟩, hB'⟩ := hB
    by_cases hik : i = k
    · subst hik
      obtain ⟨_, o, ho, hall⟩ := mem_ready.1 (show i ∈ Region.ready .any ops listed by simpa using hr)
      unfold waits at hw
      rw [ho] at hw
      simp only [Option.map_some, Option.getD_some] at hw
      obtain ⟨e, he, hb⟩ := Array.any_eq_true'.1 hw
      simp only [Bool.and_eq_true, beq_iff_eq] at hb
      have h1 := hall e he hb.1
      rw [hb.2] at h1
      by_cases hm : m < ops.size
      · rw [hl m hm] at h1
        exact decide_eq_true_iff.1 h1
      · have : ¬ m < listed.size := by omega
        simp [this] at h1
    · refine ih (k + 1) (listed.setIfInBounds k true) (by simpa using hsz) ?_ hB' (by omega) i m (by omega) hw
      intro m hm
      by_cases hmk : m = k
      · subst hmk
        rw [decide_eq_true (by omega)]
        have h2 : m < listed.size := by omega
        simp [h2]
      · rw [getD_set_ne false (Ne.symm hmk), hl m hm, Bool.eq_iff_iff, decide_eq_true_iff, decide_eq_true_iff]
        omega
theorem waits_of {i : Nat} {o : Oper} (ho : ops[i]? = some o) {e : Edge} (he : e ∈ o.after) (hb : Region.binds .any e = true) : waits ops i e.on = true := by
  unfold waits
  rw [ho]
  exact Array.any_eq_true'.2 ⟨e, he, by simp [hb]⟩
theorem of_waits {i k : Nat} {o : Oper} (ho : ops[i]? = some o) (h : waits ops i k = true) : ∃ e ∈ o.after, Region.binds .any e = true ∧ e.on = k := by
  unfold waits at h
  rw [ho] at h
  simp only [Option.map_some, Option.getD_some] at h
  obtain ⟨e, he, hb⟩ := Array.any_eq_true'.1 h
  simp only [Bool.and_eq_true, beq_iff_eq] at hb
  exact ⟨e, he, hb⟩
def todo (listed : Array Bool) (n : Nat) : Nat := ((List.range n).filter (fun j => !listed.getD j false)).length
theorem todo_set {listed : Array Bool} {n i : Nat} (hi : i < n) (hs : listed.size = n) (hl : listed.getD i false = false) : todo (listed.setIfInBounds i true) n < todo listed n := by
  unfold todo
  have key : ∀ m, m ≤ n → ((List.range m).filter (fun j => !(listed.setIfInBounds i true).getD j false)).length + (if i < m then 1 else 0) = ((List.range m).filter (fun j => !listed.getD j false)).length := by
    intro m
    induction m with
    | zero => intro _; simp
    | succ m ih =>
      intro hm
      rw [List.range_succ, List.filter_append, List.filter_append, List.length_append, List.length_append, ← ih (by omega)]
      by_cases him : i = m
      · subst him
        have h1 : (listed.setIfInBounds i true).getD i false = true := by
          have : i < listed.size := by omega
          simp [this]
        have a1 : ([i].filter (fun j => !(listed.setIfInBounds i true).getD j false)).length = 0 := by rw [List.filter_cons, h1]; rfl
        have a2 : ([i].filter (fun j => !listed.getD j false)).length = 1 := by rw [List.filter_cons, hl]; rfl
        rw [a1, a2, if_neg (Nat.lt_irrefl i), if_pos (Nat.lt_succ_self i)]
      · have a1 : ([m].filter (fun j => !(listed.setIfInBounds i true).getD j false)) = [m].filter (fun j => !listed.getD j false) := by
          rw [List.filter_cons, List.filter_cons, getD_set_ne false him]
          rfl
        rw [a1]
        by_cases h2 : i < m
        · rw [if_pos h2, if_pos (Nat.lt_succ_of_lt h2)]; omega
        · rw [if_neg h2, if_neg (by omega)]; omega
  have := key n (Nat.le_refl n)
  rw [if_pos hi] at this
  omega
theorem wpAny_mono {Q : Exit → Act → World → Prop} {a0 : Act} (hD : dstsB ops a0.tmps.size = true) (hsel : Region.noSelect ops = true)
    (hlex : ∀ i j oi oj, i < j → ops[i]? = some oi → ops[j]? = some oj → waits ops j i = true ∨ oi.apart ops oj = true)
    (hlt : ∀ i k, waits ops i k = true → k < i)
    (hstep : ∀ i o, ops[i]? = some o → ∀ L v w, J L v w → L i = false → (∀ j, waits ops i j = true → L j = true) → (∀ j, waits ops j i = true → L j = false) → wpList P ops (Only a0 o (fun u w' => J (setB L i) (setV v i u) w')) [o] (putN ops v a0 i) w)
    (hend : ∀ v w, J (fun j => decide (j < ops.size)) v w → Q .normal (putN ops v a0 ops.size) w) :
    ∀ (fuel : Nat) (listed : Array Bool) (a : Act) (w : World) (v : Nat → Value), listed.size = ops.size →
      (∀ j k, listed.getD j false = true → waits ops j k = true → listed.getD k false = true) → todo listed ops.size ≤ fuel →
      J (fun j => listed.getD j false) v w → Mix ops a0 (fun j => listed.getD j false) v a → wpAny P .any ops Q fuel listed a w := by
  have hunl : ∀ (listed : Array Bool) j, listed.size = ops.size → j < ops.size → listed.getD j true = listed.getD j false := fun listed j hs hj => by
    have : j < listed.size := by omega
    simp [this]
  have hdone : ∀ (listed : Array Bool) (a : Act) (w : World) (v : Nat → Value), listed.size = ops.size → (∀ j, j < ops.size → listed.getD j false = true) →
      J (fun j => listed.getD j false) v w → Mix ops a0 (fun j => listed.getD j false) v a → Q .normal a w := by
    intro listed a w v hs hall hj hm
    have hLL : (fun j => listed.getD j false) = fun j => decide (j < ops.size) := funext fun j => by
      by_cases h : j < ops.size
      · rw [hall j h, decide_eq_true h]
      · rw [decide_eq_false h]
        have : ¬ j < listed.size := by omega
        simp [this]
    rw [hLL] at hj hm
    rw [hm.same (Mix.putN v hD ops.size) hD rfl]
    exact hend v w hj
  -- where none may come up, all have
  have hstuck : ∀ (listed : Array Bool), listed.size = ops.size → Region.ready .any ops listed = [] → ∀ j, j < ops.size → listed.getD j false = true := by
    intro listed hs hr j
    induction j using Nat.strongRecOn with
    | ind j ih =>
      intro hj
      cases hlj : listed.getD j false with
      | true => rfl
      | false =>
        exfalso
        have : j ∈ Region.ready .any ops listed := by
          refine mem_ready.2 ⟨(hunl listed j hs hj).trans hlj, ops[j], by simp [hj], fun e he hb => ?_⟩
          have hk := hlt j e.on (waits_of (by simp [hj]) he hb)
          exact ih e.on hk (by omega)
        rw [hr] at this
        cases this
  intro fuel
  induction fuel with
  | zero =>
    intro listed a w v hs hdc hto hj hm
    have hall : ∀ j, j < ops.size → listed.getD j false = true := by
      intro j hjl
      cases hlj : listed.getD j false with
      | true => rfl
      | false =>
        have : j ∈ (List.range ops.size).filter (fun j => !listed.getD j false) := List.mem_filter.2 ⟨List.mem_range.2 hjl, by simp [hlj]⟩
        unfold todo at hto
        rw [List.length_eq_zero_iff.1 (Nat.le_zero.1 hto)] at this
        cases this
    refine ⟨?_, hdone listed a w v hs hall hj hm⟩
    apply List.eq_nil_iff_forall_not_mem.2
    intro i hi
    obtain ⟨h1, o, ho, _⟩ := mem_ready.1 hi
    have hil := (Array.getElem?_eq_some_iff.1 ho).1
    rw [hunl listed i hs hil, hall i hil] at h1
    cases h1
  | succ fuel ih =>
    intro listed a w v hs hdc hto hj hm
    refine ⟨fun h0 => hdone listed a w v hs (hstuck listed hs h0) hj hm, fun i hi => ?_⟩
    obtain ⟨h1, o, ho, hall⟩ := mem_ready.1 hi
    have hil := (Array.getElem?_eq_some_iff.1 ho).1
    rw [hunl listed i hs hil] at h1
    have hwi : ∀ j, waits ops i j = true → listed.getD j false = true := fun j hw => by
      obtain ⟨e, he, hb, rfl⟩ := of_waits ho hw
      exact hall e he hb
    have hp := Mix.putN (a0 := a0) v hD i
    -- what it looks at is the same in both frames
    have heq : ∀ t, t ∈ o.looksAt ops → a.tmps[t]? = (putN ops v a0 i).tmps[t]? := by
      intro t ht
      by_cases hx : ∃ j, dstOf ops j = some t
      · obtain ⟨j, hd⟩ := hx
        have htl := dst_lt hD hd
        have hjs : ∃ oj, ops[j]? = some oj ∧ oj.dst = some t := by
          unfold dstOf at hd
          cases hoj : ops[j]? with
          | none => rw [hoj] at hd; cases hd
          | some oj => rw [hoj] at hd; exact ⟨oj, rfl, hd⟩
        obtain ⟨oj, hoj, hdj⟩ := hjs
        rcases Nat.lt_trichotomy j i with hji | hji | hji
        · have hw : waits ops i j = true := by
            rcases hlex j i oj o hji hoj ho with h | h
            · exact h
            · exact absurd ht ((Oper.apart_spec h).1 t hdj)
          rw [hm.got j t (hwi j hw) hd htl, hp.got j t (by simp [hji]) hd htl]
        · subst hji
          rw [hm.kept t (fun m hmL hmd => by
            have := dst_ne hD hmd hd
            subst this
            rw [h1] at hmL
            cases hmL), hp.kept t (fun m hmL hmd => by
            have := dst_ne hD hmd hd
            subst this
            simp at hmL)]
        · have hlj : listed.getD j false = false := by
            cases hlj : listed.getD j false with
            | false => rfl
            | true =>
              rcases hlex i j o oj hji ho hoj with h | h
              · have := hdc j i hlj h
                rw [h1] at this
                cases this
              · exact absurd ht ((Oper.apart_spec h).2.2 t hdj)
          rw [hm.kept t (fun m hmL hmd => by
            have := dst_ne hD hmd hd
            subst this
            rw [hlj] at hmL
            cases hmL), hp.kept t (fun m hmL hmd => by
            have := dst_ne hD hmd hd
            subst this
            simp at hmL
            omega)]
      · rw [hm.kept t (fun m _ hmd => hx ⟨m, hmd⟩), hp.kept t (fun m _ hmd => hx ⟨m, hmd⟩)]
    have hex : execOp a.eval o = execOp (putN ops v a0 i).eval o := by
      refine execOp_congr o (fun cs b => Region.noSelect_spec hsel i o cs b ho) fun x hx => ?_
      cases x with
      | tmp t =>
        have ht : t ∈ o.looksAt ops := List.mem_append_left _ (List.mem_filterMap.2 ⟨.tmp t, by simpa using hx, rfl⟩)
        have := heq t ht
        simp only [Act.eval, Array.getD_eq_getD_getElem?, this]
      | _ => rfl
    have hwa : Region.wanted o (yielded ops a.tmps) = Region.wanted o (yielded ops (putN ops v a0 i).tmps) := by
      unfold Region.wanted
      cases hg : o.guard with
      | none => rfl
      | some gw =>
        obtain ⟨g, want⟩ := gw
        have hy : yielded ops a.tmps g = yielded ops (putN ops v a0 i).tmps g := by
          unfold yielded
          cases ht : (ops[g]?).bind (·.dst) with
          | none => rfl
          | some t =>
            have := heq t (by simp [Oper.looksAt, hg, ht])
            simp only [Option.bind_some, this]
        simp only [hy]
    refine wpOp_of_only ho hp.defers (fun d hd => ?_) hex hwa (hstep i o ho _ v w hj h1 hwi (fun j hw => by
      cases hlj : listed.getD j false with
      | false => rfl
      | true =>
        have := hdc j i hlj hw
        rw [h1] at this
        cases this)) fun u w' hu => ?_
    · rw [hp.size]
      exact dst_lt hD (show dstOf ops i = some d by unfold dstOf; rw [ho]; exact hd)
    · have hset : (fun j => (listed.setIfInBounds i true).getD j false) = setB (fun j => listed.getD j false) i := funext fun j => by
        unfold setB
        split
        · rename_i hji
          subst hji
          have : j < listed.size := by omega
          simp [this]
        · rename_i hji
          exact getD_set_ne false (Ne.symm hji)
      refine ih (listed.setIfInBounds i true) _ w' (setV v i u) (by simpa using hs) ?_ ?_ (by rw [hset]; exact hu) ?_
      · intro j k hjL hw
        by_cases hkj : k = i
        · subst hkj
          have : k < listed.size := by omega
          simp [this]
        · rw [getD_set_ne false (Ne.symm hkj)]
          by_cases hji : j = i
          · subst hji
            exact hwi k hw
          · rw [getD_set_ne false (Ne.symm hji)] at hjL
            exact hdc j k hjL hw
      · have := todo_set hil hs h1
        omega
      · rw [hset]
        have := hm.put hD i u
        unfold dstOf at this
        rw [ho] at this
        exact this
theorem region_mono {id : Nat} {Q : Exit → Act → World → Prop} {a0 : Act} {w : World} {l : List Oper} (J : (Nat → Bool) → (Nat → Value) → World → Prop)
    (hm : P.follows .mixedOrders = true) (hB : Region.lexB .any l.toArray = true) (hD : dstsB l.toArray a0.tmps.size = true)
    (h0 : J (fun _ => false) (fun _ => undef) w.drew)
    (hs : Steps P l.toArray a0 J (fun F => ∀ v w', J (fun j => decide (j < l.length)) v w' → Q .normal (F v) w') 0 l (fun _ => a0)) : (Code.region id l.toArray true).wp P Q a0 w := by
  simp only [Region.lexB, Bool.and_eq_true] at hB
  have hempty : ∀ j, (Array.replicate l.toArray.size false).getD j false = false := fun j => by
    simp [Array.getElem?_replicate]
    split <;> rfl
  have hl0 : ∀ j, j < l.toArray.size → (Array.replicate l.toArray.size false).getD j false = decide (j < 0) := fun j _ => by rw [hempty]; simp
  have hend := Steps.last l 0 (fun _ => a0) (fun j => by simp) (fun _ => rfl) hs
  rw [Nat.zero_add] at hend
  refine wp_region_any hm (wpAny_mono (J := J) hD hB.1 (fun i j oi oj hij => lex_apart l.toArray.size 0 _ (by simp) hl0 hB.2 (by omega) i j oi oj (Nat.zero_le _) hij)
    (fun i k => lex_waits l.toArray.size 0 _ (by simp) hl0 hB.2 (by omega) i k (Nat.zero_le _))
    (fun i o => Steps.get l 0 (fun _ => a0) (fun j => by simp) (fun _ => rfl) hs i o (Nat.zero_le _)) (fun v w' h => ?_) l.toArray.size _ a0 _ (fun _ => undef) (by simp) ?_ ?_ ?_ ?_)
  · simp only [List.size_toArray] at h ⊢
    exact hend v w' h
  · intro j k hj
    rw [hempty] at hj
    cases hj
  · unfold todo
    exact Nat.le_trans (List.length_filter_le _ _) (by simp)
  · rw [show (fun j => (Array.replicate l.toArray.size false).getD j false) = fun _ => false from funext hempty]
    exact h0
  · rw [show (fun j => (Array.replicate l.toArray.size false).getD j false) = fun _ => false from funext hempty]
    exact Mix.start a0 _
end
end Go.Proofs.Yteikhnmmkanndaa
namespace Go.Proofs.Yteikhnmmkanndaa
open Go.RowKit Go.Proofs.YteikhnmmkanndaaW.PrintWords
structure Keep (w w' : World) : Prop where
  size : w.heap.size ≤ w'.heap.size
  ints : ∀ p k n, w.cell? p = some (.int k n) → w'.cell? p = some (.int k n)
  rats : ∀ b cs, Blk w b 47 cs → 3 ≤ cs.size → Blk w' b 47 cs
theorem Keep.trans {a b c : World} (h : Keep a b) (k : Keep b c) : Keep a c := ⟨Nat.le_trans h.size k.size, fun p q n hp => k.ints p q n (h.ints p q n hp), fun p cs hp hs => k.rats p cs (h.rats p cs hp hs) hs⟩
theorem Keep.of_below {w w' : World} (h : Below w.heap.size w w') : Keep w w' := ⟨h.size, fun p _ _ hp => (h.cell (World.block_lt_of_cell? w p hp)).trans hp, fun _ _ hp _ => blk_below hp h⟩
def noInt : Value → Bool
  | .int _ _ => false
  | _ => true
theorem Keep.set {w : World} {g : Nat} {t : TypeId} {cs : Array Value} (h : Blk w g t cs) (o : Nat) (hn : (noInt (cs.getD o undef) && (t != 47 || Nat.ble cs.size 2)) = true) (u : Value) : Keep w (w.setCell ⟨g, o, none⟩ u) := by
  rw [Bool.and_eq_true] at hn
  refine ⟨by simp [World.setCell], fun p k n hp => ?_, fun b cs' hb hs => ?_⟩
  · by_cases he : p = ⟨g, o, none⟩
    · exfalso
      have hn := hn.1
      subst he
      rw [h.cell] at hp
      rw [Array.getD_eq_getD_getElem?, hp] at hn
      cases hn
    · rw [World.cell?_setCell_other w _ p u (fun e => he e.symm)]
      exact hp
  · refine hb.far ?_ u
    rintro rfl
    unfold Blk at h hb
    rw [h] at hb
    have e := Option.some.inj hb
    injection e with e1 e2 e3
    subst e1
    subst e2
    have := hn.2
    rw [Bool.or_eq_true] at this
    rcases this with h1 | h1
    · simp at h1
    · have := Nat.le_of_ble_eq_true h1
      omega
theorem N64.keep {w w' : World} {v : Value} {x : Nat} (h : N64 w v x) (k : Keep w w') : N64 w' v x := by
  obtain ⟨A, c, rfl, h1, h2, h3⟩ := h
  refine ⟨A, c, rfl, h1, h2, fun i hi => ?_⟩
  obtain ⟨b, o, hA, hlt, hc⟩ := h3 i hi
  exact ⟨b, o, hA, Nat.lt_of_lt_of_le hlt k.size, k.ints _ _ _ hc⟩
theorem V_keepI {w w' : World} {v : Value} {e : Nat} {kd : IntKind} {l : List Int} (h : Kd.V (Kd.int kd) e w 0 (fun _ => True) v l) (k : Keep w w') : Kd.V (Kd.int kd) e w' 0 (fun _ => True) v l := by
  obtain ⟨A, c, hv, hl, hf⟩ := h
  refine ⟨A, c, hv, hl, ?_⟩
  have hC : Kd.C (Kd.int kd) w A l.length l := Kd.F_now hf
  intro W' hW
  refine ⟨hC.1, hC.2.1, fun hn => ?_⟩
  obtain ⟨ad, hA, hc⟩ := hC.2.2 hn
  refine ⟨ad, hA, fun j p hj => ?_⟩
  obtain ⟨cs, hcl, hK, hcell⟩ := hc j p hj
  refine ⟨cs, hcl, hK, fun i u hu => ?_⟩
  have h1 := hcell i u hu
  have hcs : cs = [.int kd p] := hK
  have hu' : u = .int kd p := by
    rw [hcs] at hu
    match i, hu with
    | 0, hu => exact (Option.some.inj hu).symm
  rw [hu'] at h1 ⊢
  have h2 := k.ints _ _ _ h1
  have hlt := World.block_lt_of_cell? w' _ h2
  rw [World.cell?_of_block (w := w') (hW _ trivial hlt)]
  exact h2
theorem R256.keep {w w' : World} {v : Value} {x : Nat} (h : R256 w v x) (k : Keep w w') : R256 w' v x := V_keepI h k
structure Kept1 where
  holds : Value → World → Prop
  keeps : ∀ {v : Value} {w w' : World}, holds v w → Keep w w' → holds v w'
def Kept1.eq (u : Value) : Kept1 := ⟨fun v _ => v = u, fun h _ => h⟩
def Kept1.any : Kept1 := ⟨fun _ _ => True, fun h _ => h⟩
def Kept1.n (x : Nat) : Kept1 := ⟨fun v w => N64 w v x, fun h k => h.keep k⟩
def Kept1.r (x : Nat) : Kept1 := ⟨fun v w => R256 w v x, fun h k => h.keep k⟩
def Kept1.two (a b : Kept1) : Kept1 := ⟨fun v w => ∃ x y, v = .tuple #[x, y] ∧ a.holds x w ∧ b.holds y w, fun ⟨x, y, hv, h1, h2⟩ k => ⟨x, y, hv, a.keeps h1 k, b.keeps h2 k⟩⟩
structure Bx where
  at_ : Nat ⊕ Nat
  by_ : Nat
  ty : TypeId
  old : Array Value
  full : Array Value → World → Prop
  keeps : ∀ {cs : Array Value} {w w' : World}, full cs w → Keep w w' → full cs w'
def Bx.own (b : Bx) (L : Nat → Bool) (v : Nat → Value) (g : Nat) : Prop := match b.at_ with
  | .inl i => L i = true ∧ v i = .pointer (some ⟨g, 0, none⟩)
  | .inr r => g = r
def Bx.apart (b : Bx) (i : Nat) : Bool := (b.by_ != i) && (match b.at_ with | .inl j => j != i | .inr _ => true)
def oldsOf : List Bx → List Nat
  | [] => []
  | b :: bs => match b.at_ with
    | .inl _ => oldsOf bs
    | .inr r => r :: oldsOf bs
structure But (T : List Nat) (S0 w : World) : Prop where
  os : w.os = S0.os
  tape : w.tape = S0.tape
  output : w.output = S0.output
  size : S0.heap.size ≤ w.heap.size
  block : ∀ k, k < S0.heap.size → k ∉ T → w.heap[k]? = S0.heap[k]?
theorem But.below {S0 w : World} (h : But [] S0 w) : Below S0.heap.size S0 w := ⟨h.os, h.tape, h.output, h.size, fun k hk => h.block k hk (by simp)⟩
theorem But.start (T : List Nat) (w : World) : But T w w.drew := ⟨rfl, rfl, rfl, Nat.le_refl _, fun _ _ _ => rfl⟩
theorem But.then_ {T : List Nat} {S0 w w' : World} (h : But T S0 w) (k : Below w.heap.size w w') : But T S0 w' :=
  ⟨k.os.trans h.os, k.tape.trans h.tape, k.output.trans h.output, Nat.le_trans h.size k.size, fun j hj hT => (k.block j (Nat.lt_of_lt_of_le hj h.size)).trans (h.block j hj hT)⟩
theorem But.blk {T : List Nat} {S0 w : World} {g : Nat} {t : TypeId} {cs : Array Value} (h : But T S0 w) (hb : Blk S0 g t cs) (hT : g ∉ T) : Blk w g t cs := (h.block g hb.lt hT).trans hb
structure One (g : Nat) (w w' : World) : Prop where
  os : w'.os = w.os
  tape : w'.tape = w.tape
  output : w'.output = w.output
  size : w'.heap.size = w.heap.size
  block : ∀ k, k ≠ g → w'.heap[k]? = w.heap[k]?
theorem One.set (w : World) (g o : Nat) (u : Value) : One g w (w.setCell ⟨g, o, none⟩ u) := ⟨rfl, rfl, rfl, by simp [World.setCell], fun k hk => Below.heap_setCell w _ u k hk⟩
theorem One.trans {g : Nat} {a b c : World} (h : One g a b) (k : One g b c) : One g a c := ⟨k.os.trans h.os, k.tape.trans h.tape, k.output.trans h.output, k.size.trans h.size, fun j hj => (k.block j hj).trans (h.block j hj)⟩
theorem But.one {T : List Nat} {S0 w w' : World} {g : Nat} (h : But T S0 w) (k : One g w w') (hg : g ∈ T ∨ S0.heap.size ≤ g) : But T S0 w' :=
  ⟨k.os.trans h.os, k.tape.trans h.tape, k.output.trans h.output, by rw [k.size]; exact h.size, fun j hj hT => (k.block j (by
    rintro rfl
    rcases hg with hg | hg
    · exact hT hg
    · omega)).trans (h.block j hj hT)⟩
structure Held (S0 : World) (A : Nat → Kept1) (bs : List Bx) (L : Nat → Bool) (v : Nat → Value) (w : World) : Prop where
  but : But (oldsOf bs) S0 w
  keep : Keep S0 w
  facts : ∀ j, L j = true → (A j).holds (v j) w
  is : ∀ b ∈ bs, ∀ i, b.at_ = .inl i → L i = true → ∃ g, v i = .pointer (some ⟨g, 0, none⟩) ∧ S0.heap.size ≤ g
  ord : ∀ b ∈ bs, ∀ i, b.at_ = .inl i → L b.by_ = true → L i = true
  boxes : ∀ b ∈ bs, ∀ g, b.own L v g → if L b.by_ = true then ∃ cs, Blk w g b.ty cs ∧ b.full cs w else Blk w g b.ty b.old
  apart : bs.Pairwise (fun b b' => ∀ g, b.own L v g → b'.own L v g → False)
section
variable {S0 : World} {A : Nat → Kept1} {bs : List Bx} {L : Nat → Bool} {v : Nat → Value} {w w' : World} {i : Nat} {u : Value}
theorem setB_ne {j : Nat} (h : j ≠ i) : setB L i j = L j := if_neg h
theorem setB_self : setB L i i = true := if_pos rfl
theorem setV_ne {j : Nat} (h : j ≠ i) : setV v i u j = v j := if_neg h
theorem setV_self : setV v i u i = u := if_pos rfl
theorem Bx.apart_by {b : Bx} (h : b.apart i = true) : b.by_ ≠ i := by
  unfold Bx.apart at h
  rw [Bool.and_eq_true] at h
  exact bne_iff_ne.1 h.1
theorem Bx.apart_at {b : Bx} (h : b.apart i = true) {j : Nat} (hj : b.at_ = .inl j) : j ≠ i := by
  unfold Bx.apart at h
  rw [Bool.and_eq_true, hj] at h
  exact bne_iff_ne.1 h.2
theorem Bx.own_inl {b : Bx} {j g : Nat} (h : b.at_ = .inl j) : b.own L v g ↔ (L j = true ∧ v j = .pointer (some ⟨g, 0, none⟩)) := by unfold Bx.own; rw [h]
theorem Bx.own_inr {b : Bx} {r g : Nat} (h : b.at_ = .inr r) : b.own L v g ↔ g = r := by unfold Bx.own; rw [h]
theorem Bx.own_of {b : Bx} {g : Nat} (h : b.own (setB L i) (setV v i u) g) (hi : ∀ j, b.at_ = .inl j → j ≠ i) : b.own L v g := by
  cases hb : b.at_ with
  | inl j =>
    rw [Bx.own_inl hb] at h ⊢
    have := hi j hb
    rw [setB_ne this, setV_ne this] at h
    exact h
  | inr r => rw [Bx.own_inr hb] at h ⊢; exact h
theorem Held.start (A : Nat → Kept1) (bs : List Bx) (S0 : World) (hold : ∀ b ∈ bs, ∀ r, b.at_ = .inr r → Blk S0 r b.ty b.old)
    (hne : bs.Pairwise (fun b b' => ∀ r r', b.at_ = .inr r → b'.at_ = .inr r' → r ≠ r')) : Held S0 A bs (fun _ => false) (fun _ => undef) S0.drew := by
  refine ⟨But.start _ _, Keep.of_below (Below.refl _ _).drew, fun _ h => absurd h (by simp), fun _ _ _ _ h => absurd h (by simp), fun _ _ _ _ h => absurd h (by simp), fun b hb g hg => ?_, hne.imp fun {b b'} h g hg hg' => ?_⟩
  · rw [if_neg (by simp)]
    cases hat : b.at_ with
    | inl j => rw [Bx.own_inl hat] at hg; exact absurd hg.1 (by simp)
    | inr r => rw [Bx.own_inr hat] at hg; subst hg; exact hold b hb g hat
  · cases hat : b.at_ with
    | inl j => rw [Bx.own_inl hat] at hg; exact absurd hg.1 (by simp)
    | inr r =>
      cases hat' : b'.at_ with
      | inl j => rw [Bx.own_inl hat'] at hg'; exact absurd hg'.1 (by simp)
      | inr r' => rw [Bx.own_inr hat] at hg; rw [Bx.own_inr hat'] at hg'; exact h r r' hat hat' (hg.symm.trans hg')
theorem Held.call (h : Held S0 A bs L v w) (hL : L i = false) (hap : (bs.all fun b => b.apart i) = true) (hb : Below w.heap.size w w') (hA : (A i).holds u w') : Held S0 A bs (setB L i) (setV v i u) w' := by
  have hk := Keep.of_below hb
  have hap' : ∀ b ∈ bs, b.apart i = true := fun b hm => List.all_eq_true.1 hap b hm
  refine ⟨h.but.then_ hb, h.keep.trans hk, fun j hj => ?_, fun b hm j hat hj => ?_, fun b hm j hat hj => ?_, fun b hm g hg => ?_, ?_⟩
  · by_cases hji : j = i
    · subst hji
      rw [setV_self]
      exact hA
    · rw [setB_ne hji] at hj
      rw [setV_ne hji]
      exact (A j).keeps (h.facts j hj) hk
  · have hji := Bx.apart_at (hap' b hm) hat
    rw [setB_ne hji] at hj
    rw [setV_ne hji]
    exact h.is b hm j hat hj
  · rw [setB_ne (Bx.apart_by (hap' b hm))] at hj
    rw [setB_ne (Bx.apart_at (hap' b hm) hat)]
    exact h.ord b hm j hat hj
  · rw [setB_ne (Bx.apart_by (hap' b hm))]
    have h1 := h.boxes b hm g (Bx.own_of hg fun j hj => Bx.apart_at (hap' b hm) hj)
    split
    · rename_i hx
      rw [if_pos hx] at h1
      obtain ⟨cs, hblk, hf⟩ := h1
      exact ⟨cs, blk_below hblk hb, b.keeps hf hk⟩
    · rename_i hx
      rw [if_neg hx] at h1
      exact blk_below h1 hb
  · refine List.Pairwise.imp_of_mem ?_ h.apart
    intro b b' hm hm' hp g hg hg'
    exact hp g (Bx.own_of hg fun j hj => Bx.apart_at (hap' b hm) hj) (Bx.own_of hg' fun j hj => Bx.apart_at (hap' b' hm') hj)
theorem Bx.own_lt (h : Held S0 A bs L v w) {b : Bx} (hm : b ∈ bs) {g : Nat} (hg : b.own L v g) : g < w.heap.size := by
  have h1 := h.boxes b hm g hg
  split at h1
  · obtain ⟨cs, hb, _⟩ := h1; exact hb.lt
  · exact h1.lt
theorem Held.made (h : Held S0 A bs L v w) (hL : L i = false) (b0 : Bx) (hm0 : b0 ∈ bs) (hat : b0.at_ = .inl i) (hone : ∀ b ∈ bs, b.at_ = .inl i → b = b0) (hby : ∀ b ∈ bs, b.by_ ≠ i)
    (hA : (A i).holds (.pointer (some ⟨w.heap.size, 0, none⟩)) (w.alloc (.cells b0.old b0.ty))) (hpw : bs.Pairwise (fun b b' => b = b0 → b' = b0 → False)) :
    Held S0 A bs (setB L i) (setV v i (.pointer (some ⟨w.heap.size, 0, none⟩))) (w.alloc (.cells b0.old b0.ty)) := by
  have hb := cba (Below.refl w.heap.size w) (.cells b0.old b0.ty)
  have hk := Keep.of_below hb
  have hown : ∀ b ∈ bs, ∀ g, b ≠ b0 → b.own (setB L i) (setV v i (.pointer (some ⟨w.heap.size, 0, none⟩))) g → b.own L v g := fun b hm g hne hg => Bx.own_of hg fun j hj hji => hne (hone b hm (by rw [hj, hji]))
  have hown0 : ∀ g, b0.own (setB L i) (setV v i (.pointer (some ⟨w.heap.size, 0, none⟩))) g → g = w.heap.size := fun g hg => by
    rw [Bx.own_inl hat] at hg
    have := hg.2
    rw [setV_self] at this
    have e := Value.pointer.inj this
    have e2 := congrArg Addr.block (Option.some.inj e)
    exact e2.symm
  refine ⟨h.but.then_ hb, h.keep.trans hk, fun j hj => ?_, fun b hm j hj hLj => ?_, fun b hm j hj hLj => ?_, fun b hm g hg => ?_, ?_⟩
  · by_cases hji : j = i
    · subst hji
      rw [setV_self]
      exact hA
    · rw [setB_ne hji] at hj
      rw [setV_ne hji]
      exact (A j).keeps (h.facts j hj) hk
  · by_cases hji : j = i
    · subst hji
      rw [setV_self]
      exact ⟨_, rfl, h.but.size⟩
    · rw [setB_ne hji] at hLj
      rw [setV_ne hji]
      exact h.is b hm j hj hLj
  · by_cases hji : j = i
    · subst hji; exact setB_self
    · rw [setB_ne hji]
      rw [setB_ne (hby b hm)] at hLj
      exact h.ord b hm j hj hLj
  · rw [setB_ne (hby b hm)]
    by_cases hb0 : b = b0
    · subst hb0
      have hg' := hown0 g hg
      subst hg'
      have hnot : ¬ L b.by_ = true := fun hx => by
        have := h.ord b hm i hat hx
        rw [hL] at this
        cases this
      rw [if_neg hnot]
      exact Blk.new w _ _
    · have h1 := h.boxes b hm g (hown b hm g hb0 hg)
      split
      · rename_i hx
        rw [if_pos hx] at h1
        obtain ⟨cs, hblk, hf⟩ := h1
        exact ⟨cs, blk_below hblk hb, b.keeps hf hk⟩
      · rename_i hx
        rw [if_neg hx] at h1
        exact blk_below h1 hb
  · refine List.Pairwise.imp_of_mem ?_ (h.apart.and hpw)
    intro b b' hm hm' ⟨hp, hp0⟩ g hg hg'
    by_cases h1 : b = b0
    · by_cases h2 : b' = b0
      · exact hp0 h1 h2
      · subst h1
        have e := hown0 g hg
        have := Bx.own_lt h hm' (hown b' hm' g h2 hg')
        omega
    · by_cases h2 : b' = b0
      · subst h2
        have e := hown0 g hg'
        have := Bx.own_lt h hm (hown b hm g h1 hg)
        omega
      · exact hp g (hown b hm g h1 hg) (hown b' hm' g h2 hg')
theorem Held.filled (h : Held S0 A bs L v w) (b0 : Bx) (hm0 : b0 ∈ bs) (hby : b0.by_ = i) (hat : ∀ b ∈ bs, ∀ j, b.at_ = .inl j → j ≠ i) (hone : ∀ b ∈ bs, b ≠ b0 → b.by_ ≠ i) (g : Nat) (hg : b0.own L v g)
    (hst : (∀ j, b0.at_ = .inl j → L j = true)) (ho : One g w w') (hk : Keep w w') {cs : Array Value} (hblk : Blk w' g b0.ty cs) (hf : b0.full cs w') (hA : (A i).holds u w') (hpw : bs.Pairwise (fun b b' => b = b0 → b' = b0 → False)) :
    Held S0 A bs (setB L i) (setV v i u) w' := by
  have hgT : g ∈ oldsOf bs ∨ S0.heap.size ≤ g := by
    cases hb : b0.at_ with
    | inl j =>
      obtain ⟨g', hg', hge⟩ := h.is b0 hm0 j hb (hst j hb)
      rw [Bx.own_inl hb] at hg
      rw [hg.2] at hg'
      have e := congrArg Addr.block (Option.some.inj (Value.pointer.inj hg'))
      right
      rw [show g = g' from e]
      exact hge
    | inr r =>
      left
      rw [Bx.own_inr hb] at hg
      subst hg
      clear h hblk hf hA hpw hone hat hst
      induction bs with
      | nil => cases hm0
      | cons x xs ih =>
        unfold oldsOf
        rcases List.mem_cons.1 hm0 with rfl | hm
        · rw [hb]; exact List.mem_cons_self
        · cases hx : x.at_ with
          | inl _ => exact ih hm
          | inr _ => exact List.mem_cons_of_mem _ (ih hm)
  have hown : ∀ b ∈ bs, ∀ g, b.own (setB L i) (setV v i u) g → b.own L v g := fun b hm g hg => Bx.own_of hg fun j hj => hat b hm j hj
  refine ⟨h.but.one ho hgT, h.keep.trans hk, fun j hj => ?_, fun b hm j hj hLj => ?_, fun b hm j hj hLj => ?_, fun b hm g' hg' => ?_, ?_⟩
  · by_cases hji : j = i
    · subst hji
      rw [setV_self]
      exact hA
    · rw [setB_ne hji] at hj
      rw [setV_ne hji]
      exact (A j).keeps (h.facts j hj) hk
  · have hji := hat b hm j hj
    rw [setB_ne hji] at hLj
    rw [setV_ne hji]
    exact h.is b hm j hj hLj
  · rw [setB_ne (hat b hm j hj)]
    by_cases hb0 : b = b0
    · subst hb0
      exact hst j hj
    · rw [setB_ne (hone b hm hb0)] at hLj
      exact h.ord b hm j hj hLj
  · have hgo := hown b hm g' hg'
    by_cases hb0 : b = b0
    · subst hb0
      have e : g' = g := by
        cases hb : b.at_ with
        | inl j =>
          rw [Bx.own_inl hb] at hgo hg
          have h1 := hgo.2
          rw [hg.2] at h1
          exact (congrArg Addr.block (Option.some.inj (Value.pointer.inj h1))).symm
        | inr r => rw [Bx.own_inr hb] at hgo hg; exact hgo.trans hg.symm
      subst e
      rw [hby, setB_self, if_pos rfl]
      exact ⟨cs, hblk, hf⟩
    · rw [setB_ne (hone b hm hb0)]
      have hne : g' ≠ g := by
        rintro rfl
        have : ∀ (bs : List Bx), bs.Pairwise (fun b b' => ∀ g, b.own L v g → b'.own L v g → False) → b ∈ bs → b0 ∈ bs → False := by
          intro bs
          induction bs with
          | nil => intro _ hm _; cases hm
          | cons x xs ih =>
            intro hpw hm hm0
            obtain ⟨hx, hxs⟩ := List.pairwise_cons.1 hpw
            rcases List.mem_cons.1 hm with rfl | hm1
            · rcases List.mem_cons.1 hm0 with rfl | hm2
              · exact hb0 rfl
              · exact hx _ hm2 g' hgo hg
            · rcases List.mem_cons.1 hm0 with rfl | hm2
              · exact hx _ hm1 g' hg hgo
              · exact ih hxs hm1 hm2
        exact this bs h.apart hm hm0
      have h1 := h.boxes b hm g' hgo
      split
      · rename_i hx
        rw [if_pos hx] at h1
        obtain ⟨cs', hblk', hf'⟩ := h1
        exact ⟨cs', (ho.block g' hne).trans hblk', b.keeps hf' hk⟩
      · rename_i hx
        rw [if_neg hx] at h1
        exact (ho.block g' hne).trans h1
  · refine List.Pairwise.imp_of_mem ?_ h.apart
    intro b b' hm hm' hp g hg hg'
    exact hp g (hown b hm g hg) (hown b' hm' g hg')
end
def Dn (x d : Nat) : Prop := (x = d ∧ 0 < d) ∨ (x = 0 ∧ d = 1)
theorem Dn.pos {x d : Nat} (h : Dn x d) : 0 < d := by rcases h with ⟨_, h⟩ | ⟨_, h⟩ <;> omega
def F64 (w : World) (v : Value) (n d : Nat) : Prop := ∃ A p c B q e x, v = .agg #[.slice A p c, .slice B q e] ∧ N64 w (.agg #[.slice A p c]) n ∧ N64 w (.agg #[.slice B q e]) x ∧ Dn x d
theorem F64.keep {w w' : World} {v : Value} {n d : Nat} (h : F64 w v n d) (k : Keep w w') : F64 w' v n d := by
  obtain ⟨A, p, c, B, q, e, x, hv, h1, h2, h3⟩ := h
  exact ⟨A, p, c, B, q, e, x, hv, h1.keep k, h2.keep k, h3⟩
theorem F64.below {w w' : World} {v : Value} {n d : Nat} (h : F64 w v n d) (hb : Below w.heap.size w w') : F64 w' v n d := h.keep (Keep.of_below hb)
def RF (w : World) (v : Value) (n d : Nat) : Prop := ∃ A p c B q e, v = .agg #[.slice A p c, .slice B q e] ∧ R256 w (.slice A p c) n ∧ R256 w (.slice B q e) d
theorem RF.keep {w w' : World} {v : Value} {n d : Nat} (h : RF w v n d) (k : Keep w w') : RF w' v n d := by
  obtain ⟨A, p, c, B, q, e, hv, h1, h2⟩ := h
  exact ⟨A, p, c, B, q, e, hv, h1.keep k, h2.keep k⟩
theorem RF.below {w w' : World} {v : Value} {n d : Nat} (h : RF w v n d) (hb : Below w.heap.size w w') : RF w' v n d := h.keep (Keep.of_below hb)
def Kept1.f (n d : Nat) : Kept1 := ⟨fun v w => F64 w v n d, fun h k => h.keep k⟩
def Kept1.rf (n d : Nat) : Kept1 := ⟨fun v w => RF w v n d, fun h k => h.keep k⟩
def MkF (w : World) (n d : Nat) : Ending → World → Prop := fun e w' => ∃ v, e = .returned v ∧ F64 w' v n d ∧ Below w.heap.size w w'
def MkR (w : World) (n d : Nat) : Ending → World → Prop := fun e w' => ∃ v, e = .returned v ∧ RF w' v n d ∧ Below w.heap.size w w'
def Bx.nat (at_ : Nat ⊕ Nat) (by_ : Nat) (old : Array Value) (x : Nat) : Bx := ⟨at_, by_, 26, old, fun cs w => ∃ A c, cs = #[.slice A (wl 64 x) c] ∧ N64 w (.agg cs) x, fun ⟨A, c, h1, h2⟩ k => ⟨A, c, h1, h2.keep k⟩⟩
def Bx.rat (at_ : Nat ⊕ Nat) (by_ : Nat) (old : Array Value) (n d : Nat) : Bx := ⟨at_, by_, 47, old, fun cs w => F64 w (.agg cs) n d, fun h k => h.keep k⟩
def Bx.ref (at_ : Nat ⊕ Nat) (by_ : Nat) (old : Array Value) (n d : Nat) : Bx := ⟨at_, by_, 52, old, fun cs w => RF w (.agg cs) n d, fun h k => h.keep k⟩
def BoxF (w : World) (g n d : Nat) : Prop := ∃ A p c B q e, Blk w g 47 #[.slice A p c, .slice B q e] ∧ F64 w (.agg #[.slice A p c, .slice B q e]) n d
theorem BoxF.below {w w' : World} {g n d : Nat} (h : BoxF w g n d) (hb : Below w.heap.size w w') : BoxF w' g n d := by
  obtain ⟨A, p, c, B, q, e, hk, hn⟩ := h
  exact ⟨A, p, c, B, q, e, blk_below hk hb, hn.below hb⟩
def Bx.makes (b : Bx) (k : Nat) : Bool := match b.at_ with | .inl j => j == k | .inr _ => false
theorem Bx.makes_iff {b : Bx} {k : Nat} : b.makes k = true ↔ b.at_ = .inl k := by
  unfold Bx.makes
  cases b.at_ with
  | inl j => simp
  | inr r => simp
theorem pairwise_of_one {f : Bx → Bool} : ∀ (bs : List Bx), (bs.filter f).length ≤ 1 → bs.Pairwise (fun b b' => f b = true → f b' = true → False)
  | [], _ => List.Pairwise.nil
  | b :: bs, h => by
    refine List.Pairwise.cons (fun b' hb' hf hf' => ?_) (pairwise_of_one bs ?_)
    · rw [List.filter_cons, if_pos hf, List.length_cons] at h
      have : b' ∈ bs.filter f := List.mem_filter.2 ⟨hb', hf'⟩
      rw [List.length_eq_zero_iff.1 (show (bs.filter f).length = 0 by omega)] at this
      cases this
    · rw [List.filter_cons] at h
      split at h
      · rw [List.length_cons] at h; omega
      · exact h
theorem one_of_one {f : Bx → Bool} (bs : List Bx) (h : (bs.filter f).length ≤ 1) {b b' : Bx} (hb : b ∈ bs) (hb' : b' ∈ bs) (hf : f b = true) (hf' : f b' = true) : b = b' := by
  have h1 : b ∈ bs.filter f := List.mem_filter.2 ⟨hb, hf⟩
  have h2 : b' ∈ bs.filter f := List.mem_filter.2 ⟨hb', hf'⟩
  match hl : bs.filter f, h1, h2, h with
  | [], h1, _, _ => cases h1
  | [x], h1, h2, _ => rw [List.mem_singleton.1 h1, List.mem_singleton.1 h2]
  | x :: y :: r, _, _, h => simp at h
structure Amid (S0 : World) (A : Nat → Kept1) (bs : List Bx) (ops : Array Oper) (k : Nat) (L : Nat → Bool) (v : Nat → Value) (w : World) : Prop where
  held : Held S0 A bs L v w
  new : L k = false
  deps : ∀ j, waits ops k j = true → L j = true
  later : ∀ j, waits ops j k = true → L j = false
section
variable {P : Program} {ops : Array Oper} {E : ((Nat → Value) → Act) → Prop} {S0 : World} {A : Nat → Kept1} {bs : List Bx} {L : Nat → Bool} {v : Nat → Value} {w w' : World} {k : Nat} {u : Value}
theorem Steps.held {a0 : Act} {o : Oper} {r : List Oper} {F : (Nat → Value) → Act}
    (h : ∀ L v w, Hid (Amid S0 A bs ops k L v w) → wpList P ops (Only a0 o (fun u w' => Held S0 A bs (setB L k) (setV v k u) w')) [o] (F v) w)
    (h2 : Steps P ops a0 (Held S0 A bs) E (k + 1) r (fun v => (F v).put o.dst (v k))) : Steps P ops a0 (Held S0 A bs) E k (o :: r) F :=
  Steps.cons (fun L v w h1 h2 h3 h4 => h L v w (Lib.hid ⟨h1, h2, h3, h4⟩)) h2
theorem Amid.fact (h : Amid S0 A bs ops k L v w) (j : Nat) (hw : waits ops k j = true) : (A j).holds (v j) w := h.held.facts j (h.deps j hw)
theorem Amid.blk (h : Amid S0 A bs ops k L v w) {g : Nat} {t : TypeId} {cs : Array Value} (hb : Blk S0 g t cs) (hT : g ∉ oldsOf bs) : Blk w g t cs := h.held.but.blk hb hT
theorem Amid.yet (h : Amid S0 A bs ops k L v w) (p : Nat) (b0 : Bx) (hp : bs[p]? = some b0) (r : Nat) (hat : b0.at_ = .inr r) (hw : waits ops b0.by_ k = true) : Blk w r b0.ty b0.old := by
  have := h.held.boxes b0 (List.mem_of_getElem? hp) r ((Bx.own_inr hat).2 rfl)
  rw [h.later _ hw] at this
  exact this
theorem Amid.call (h : Amid S0 A bs ops k L v w) (hap : (bs.all fun b => b.apart k) = true) (hb : Below w.heap.size w w') (hA : (A k).holds u w') : Held S0 A bs (setB L k) (setV v k u) w' := h.held.call h.new hap hb hA
theorem Amid.same (h : Amid S0 A bs ops k L v w) (hap : (bs.all fun b => b.apart k) = true) (hA : (A k).holds u w) : Held S0 A bs (setB L k) (setV v k u) w := h.held.call h.new hap (Below.refl _ _) hA
theorem Amid.made (h : Amid S0 A bs ops k L v w) (p : Nat) (b0 : Bx) (hp : bs[p]? = some b0) (hat : b0.at_ = .inl k) (hB : ((bs.filter fun b => b.makes k).length == 1 && bs.all fun b => b.by_ != k) = true)
    (hA : (A k).holds (.pointer (some ⟨w.heap.size, 0, none⟩)) (w.alloc (.cells b0.old b0.ty))) :
    Held S0 A bs (setB L k) (setV v k (.pointer (some ⟨w.heap.size, 0, none⟩))) (w.alloc (.cells b0.old b0.ty)) := by
  rw [Bool.and_eq_true, beq_iff_eq] at hB
  have hle : (bs.filter fun b => b.makes k).length ≤ 1 := by omega
  have hm := List.mem_of_getElem? hp
  exact h.held.made h.new b0 hm hat (fun b hb hb2 => one_of_one bs hle hb hm (Bx.makes_iff.2 hb2) (Bx.makes_iff.2 hat))
    (fun b hb => bne_iff_ne.1 (List.all_eq_true.1 hB.2 b hb)) hA ((pairwise_of_one bs hle).imp fun {b b'} hx hb hb' => hx (Bx.makes_iff.2 (by rw [hb, hat])) (Bx.makes_iff.2 (by rw [hb', hat])))
theorem Amid.filled_ (h : Amid S0 A bs ops k L v w) (p : Nat) (b0 : Bx) (hp : bs[p]? = some b0) (hby : b0.by_ = k) (hB : ((bs.filter fun b => b.by_ == k).length == 1 && bs.all fun b => !b.makes k) = true)
    (g : Nat) (hg : b0.own L v g) (hst : ∀ j, b0.at_ = .inl j → L j = true) (ho : One g w w') (hk : Keep w w') {cs : Array Value} (hblk : Blk w' g b0.ty cs) (hf : b0.full cs w') (hA : (A k).holds u w') : Held S0 A bs (setB L k) (setV v k u) w' := by
  rw [Bool.and_eq_true, beq_iff_eq] at hB
  have hle : (bs.filter fun b => b.by_ == k).length ≤ 1 := by omega
  have hm := List.mem_of_getElem? hp
  exact h.held.filled b0 hm hby (fun b hb j hj hji => by
      have := List.all_eq_true.1 hB.2 b hb
      rw [Bx.makes_iff.2 (by rw [hj, hji])] at this
      cases this)
    (fun b hb hne hbk => hne (one_of_one bs hle hb hm (by rw [hbk]; exact beq_self_eq_true _) (by rw [hby]; exact beq_self_eq_true _))) g hg hst ho hk hblk hf hA
    ((pairwise_of_one bs hle).imp fun {b b'} hx hb hb' => hx (by rw [hb, hby]; exact beq_self_eq_true _) (by rw [hb', hby]; exact beq_self_eq_true _))
theorem Amid.box (h : Amid S0 A bs ops k L v w) (p : Nat) (b0 : Bx) (hp : bs[p]? = some b0) (hby : b0.by_ = k) (g : Nat) (hg : b0.own L v g) : Blk w g b0.ty b0.old := by
  have := h.held.boxes b0 (List.mem_of_getElem? hp) g hg
  rw [hby, h.new] at this
  exact this
theorem Amid.newbox (h : Amid S0 A bs ops k L v w) (p : Nat) (b0 : Bx) (hp : bs[p]? = some b0) (j : Nat) (hat : b0.at_ = .inl j) (hw : waits ops k j = true) :
    ∃ g, v j = .pointer (some ⟨g, 0, none⟩) ∧ S0.heap.size ≤ g ∧ b0.own L v g ∧ ∀ i, b0.at_ = .inl i → L i = true := by
  obtain ⟨g, hg, hge⟩ := h.held.is b0 (List.mem_of_getElem? hp) j hat (h.deps j hw)
  exact ⟨g, hg, hge, (Bx.own_inl hat).2 ⟨h.deps j hw, hg⟩, fun i hi => by rw [hat] at hi; cases hi; exact h.deps j hw⟩
theorem Amid.oldbox (_ : Amid S0 A bs ops k L v w) (p : Nat) (b0 : Bx) (_ : bs[p]? = some b0) (r : Nat) (hat : b0.at_ = .inr r) : b0.own L v r ∧ ∀ i, b0.at_ = .inl i → L i = true :=
  ⟨(Bx.own_inr hat).2 rfl, fun i hi => by rw [hat] at hi; cases hi⟩
theorem Held.end_new {n : Nat} (h : Held S0 A bs (fun j => decide (j < n)) v w) (p : Nat) (b0 : Bx) (hp : bs[p]? = some b0) (j : Nat) (hat : b0.at_ = .inl j) (hj : j < n) (hby : b0.by_ < n) :
    ∃ g cs, v j = .pointer (some ⟨g, 0, none⟩) ∧ S0.heap.size ≤ g ∧ Blk w g b0.ty cs ∧ b0.full cs w := by
  have hm := List.mem_of_getElem? hp
  obtain ⟨g, hg, hge⟩ := h.is b0 hm j hat (decide_eq_true hj)
  have := h.boxes b0 hm g ((Bx.own_inl hat).2 ⟨decide_eq_true hj, hg⟩)
  rw [if_pos (decide_eq_true hby)] at this
  obtain ⟨cs, h1, h2⟩ := this
  exact ⟨g, cs, hg, hge, h1, h2⟩
theorem Held.end_old {n : Nat} (h : Held S0 A bs (fun j => decide (j < n)) v w) (p : Nat) (b0 : Bx) (hp : bs[p]? = some b0) (r : Nat) (hat : b0.at_ = .inr r) (hby : b0.by_ < n) : ∃ cs, Blk w r b0.ty cs ∧ b0.full cs w := by
  have := h.boxes b0 (List.mem_of_getElem? hp) r ((Bx.own_inr hat).2 rfl)
  rw [if_pos (decide_eq_true hby)] at this
  exact this
theorem Held.end_fact {n : Nat} (h : Held S0 A bs (fun j => decide (j < n)) v w) (j : Nat) (hj : j < n) : (A j).holds (v j) w := h.facts j (decide_eq_true hj)
theorem Amid.fill2 (h : Amid S0 A bs ops k L v w) (p : Nat) (b0 : Bx) (hp : bs[p]? = some b0) (hby : b0.by_ = k) (hB : ((bs.filter fun b => b.by_ == k).length == 1 && bs.all fun b => !b.makes k) = true)
    (g : Nat) (hg : b0.own L v g) (hst : ∀ j, b0.at_ = .inl j → L j = true) (x y : Value) {o1 o2 : Value} (hold : b0.old = #[o1, o2]) (h1 : noInt o1 = true) (h2 : noInt o2 = true)
    (hf : ∀ W, Keep w W → b0.full #[x, y] W) (hA : ∀ W, (A k).holds u W) : Held S0 A bs (setB L k) (setV v k u) ((w.setCell ⟨g, 0, none⟩ x).setCell ⟨g, 1, none⟩ y) := by
  have hb := h.box p b0 hp hby g hg
  rw [hold] at hb
  have hb1 := hb.set_ 0 x
  have hb2 := hb1.set_ 1 y
  have k1 : Keep w (w.setCell ⟨g, 0, none⟩ x) := Keep.set hb 0 (by rw [Bool.and_eq_true]; exact ⟨h1, by rw [Bool.or_eq_true]; exact .inr rfl⟩) x
  have k2 : Keep (w.setCell ⟨g, 0, none⟩ x) ((w.setCell ⟨g, 0, none⟩ x).setCell ⟨g, 1, none⟩ y) := Keep.set hb1 1 (by rw [Bool.and_eq_true]; exact ⟨h2, by rw [Bool.or_eq_true]; exact .inr rfl⟩) y
  exact h.filled_ p b0 hp hby hB g hg hst ((One.set w g 0 x).trans (One.set _ g 1 y)) (k1.trans k2) hb2 (hf _ (k1.trans k2)) (hA _)
theorem Amid.fill1 (h : Amid S0 A bs ops k L v w) (p : Nat) (b0 : Bx) (hp : bs[p]? = some b0) (hby : b0.by_ = k) (hB : ((bs.filter fun b => b.by_ == k).length == 1 && bs.all fun b => !b.makes k) = true)
    (g : Nat) (hg : b0.own L v g) (hst : ∀ j, b0.at_ = .inl j → L j = true) (x : Value) {o1 : Value} (hold : b0.old = #[o1]) (h1 : noInt o1 = true)
    (hf : ∀ W, Keep w W → b0.full #[x] W) (hA : ∀ W, (A k).holds u W) : Held S0 A bs (setB L k) (setV v k u) (w.setCell ⟨g, 0, none⟩ x) := by
  have hb := h.box p b0 hp hby g hg
  rw [hold] at hb
  have hb1 := hb.set_ 0 x
  have k1 : Keep w (w.setCell ⟨g, 0, none⟩ x) := Keep.set hb 0 (by rw [Bool.and_eq_true]; exact ⟨h1, by rw [Bool.or_eq_true]; exact .inr rfl⟩) x
  exact h.filled_ p b0 hp hby hB g hg hst (One.set w g 0 x) k1 hb1 (hf _ k1) (hA _)
end
end Go.Proofs.Yteikhnmmkanndaa
namespace Go.Proofs.Yteikhnmmkanndaa
open Go.RowKit Go.Proofs.YteikhnmmkanndaaW.PrintWords
theorem wl_mul_le {k x y a b : Nat} (hk : 0 < k) (hx : wl k x ≤ a) (hy : wl k y ≤ b) : wl k (x * y) ≤ a + b := by
  rw [wl_le hk] at hx hy ⊢
  rw [Nat.mul_add, Nat.pow_add]
  exact Nat.mul_lt_mul'' hx hy
theorem is_yes (va vb : Value) (x : Nat) (w : World) (ha : N64 w va x) (hb : R256 w vb x) (hx : wl 64 x ≤ 1099511627) (hy : wl 8 x ≤ 1000000000) : Calls Try.prog 26 #[va, vb] w fun e w' => e = .returned (.bool true) ∧ Below w.heap.size w w' :=
  (is_any va vb x x w ha hb hx hy).mono (fun _ _ ⟨he, hb⟩ => ⟨by rw [he, decide_eq_true rfl], hb⟩)
end Go.Proofs.Yteikhnmmkanndaa
namespace Go.Proofs.Yteikhnmmkanndaa
open Go.RowKit
set_option maxRecDepth 100000 in
set_option maxHeartbeats 2000000 in
theorem one_any (w : World) : Calls Try.prog 120 #[] w (Mk64 w 1) := by
  have H : ∀ W, Calls Try.prog 50 #[.int .u64 1] W (fun e w' => ∃ v, e = .returned v ∧ N64 w' v 1 ∧ Below W.heap.size W w') := fun W => of_any 1 (by decide) W
  have HO := Lib.hid H
  clear H
  go_enter Try.func120, Try.ntmps120
  go_wp2_with fail
  refine (HO.out _).mono ?_
  rintro e w1 ⟨v1, rfl, hn1, hb1⟩
  have B1 := Lib.hid (cbt (cba (Below.refl _ w) _) hb1)
  have z := blk_below (Blk.new w 26 #[.slice none 0 0]) hb1
  have N1 := Lib.hid hn1
  obtain ⟨A, c, rfl, _, _, _⟩ := hn1
  have k : w1.cell? ⟨w.heap.size, 0, none⟩ = some (.slice none 0 0) := z.cell 0
  have f := z.frozen 0
  have HF := Lib.hid (show Mk64 w 1 (.returned (.agg #[.slice A (wl 64 1) c])) (w1.setCell ⟨w.heap.size, 0, none⟩ (.slice A (wl 64 1) c)) from
    ⟨_, rfl, N1.out.put z _, B1.out.setCell (p := ⟨w.heap.size, 0, none⟩) (Nat.le_refl _) _⟩)
  clear z hb1
  go_wp2
  exact bodyPost_ret (v := .agg #[.slice A (wl 64 1) c]) (by simp [results, Try.results120, go_sem, k]) rfl HF.out
set_option maxRecDepth 100000 in
set_option maxHeartbeats 2000000 in
theorem num_any (v : Value) (n d : Nat) (w : World) (h : F64 w v n d) : Calls Try.prog 108 #[v] w (Mk64 w n) := by
  obtain ⟨A, p, c, B, q, e, x, rfl, h1, h2, h3⟩ := h
  have hb0 := cba (cba (Below.refl _ w) (.cells #[.slice A p c, .slice B q e] 47)) (.cells #[.slice A p c] 26)
  have HF := Lib.hid (show Mk64 w n (.returned (.agg #[.slice A p c])) ((w.alloc (.cells #[.slice A p c, .slice B q e] 47)).alloc (.cells #[.slice A p c] 26)) from ⟨_, rfl, h1.below hb0, hb0⟩)
  clear h1 h2 h3 hb0
  go_enter Try.func108, Try.ntmps108
  go_wp2_with fail
  exact bodyPost_ret (v := .agg #[.slice A p c]) (by simp [results, Try.results108, go_sem]) rfl HF.out
set_option maxRecDepth 100000 in
set_option maxHeartbeats 2000000 in
theorem den_any (v : Value) (n d : Nat) (w : World) (h : F64 w v n d) : Calls Try.prog 109 #[v] w (Mk64 w d) := by
  obtain ⟨A, p, c, B, q, e, x, rfl, h1, h2, h3⟩ := h
  have H2 := Lib.hid h2
  have hb0 := cba (cba (Below.refl _ w) (.cells #[.slice A p c, .slice B q e] 47)) (.cells #[.slice none 0 0] 26)
  have e1 := Blk.new (w.alloc (.cells #[.slice A p c, .slice B q e] 47)) 26 #[.slice none 0 0]
  have e0 := (Blk.new w 47 #[.slice A p c, .slice B q e]).alloc (.cells #[.slice none 0 0] 26)
  simp only [World.size_alloc] at e1
  have E0 := Lib.hid e0
  have E1 := Lib.hid e1
  have HB0 := Lib.hid hb0
  have HO := Lib.hid one_any
  clear h1 h2 e0 e1 hb0
  rcases h3 with ⟨rfl, hpos⟩ | ⟨rfl, rfl⟩
  · have HZ := Lib.hid (fun W h => zero_no (.agg #[.slice B q e]) x W h hpos)
    clear hpos
    go_enter Try.func109, Try.ntmps109
    go_wp2_with fail
    refine (HZ.out _ (H2.out.below HB0.out)).mono ?_
    rintro e w1 ⟨rfl, hb1⟩
    have z0 := blk_below E0.out hb1
    have z1 := blk_below E1.out hb1
    have k0 : w1.cell? ⟨w.heap.size, 1, none⟩ = some (.slice B q e) := z0.cell 1
    have k1 : w1.cell? ⟨w.heap.size + 1, 0, none⟩ = some (.slice none 0 0) := z1.cell 0
    have f1 := z1.frozen 0
    have HF := Lib.hid (show Mk64 w x (.returned (.agg #[.slice B q e])) (w1.setCell ⟨w.heap.size + 1, 0, none⟩ (.slice B q e)) from
      ⟨_, rfl, (H2.out.below (cbt HB0.out hb1)).put z1 _, (cbt HB0.out hb1).setCell (p := ⟨w.heap.size + 1, 0, none⟩) (Nat.le_succ _) _⟩)
    clear z0 z1 hb1
    go_wp2
    exact bodyPost_ret (v := .agg #[.slice B q e]) (by simp [results, Try.results109, go_sem, k1]) rfl HF.out
  · have HZ := Lib.hid (fun W h => zero_yes (.agg #[.slice B q e]) W h)
    go_enter Try.func109, Try.ntmps109
    go_wp2_with fail
    refine (HZ.out _ (H2.out.below HB0.out)).mono ?_
    rintro e w1 ⟨rfl, hb1⟩
    have z1 := Lib.hid (blk_below E1.out hb1)
    have B1 := Lib.hid (cbt HB0.out hb1)
    clear hb1
    go_wp2_with fail
    refine (HO.out _).mono ?_
    rintro e w2 ⟨v2, rfl, hn2, hb2⟩
    have z2 := blk_below z1.out hb2
    have k1 : w2.cell? ⟨w.heap.size + 1, 0, none⟩ = some (.slice none 0 0) := z2.cell 0
    have f1 := z2.frozen 0
    have N2 := Lib.hid hn2
    obtain ⟨A2, c2, rfl, _, _, _⟩ := hn2
    have HF := Lib.hid (show Mk64 w 1 (.returned (.agg #[.slice A2 (wl 64 1) c2])) (w2.setCell ⟨w.heap.size + 1, 0, none⟩ (.slice A2 (wl 64 1) c2)) from
      ⟨_, rfl, N2.out.put z2 _, (cbt B1.out hb2).setCell (p := ⟨w.heap.size + 1, 0, none⟩) (Nat.le_succ _) _⟩)
    clear z2 hb2
    go_wp2
    exact bodyPost_ret (v := .agg #[.slice A2 (wl 64 1) c2]) (by simp [results, Try.results109, go_sem, k1]) rfl HF.out
set_option maxRecDepth 100000 in
set_option maxHeartbeats 2000000 in
theorem rzero_any (v : Value) (n d : Nat) (w : World) (h : F64 w v n d) : Calls Try.prog 63 #[v] w fun e w' => e = .returned (.bool (decide (n = 0))) ∧ Below w.heap.size w w' := by
  obtain ⟨A, p, c, B, q, e, x, rfl, h1, h2, h3⟩ := h
  have H1 := Lib.hid h1
  have HZ := Lib.hid (fun W h => zero_any (.agg #[.slice A p c]) n W h)
  have HB0 := Lib.hid (cba (Below.refl _ w) (.cells #[.slice A p c, .slice B q e] 47))
  clear h1 h2 h3
  go_enter Try.func63, Try.ntmps63
  go_wp2_with fail
  refine (HZ.out _ (H1.out.below HB0.out)).mono ?_
  rintro e w1 ⟨rfl, hb1⟩
  have B1 := Lib.hid (cbt HB0.out hb1)
  clear hb1
  go_wp2_with fail
  go_ret
  exact ⟨rfl, B1.out⟩
set_option maxRecDepth 100000 in
set_option maxHeartbeats 2000000 in
theorem rint_any (x : Nat) (hx : x < 2 ^ 64) (w : World) : Calls Try.prog 74 #[.int .u64 (x : Nat)] w (MkF w x 1) := by
  have HF := Lib.hid (fun W => of_any x hx W)
  have HO := Lib.hid one_any
  clear hx
  go_enter Try.func74, Try.ntmps74
  go_wp2_with fail
  refine (HF.out _).mono ?_
  rintro e w1 ⟨v1, rfl, hn1, hb1⟩
  have B1 := Lib.hid (cbt (cba (Below.refl _ w) _) hb1)
  have z1 := Lib.hid (blk_below (Blk.new w 47 #[.slice none 0 0, .slice none 0 0]) hb1)
  have N1 := Lib.hid hn1
  clear hb1 hn1
  go_wp2_with fail
  refine (HO.out _).mono ?_
  rintro e w2 ⟨v2, rfl, hn2, hb2⟩
  have B2 := Lib.hid (cbt B1.out hb2)
  have z2 := blk_below z1.out hb2
  have M1 := N1.out.below hb2
  have N2 := Lib.hid hn2
  obtain ⟨A, c, rfl, _, _, _⟩ := hn2
  have M1' := Lib.hid M1
  obtain ⟨B, e, rfl, _, _, _⟩ := M1
  have k0 : w2.cell? ⟨w.heap.size, 0, none⟩ = some (.slice none 0 0) := z2.cell 0
  have k1 : w2.cell? ⟨w.heap.size, 1, none⟩ = some (.slice none 0 0) := z2.cell 1
  have f := z2.frozen 0
  have f1 := z2.frozen 1
  have y1 := z2.set_ 0 (.slice B (wl 64 x) e)
  have HX := Lib.hid (show MkF w x 1 (.returned (.agg #[.slice B (wl 64 x) e, .slice A (wl 64 1) c])) ((w2.setCell ⟨w.heap.size, 0, none⟩ (.slice B (wl 64 x) e)).setCell ⟨w.heap.size, 1, none⟩ (.slice A (wl 64 1) c)) from
    ⟨_, rfl, ⟨B, _, e, A, _, c, 1, rfl, (M1'.out.keep (Keep.set z2 0 rfl _)).keep (Keep.set y1 1 rfl _), (N2.out.keep (Keep.set z2 0 rfl _)).keep (Keep.set y1 1 rfl _), .inl ⟨rfl, by decide⟩⟩, (B2.out.setCell (p := ⟨w.heap.size, 0, none⟩) (Nat.le_refl _) _).setCell (p := ⟨w.heap.size, 1, none⟩) (Nat.le_refl _) _⟩)
  clear hb2 z2 y1
  go_wp2
  exact bodyPost_ret (v := .agg #[.slice B (wl 64 x) e, .slice A (wl 64 1) c]) (by simp [results, Try.results74, go_sem, k0, k1]) rfl HX.out
set_option maxRecDepth 100000 in
set_option maxHeartbeats 2000000 in
theorem rcmpF_any (va vb : Value) (n d m e : Nat) (w : World) (ha : F64 w va n d) (hb : F64 w vb m e) (hn : wl 64 n ≤ 1000000) (hd : wl 64 d ≤ 1000000) (hm : wl 64 m ≤ 1000000) (he : wl 64 e ≤ 1000000) :
    Calls Try.prog 44 #[va, vb] w fun x w' => x = .returned (.int .i64 (cmpN (n * e) (m * d))) ∧ Below w.heap.size w w' := by
  have HA := Lib.hid ha
  have HB := Lib.hid hb
  obtain ⟨A, p, c, B, q, f, x, rfl, _, _, _⟩ := ha
  obtain ⟨A', p', c', B', q', f', x', rfl, _, _, _⟩ := hb
  have h8 := wl_mul_le (k := 64) (by decide) hn he
  have h9 := wl_mul_le (k := 64) (by decide) hm hd
  have HNU := Lib.hid num_any
  have HDE := Lib.hid den_any
  have HM1 := Lib.hid (fun va vb W h1 h2 => nmul_any va vb n e W h1 h2 (by omega) (by omega))
  have HM2 := Lib.hid (fun va vb W h1 h2 => nmul_any va vb m d W h1 h2 (by omega) (by omega))
  have HCM := Lib.hid (fun va vb W h1 h2 => ncmp_any va vb (n * e) (m * d) W h1 h2)
  have e0 := (Blk.new w 47 #[.slice A p c, .slice B q f]).alloc (.cells #[.slice A' p' c', .slice B' q' f'] 47)
  have e1 := Blk.new (w.alloc (.cells #[.slice A p c, .slice B q f] 47)) 47 #[.slice A' p' c', .slice B' q' f']
  simp only [World.size_alloc] at e1
  have hb0 := cba (cba (Below.refl _ w) (.cells #[.slice A p c, .slice B q f] 47)) (.cells #[.slice A' p' c', .slice B' q' f'] 47)
  have HA0 := Lib.hid (HA.out.below hb0)
  have HB0 := Lib.hid (HB.out.below hb0)
  have HBL := Lib.hid hb0
  have E0 := Lib.hid e0
  have E1 := Lib.hid e1
  clear hn hd hm he h8 h9 e0 e1 hb0
  go_enter Try.func44, Try.ntmps44
  go_wp2_with fail
  have hS : ∃ S, (w.alloc (.cells #[.slice A p c, .slice B q f] 47)).alloc (.cells #[.slice A' p' c', .slice B' q' f'] 47) = S := ⟨_, rfl⟩
  obtain ⟨S, hS⟩ := hS
  rw [hS] at E0 E1 HA0 HB0 HBL ⊢
  clear hS
  let FS : List Kept1 := [.f n d, .n n, .f m e, .n e, .n (n * e), .f m e, .n m, .f n d, .n d, .n (m * d), .eq (.int .i64 (cmpN (n * e) (m * d))), .eq (.int .i64 (cmpN (n * e) (m * d)))]
  refine region_mono (Held S (fun j => FS.getD j .any) []) (by kernel_rfl) (by kernel_rfl) (by kernel_rfl) (Held.start _ _ _ (by simp) (by simp)) ?_
  refine Steps.held ?_ ?_
  · intro L v w' hJ
    have kb := hJ.out.blk E0.out (by simp [oldsOf])
    have k0 := kb.cell 0
    have k1 := kb.cell 1
    clear kb
    go_wp2_with fail
    exact ⟨rfl, rfl, hJ.out.same (by rfl) (HA0.out.keep hJ.out.held.keep)⟩
  simp only [Act.put, List.setIfInBounds_toArray, List.set_cons_zero, List.set_cons_succ, Nat.reduceAdd]
  refine Steps.held ?_ ?_
  · intro L v w' hJ
    have X0 := Lib.hid (show F64 w' (v 0) n d from hJ.out.fact 0 (by kernel_rfl))
    go_wp2_with fail
    refine (HNU.out _ _ _ _ X0.out).mono ?_
    rintro e w1 ⟨u, rfl, hu, hb⟩
    go_wp2_with fail
    exact ⟨rfl, rfl, hJ.out.call (by rfl) hb (hu)⟩
  simp only [Act.put, List.setIfInBounds_toArray, List.set_cons_zero, List.set_cons_succ, Nat.reduceAdd]
  refine Steps.held ?_ ?_
  · intro L v w' hJ
    have kb := hJ.out.blk E1.out (by simp [oldsOf])
    have k0 := kb.cell 0
    have k1 := kb.cell 1
    clear kb
    go_wp2_with fail
    exact ⟨rfl, rfl, hJ.out.same (by rfl) (HB0.out.keep hJ.out.held.keep)⟩
  simp only [Act.put, List.setIfInBounds_toArray, List.set_cons_zero, List.set_cons_succ, Nat.reduceAdd]
  refine Steps.held ?_ ?_
  · intro L v w' hJ
    have X0 := Lib.hid (show F64 w' (v 2) m e from hJ.out.fact 2 (by kernel_rfl))
    go_wp2_with fail
    refine (HDE.out _ _ _ _ X0.out).mono ?_
    rintro e w1 ⟨u, rfl, hu, hb⟩
    go_wp2_with fail
    exact ⟨rfl, rfl, hJ.out.call (by rfl) hb (hu)⟩
  simp only [Act.put, List.setIfInBounds_toArray, List.set_cons_zero, List.set_cons_succ, Nat.reduceAdd]
  refine Steps.held ?_ ?_
  · intro L v w' hJ
    have X0 := Lib.hid (show N64 w' (v 1) n from hJ.out.fact 1 (by kernel_rfl))
    have X1 := Lib.hid (show N64 w' (v 3) e from hJ.out.fact 3 (by kernel_rfl))
    go_wp2_with fail
    refine (HM1.out _ _ _ X0.out X1.out).mono ?_
    rintro e w1 ⟨u, rfl, hu, hb⟩
    go_wp2_with fail
    exact ⟨rfl, rfl, hJ.out.call (by rfl) hb (hu)⟩
  simp only [Act.put, List.setIfInBounds_toArray, List.set_cons_zero, List.set_cons_succ, Nat.reduceAdd]
  refine Steps.held ?_ ?_
  · intro L v w' hJ
    have kb := hJ.out.blk E1.out (by simp [oldsOf])
    have k0 := kb.cell 0
    have k1 := kb.cell 1
    clear kb
    go_wp2_with fail
    exact ⟨rfl, rfl, hJ.out.same (by rfl) (HB0.out.keep hJ.out.held.keep)⟩
  simp only [Act.put, List.setIfInBounds_toArray, List.set_cons_zero, List.set_cons_succ, Nat.reduceAdd]
  refine Steps.held ?_ ?_
  · intro L v w' hJ
    have X0 := Lib.hid (show F64 w' (v 5) m e from hJ.out.fact 5 (by kernel_rfl))
    go_wp2_with fail
    refine (HNU.out _ _ _ _ X0.out).mono ?_
    rintro e w1 ⟨u, rfl, hu, hb⟩
    go_wp2_with fail
    exact ⟨rfl, rfl, hJ.out.call (by rfl) hb (hu)⟩
  simp only [Act.put, List.setIfInBounds_toArray, List.set_cons_zero, List.set_cons_succ, Nat.reduceAdd]
  refine Steps.held ?_ ?_
  · intro L v w' hJ
    have kb := hJ.out.blk E0.out (by simp [oldsOf])
    have k0 := kb.cell 0
    have k1 := kb.cell 1
    clear kb
    go_wp2_with fail
    exact ⟨rfl, rfl, hJ.out.same (by rfl) (HA0.out.keep hJ.out.held.keep)⟩
  simp only [Act.put, List.setIfInBounds_toArray, List.set_cons_zero, List.set_cons_succ, Nat.reduceAdd]
  refine Steps.held ?_ ?_
  · intro L v w' hJ
    have X0 := Lib.hid (show F64 w' (v 7) n d from hJ.out.fact 7 (by kernel_rfl))
    go_wp2_with fail
    refine (HDE.out _ _ _ _ X0.out).mono ?_
    rintro e w1 ⟨u, rfl, hu, hb⟩
    go_wp2_with fail
    exact ⟨rfl, rfl, hJ.out.call (by rfl) hb (hu)⟩
  simp only [Act.put, List.setIfInBounds_toArray, List.set_cons_zero, List.set_cons_succ, Nat.reduceAdd]
  refine Steps.held ?_ ?_
  · intro L v w' hJ
    have X0 := Lib.hid (show N64 w' (v 6) m from hJ.out.fact 6 (by kernel_rfl))
    have X1 := Lib.hid (show N64 w' (v 8) d from hJ.out.fact 8 (by kernel_rfl))
    go_wp2_with fail
    refine (HM2.out _ _ _ X0.out X1.out).mono ?_
    rintro e w1 ⟨u, rfl, hu, hb⟩
    go_wp2_with fail
    exact ⟨rfl, rfl, hJ.out.call (by rfl) hb (hu)⟩
  simp only [Act.put, List.setIfInBounds_toArray, List.set_cons_zero, List.set_cons_succ, Nat.reduceAdd]
  refine Steps.held ?_ ?_
  · intro L v w' hJ
    have X0 := Lib.hid (show N64 w' (v 4) (n * e) from hJ.out.fact 4 (by kernel_rfl))
    have X1 := Lib.hid (show N64 w' (v 9) (m * d) from hJ.out.fact 9 (by kernel_rfl))
    go_wp2_with fail
    refine (HCM.out _ _ _ X0.out X1.out).mono ?_
    rintro e w1 ⟨rfl, hb⟩
    go_wp2_with fail
    exact ⟨rfl, rfl, hJ.out.call (by rfl) hb (rfl)⟩
  simp only [Act.put, List.setIfInBounds_toArray, List.set_cons_zero, List.set_cons_succ, Nat.reduceAdd]
  refine Steps.held ?_ ?_
  · intro L v w' hJ
    go_wp2_with fail
    exact ⟨rfl, rfl, hJ.out.same (by rfl) (hJ.out.fact 10 (by kernel_rfl))⟩
  simp only [Act.put, List.setIfInBounds_toArray, List.set_cons_zero, List.set_cons_succ, Nat.reduceAdd]
  refine Steps.nil ?_
  intro v w' hJ
  have h11 : v 11 = .int .i64 (cmpN (n * e) (m * d)) := hJ.end_fact 11 (by decide)
  have HF := Lib.hid (cbt HBL.out hJ.but.below)
  clear hJ
  simp only [h11]
  clear h11
  go_wp2_with fail
  go_ret
  exact ⟨rfl, HF.out⟩
end Go.Proofs.Yteikhnmmkanndaa
namespace Go.Proofs.Yteikhnmmkanndaa
open Go.RowKit Go.Proofs.YteikhnmmkanndaaW.PrintWords
set_option linter.unusedSimpArgs false
set_option linter.unusedVariables false
theorem But.to_below {T : List Nat} {S W : World} {B : Nat} {w : World} (h : But T S W) (hb : Below B w S) (hB : B ≤ S.heap.size) (hT : ∀ g ∈ T, B ≤ g) : Below B w W :=
  ⟨h.os.trans hb.os, h.tape.trans hb.tape, h.output.trans hb.output, Nat.le_trans hb.size h.size, fun k hk => (h.block k (by omega) (fun hm => by have := hT k hm; omega)).trans (hb.block k hk)⟩
def rn (n d : Nat) : Nat := n / Nat.gcd n d
def rd (n d : Nat) : Nat := d / Nat.gcd n d
theorem rd_pos {n d : Nat} (h : 0 < d) : 0 < rd n d := Nat.div_pos (Nat.gcd_le_right n h) (Nat.gcd_pos_of_pos_right n h)
theorem rn_le (n d : Nat) : rn n d ≤ n := Nat.div_le_self _ _
theorem rd_le (n d : Nat) : rd n d ≤ d := Nat.div_le_self _ _
theorem wl_rn {k n d b : Nat} (hk : 0 < k) (h : wl k n ≤ b) : wl k (rn n d) ≤ b := Nat.le_trans (wl_mono hk (rn_le n d)) h
theorem wl_rd {k n d b : Nat} (hk : 0 < k) (h : wl k d ≤ b) : wl k (rd n d) ≤ b := Nat.le_trans (wl_mono hk (rd_le n d)) h
theorem rn_zero (d : Nat) : rn 0 d = 0 := Nat.zero_div _
theorem rd_zero {d : Nat} (h : 0 < d) : rd 0 d = 1 := by unfold rd; rw [Nat.gcd_zero_left]; exact Nat.div_self h
theorem F64.of {w : World} {A B : Option Addr} {p c q e n d : Nat} (h1 : N64 w (.agg #[.slice A p c]) n) (h2 : N64 w (.agg #[.slice B q e]) d) (h : 0 < d) : F64 w (.agg #[.slice A p c, .slice B q e]) n d := ⟨A, p, c, B, q, e, d, rfl, h1, h2, .inl ⟨rfl, h⟩⟩
theorem zero_eq (v : Value) (n : Nat) (w : World) (h : N64 w v n) (h0 : n = 0) : Calls Try.prog 29 #[v] w fun e w' => e = .returned (.bool true) ∧ Below w.heap.size w w' := by
  have := zero_any v n w h
  rwa [decide_eq_true h0] at this
theorem F64.none {w : World} : F64 w (.agg #[.slice .none 0 0, .slice .none 0 0]) 0 1 := ⟨_, _, _, _, _, _, 0, rfl, N64.zero w, N64.zero w, .inr ⟨rfl, rfl⟩⟩
theorem rzero_no (v : Value) (n d : Nat) (w : World) (h : F64 w v n d) (h0 : 0 < n) : Calls Try.prog 63 #[v] w fun e w' => e = .returned (.bool false) ∧ Below w.heap.size w w' := by
  have := rzero_any v n d w h
  rwa [decide_eq_false (by omega)] at this
theorem rzero_yes (v : Value) (n d : Nat) (w : World) (h : F64 w v n d) (h0 : n = 0) : Calls Try.prog 63 #[v] w fun e w' => e = .returned (.bool true) ∧ Below w.heap.size w w' := by
  have := rzero_any v n d w h
  rwa [decide_eq_true h0] at this
set_option maxRecDepth 100000 in
set_option maxHeartbeats 4000000 in
theorem rmade_any (va vb : Value) (n d : Nat) (w : World) (ha : N64 w va n) (hb : N64 w vb d) (hn : wl 64 n ≤ 500000000) (hd : wl 64 d ≤ 500000000) (h0 : 0 < d) : Calls Try.prog 113 #[va, vb] w (MkF w (rn n d) (rd n d)) := by
  have HA := Lib.hid ha
  have HB := Lib.hid hb
  obtain ⟨A, ca, rfl, _, _, _⟩ := ha
  obtain ⟨B, cb, rfl, _, _, _⟩ := hb
  have HO := Lib.hid one_any
  rcases Nat.eq_zero_or_pos n with hn0 | hn0
  · have HZ := Lib.hid (fun v W h => zero_eq v n W h hn0)
    have HD1 := Lib.hid (rd_zero h0)
    have HN0 := Lib.hid hn0
    clear hn hd hn0
    have e0 := ((Blk.new (w) 26 #[.slice A (wl 64 n) ca]).alloc (.cells #[.slice B (wl 64 d) cb] 26)).alloc (.cells #[.slice none 0 0, .slice none 0 0] 47)
    have e1 := (Blk.new ((w).alloc (.cells #[.slice A (wl 64 n) ca] 26)) 26 #[.slice B (wl 64 d) cb]).alloc (.cells #[.slice none 0 0, .slice none 0 0] 47)
    have e2 := Blk.new (((w).alloc (.cells #[.slice A (wl 64 n) ca] 26)).alloc (.cells #[.slice B (wl 64 d) cb] 26)) 47 #[.slice none 0 0, .slice none 0 0]
    have hb := cba (cba (cba (Below.refl _ w) (.cells #[.slice A (wl 64 n) ca] 26)) (.cells #[.slice B (wl 64 d) cb] 26)) (.cells #[.slice none 0 0, .slice none 0 0] 47)
    simp only [World.size_alloc] at e1 e2
    have hsz : w.heap.size ≤ w.heap.size := Nat.le_refl _
    go_enter Try.func113, Try.ntmps113
    go_upto_region 1 with (fail)
    obtain ⟨S, hS⟩ : ∃ S, (((w).alloc (.cells #[.slice A (wl 64 n) ca] 26)).alloc (.cells #[.slice B (wl 64 d) cb] 26)).alloc (.cells #[.slice none 0 0, .slice none 0 0] 47) = S := ⟨_, rfl⟩
    rw [hS] at e0 e1 e2 hb ⊢
    replace HA := Lib.hid (HA.out.below hb)
    replace HB := Lib.hid (HB.out.below hb)
    have HB0 := Lib.hid hb
    have E0 := Lib.hid e0
    have E1 := Lib.hid e1
    have E2 := Lib.hid e2
    clear hS hb hsz e0 e1 e2
    have k_E0_0 := E0.out.cell 0
    have k_E1_0 := E1.out.cell 0
    have k_E2_0 := E2.out.cell 0
    have k_E2_1 := E2.out.cell 1
    go_wp2_with fail
    refine (HZ.out _ _ HA.out).mono ?_
    rintro e w1 ⟨rfl, hb⟩
    clear k_E0_0 k_E1_0 k_E2_0 k_E2_1
    replace HA := Lib.hid (HA.out.below hb)
    replace HB := Lib.hid (HB.out.below hb)
    replace E0 := Lib.hid (blk_below E0.out hb)
    replace E1 := Lib.hid (blk_below E1.out hb)
    replace E2 := Lib.hid (blk_below E2.out hb)
    replace HB0 := Lib.hid (cbt HB0.out hb)
    clear hb
    have k_E0_0 := E0.out.cell 0
    have k_E1_0 := E1.out.cell 0
    have k_E2_0 := E2.out.cell 0
    have k_E2_1 := E2.out.cell 1
    go_wp2_with fail
    refine (HO.out _).mono ?_
    rintro e w1 ⟨u, rfl, hu, hb⟩
    clear k_E0_0 k_E1_0 k_E2_0 k_E2_1
    replace HA := Lib.hid (HA.out.below hb)
    replace HB := Lib.hid (HB.out.below hb)
    replace E0 := Lib.hid (blk_below E0.out hb)
    replace E1 := Lib.hid (blk_below E1.out hb)
    replace E2 := Lib.hid (blk_below E2.out hb)
    replace HB0 := Lib.hid (cbt HB0.out hb)
    have N1 := Lib.hid hu
    clear hb hu
    have k_E0_0 := E0.out.cell 0
    have k_E1_0 := E1.out.cell 0
    have k_E2_0 := E2.out.cell 0
    have k_E2_1 := E2.out.cell 1
    have Z1 := N1.out
    obtain ⟨P, c, rfl, _, _, _⟩ := Z1
    have f0 := E2.out.frozen 0
    have f1 := E2.out.frozen 1
    have HX := Lib.hid (show MkF w (rn n d) (rd n d) (.returned (.agg #[.slice none 0 0, .slice P (wl 64 1) c])) ((w1.setCell ⟨w.heap.size + 1 + 1, 0, none⟩ (.slice none 0 0)).setCell ⟨w.heap.size + 1 + 1, 1, none⟩ (.slice P (wl 64 1) c)) from by
      rw [HN0.out, rn_zero, HD1.out]
      refine ⟨_, rfl, ((F64.of (N64.zero _) N1.out (by decide)).keep (Keep.set E2.out 0 rfl _)).keep (Keep.set (E2.out.set_ 0 (.slice none 0 0)) 1 rfl _), ?_⟩
      exact (HB0.out.setCell (p := ⟨w.heap.size + 1 + 1, 0, none⟩) (by simp only []; omega) _).setCell (p := ⟨w.heap.size + 1 + 1, 1, none⟩) (by simp only []; omega) _)
    go_wp2
    exact bodyPost_ret (v := .agg #[.slice none 0 0, .slice P (wl 64 1) c]) (by simp [results, Try.results113, go_sem, k_E2_0, k_E2_1]) rfl HX.out
  · have HZ := Lib.hid (fun v W h => zero_no v n W h hn0)
    have HG := Lib.hid (fun va vb W h1 h2 => ngcd_any va vb n d W h1 h2 (by omega) (by omega))
    have hg0 : 0 < Nat.gcd n d := Nat.gcd_pos_of_pos_right n h0
    have HRP := Lib.hid (rd_pos (n := n) h0)
    have HRN : Hid (n / Nat.gcd n d = rn n d) := Lib.hid rfl
    have HRD : Hid (d / Nat.gcd n d = rd n d) := Lib.hid rfl
    have HD1 := Lib.hid (fun va vb W h1 h2 => ndiv_any va vb n (Nat.gcd n d) W h1 h2 (by omega) hg0)
    have HD2 := Lib.hid (fun va vb W h1 h2 => ndiv_any va vb d (Nat.gcd n d) W h1 h2 (by omega) hg0)
    have HCM := Lib.hid (fun va vb W h1 h2 => ncmp_any va vb (Nat.gcd n d) 1 W h1 h2)
    obtain ⟨g, hg⟩ : ∃ g, Nat.gcd n d = g := ⟨_, rfl⟩
    rw [hg] at HG HD1 HD2 HCM HRN HRD hg0
    clear hn hd hg
    have e0 := ((Blk.new (w) 26 #[.slice A (wl 64 n) ca]).alloc (.cells #[.slice B (wl 64 d) cb] 26)).alloc (.cells #[.slice none 0 0, .slice none 0 0] 47)
    have e1 := (Blk.new ((w).alloc (.cells #[.slice A (wl 64 n) ca] 26)) 26 #[.slice B (wl 64 d) cb]).alloc (.cells #[.slice none 0 0, .slice none 0 0] 47)
    have e2 := Blk.new (((w).alloc (.cells #[.slice A (wl 64 n) ca] 26)).alloc (.cells #[.slice B (wl 64 d) cb] 26)) 47 #[.slice none 0 0, .slice none 0 0]
    have hb := cba (cba (cba (Below.refl _ w) (.cells #[.slice A (wl 64 n) ca] 26)) (.cells #[.slice B (wl 64 d) cb] 26)) (.cells #[.slice none 0 0, .slice none 0 0] 47)
    simp only [World.size_alloc] at e1 e2
    have hsz : w.heap.size ≤ w.heap.size := Nat.le_refl _
    go_enter Try.func113, Try.ntmps113
    go_upto_region 1 with (fail)
    obtain ⟨S, hS⟩ : ∃ S, (((w).alloc (.cells #[.slice A (wl 64 n) ca] 26)).alloc (.cells #[.slice B (wl 64 d) cb] 26)).alloc (.cells #[.slice none 0 0, .slice none 0 0] 47) = S := ⟨_, rfl⟩
    rw [hS] at e0 e1 e2 hb ⊢
    replace HA := Lib.hid (HA.out.below hb)
    replace HB := Lib.hid (HB.out.below hb)
    have HB0 := Lib.hid hb
    have E0 := Lib.hid e0
    have E1 := Lib.hid e1
    have E2 := Lib.hid e2
    clear hS hb hsz e0 e1 e2
    have k_E0_0 := E0.out.cell 0
    have k_E1_0 := E1.out.cell 0
    have k_E2_0 := E2.out.cell 0
    have k_E2_1 := E2.out.cell 1
    go_wp2_with fail
    refine (HZ.out _ _ HA.out).mono ?_
    rintro e w1 ⟨rfl, hb⟩
    clear k_E0_0 k_E1_0 k_E2_0 k_E2_1
    replace HA := Lib.hid (HA.out.below hb)
    replace HB := Lib.hid (HB.out.below hb)
    replace E0 := Lib.hid (blk_below E0.out hb)
    replace E1 := Lib.hid (blk_below E1.out hb)
    replace E2 := Lib.hid (blk_below E2.out hb)
    replace HB0 := Lib.hid (cbt HB0.out hb)
    clear hb
    have k_E0_0 := E0.out.cell 0
    have k_E1_0 := E1.out.cell 0
    have k_E2_0 := E2.out.cell 0
    have k_E2_1 := E2.out.cell 1
    go_wp2_with fail
    refine (HG.out _ _ _ HA.out HB.out).mono ?_
    rintro e w2 ⟨u, rfl, hu, hb⟩
    clear k_E0_0 k_E1_0 k_E2_0 k_E2_1
    replace HA := Lib.hid (HA.out.below hb)
    replace HB := Lib.hid (HB.out.below hb)
    replace E0 := Lib.hid (blk_below E0.out hb)
    replace E1 := Lib.hid (blk_below E1.out hb)
    replace E2 := Lib.hid (blk_below E2.out hb)
    replace HB0 := Lib.hid (cbt HB0.out hb)
    have NG := Lib.hid hu
    clear hb hu
    have k_E0_0 := E0.out.cell 0
    have k_E1_0 := E1.out.cell 0
    have k_E2_0 := E2.out.cell 0
    have k_E2_1 := E2.out.cell 1
    have hge5 : w.heap.size + 1 + 1 < w2.heap.size := E2.out.lt
    have Z0 := NG.out
    obtain ⟨PT0, cpT0, rfl, _, _, _⟩ := Z0
    have e3 := Blk.new w2 26 #[.slice PT0 (wl 64 (g)) cpT0]
    have hb := cba (Below.refl _ w2) (.cells #[.slice PT0 (wl 64 (g)) cpT0] 26)
    go_upto_region 4 with (fail)
    obtain ⟨T, hS⟩ : ∃ S, (w2.alloc (.cells #[.slice PT0 (wl 64 (g)) cpT0] 26)) = S := ⟨_, rfl⟩
    rw [hS] at e3 hb ⊢
    obtain ⟨g5, hg⟩ : ∃ g, w2.heap.size = g := ⟨_, rfl⟩
    rw [hg] at e3 hge5
    simp only [hg]
    replace HA := Lib.hid (HA.out.below hb)
    replace HB := Lib.hid (HB.out.below hb)
    replace NG := Lib.hid (NG.out.below hb)
    replace E0 := Lib.hid (blk_below E0.out hb)
    replace E1 := Lib.hid (blk_below E1.out hb)
    replace E2 := Lib.hid (blk_below E2.out hb)
    replace HB0 := Lib.hid (cbt HB0.out hb)
    have E3 := Lib.hid e3
    clear hS hg hb e3 k_E0_0 k_E1_0 k_E2_0 k_E2_1
    by_cases hg1 : g ≤ 1
    · have hge : g = 1 := by omega
      rw [show cmpN g 1 = 0 by rw [hge]; rfl] at HCM
      have HG1 := Lib.hid hge
      clear hg1 hge hg0
      let FS : List Kept1 := [.n (g), .n (1), .eq (.int .i64 (0)), .eq (.bool false)]
      refine region_mono (Held T (fun j => FS.getD j .any) []) (by kernel_rfl) (by kernel_rfl) (by kernel_rfl) (Held.start _ _ _ (by simp) (by simp)) ?_
      refine Steps.held ?_ ?_
      · intro L v w' hJ
        have kb := hJ.out.blk E3.out (by simp [oldsOf])
        have k0 := kb.cell 0
        clear kb
        go_wp2_with fail
        exact ⟨rfl, rfl, hJ.out.same (by rfl) (NG.out.keep hJ.out.held.keep)⟩
      simp only [Act.put, List.setIfInBounds_toArray, List.set_cons_zero, List.set_cons_succ, Nat.reduceAdd]
      refine Steps.held ?_ ?_
      · intro L v w' hJ
        go_wp2_with fail
        refine (HO.out _).mono ?_
        rintro e w1 ⟨u, rfl, hu, hb⟩
        go_wp2_with fail
        exact ⟨rfl, rfl, hJ.out.call (by rfl) hb (hu)⟩
      simp only [Act.put, List.setIfInBounds_toArray, List.set_cons_zero, List.set_cons_succ, Nat.reduceAdd]
      refine Steps.held ?_ ?_
      · intro L v w' hJ
        have X0 := Lib.hid (show N64 w' (v 0) (g) from hJ.out.fact 0 (by kernel_rfl))
        have X1 := Lib.hid (show N64 w' (v 1) (1) from hJ.out.fact 1 (by kernel_rfl))
        go_wp2_with fail
        refine (HCM.out _ _ _ X0.out X1.out).mono ?_
        rintro e w1 ⟨rfl, hb⟩
        go_wp2_with fail
        exact ⟨rfl, rfl, hJ.out.call (by rfl) hb (rfl)⟩
      simp only [Act.put, List.setIfInBounds_toArray, List.set_cons_zero, List.set_cons_succ, Nat.reduceAdd]
      refine Steps.held ?_ ?_
      · intro L v w' hJ
        have hv2 : v 2 = .int .i64 (0) := hJ.out.fact 2 (by kernel_rfl)
        simp only [hv2]
        clear hv2
        go_wp2_with fail
        exact ⟨rfl, rfl, hJ.out.same (by rfl) (rfl)⟩
      simp only [Act.put, List.setIfInBounds_toArray, List.set_cons_zero, List.set_cons_succ, Nat.reduceAdd]
      refine Steps.nil ?_
      intro v w' hJ
      have h3 : v 3 = .bool false := hJ.end_fact 3 (by decide)
      have hbr := hJ.but.below
      clear hJ
      simp only [h3]
      clear h3
      replace E0 := Lib.hid (blk_below E0.out hbr)
      replace E1 := Lib.hid (blk_below E1.out hbr)
      replace E2 := Lib.hid (blk_below E2.out hbr)
      replace E3 := Lib.hid (blk_below E3.out hbr)
      replace HA := Lib.hid (HA.out.below hbr)
      replace HB := Lib.hid (HB.out.below hbr)
      replace NG := Lib.hid (NG.out.below hbr)
      replace HB0 := Lib.hid (cbt HB0.out hbr)
      clear hbr
      have k_E0_0 := E0.out.cell 0
      have k_E1_0 := E1.out.cell 0
      have k_E2_0 := E2.out.cell 0
      have k_E2_1 := E2.out.cell 1
      have f0 := E2.out.frozen 0
      have f1 := E2.out.frozen 1
      have HX := Lib.hid (show MkF w (rn n d) (rd n d) (.returned (.agg #[.slice A (wl 64 n) ca, .slice B (wl 64 d) cb])) ((w'.setCell ⟨w.heap.size + 1 + 1, 0, none⟩ (.slice A (wl 64 n) ca)).setCell ⟨w.heap.size + 1 + 1, 1, none⟩ (.slice B (wl 64 d) cb)) from by
        have hp := HRP.out
        rw [← HRN.out, ← HRD.out, HG1.out, Nat.div_one, Nat.div_one]
        rw [← HRD.out, HG1.out, Nat.div_one] at hp
        refine ⟨_, rfl, ((F64.of HA.out HB.out hp).keep (Keep.set E2.out 0 rfl _)).keep (Keep.set (E2.out.set_ 0 _) 1 rfl _), ?_⟩
        exact (HB0.out.setCell (p := ⟨w.heap.size + 1 + 1, 0, none⟩) (by simp only []; omega) _).setCell (p := ⟨w.heap.size + 1 + 1, 1, none⟩) (by simp only []; omega) _)
      go_wp2
      exact bodyPost_ret (v := .agg #[.slice A (wl 64 n) ca, .slice B (wl 64 d) cb]) (by simp [results, Try.results113, go_sem, k_E2_0, k_E2_1]) rfl HX.out
    · rw [cmpN_gt (by omega)] at HCM
      let FS : List Kept1 := [.n (g), .n (1), .eq (.int .i64 (1)), .eq (.bool true)]
      refine region_mono (Held T (fun j => FS.getD j .any) []) (by kernel_rfl) (by kernel_rfl) (by kernel_rfl) (Held.start _ _ _ (by simp) (by simp)) ?_
      refine Steps.held ?_ ?_
      · intro L v w' hJ
        have kb := hJ.out.blk E3.out (by simp [oldsOf])
        have k0 := kb.cell 0
        clear kb
        go_wp2_with fail
        exact ⟨rfl, rfl, hJ.out.same (by rfl) (NG.out.keep hJ.out.held.keep)⟩
      simp only [Act.put, List.setIfInBounds_toArray, List.set_cons_zero, List.set_cons_succ, Nat.reduceAdd]
      refine Steps.held ?_ ?_
      · intro L v w' hJ
        go_wp2_with fail
        refine (HO.out _).mono ?_
        rintro e w1 ⟨u, rfl, hu, hb⟩
        go_wp2_with fail
        exact ⟨rfl, rfl, hJ.out.call (by rfl) hb (hu)⟩
      simp only [Act.put, List.setIfInBounds_toArray, List.set_cons_zero, List.set_cons_succ, Nat.reduceAdd]
      refine Steps.held ?_ ?_
      · intro L v w' hJ
        have X0 := Lib.hid (show N64 w' (v 0) (g) from hJ.out.fact 0 (by kernel_rfl))
        have X1 := Lib.hid (show N64 w' (v 1) (1) from hJ.out.fact 1 (by kernel_rfl))
        go_wp2_with fail
        refine (HCM.out _ _ _ X0.out X1.out).mono ?_
        rintro e w1 ⟨rfl, hb⟩
        go_wp2_with fail
        exact ⟨rfl, rfl, hJ.out.call (by rfl) hb (rfl)⟩
      simp only [Act.put, List.setIfInBounds_toArray, List.set_cons_zero, List.set_cons_succ, Nat.reduceAdd]
      refine Steps.held ?_ ?_
      · intro L v w' hJ
        have hv2 : v 2 = .int .i64 (1) := hJ.out.fact 2 (by kernel_rfl)
        simp only [hv2]
        clear hv2
        go_wp2_with fail
        exact ⟨rfl, rfl, hJ.out.same (by rfl) (rfl)⟩
      simp only [Act.put, List.setIfInBounds_toArray, List.set_cons_zero, List.set_cons_succ, Nat.reduceAdd]
      refine Steps.nil ?_
      intro v w' hJ
      have h3 : v 3 = .bool true := hJ.end_fact 3 (by decide)
      have hbr := hJ.but.below
      clear hJ
      simp only [h3]
      clear h3
      replace E0 := Lib.hid (blk_below E0.out hbr)
      replace E1 := Lib.hid (blk_below E1.out hbr)
      replace E2 := Lib.hid (blk_below E2.out hbr)
      replace E3 := Lib.hid (blk_below E3.out hbr)
      replace HA := Lib.hid (HA.out.below hbr)
      replace HB := Lib.hid (HB.out.below hbr)
      replace NG := Lib.hid (NG.out.below hbr)
      replace HB0 := Lib.hid (cbt HB0.out hbr)
      clear hbr
      have k_E0_0 := E0.out.cell 0
      have k_E1_0 := E1.out.cell 0
      have k_E2_0 := E2.out.cell 0
      have k_E2_1 := E2.out.cell 1
      have k_E3_0 := E3.out.cell 0
      have f0 := E0.out.frozen 0
      go_wp2_with fail
      refine (HD1.out _ _ _ HA.out NG.out).mono ?_
      rintro e w3 ⟨u, r, rfl, hq, hr, hb⟩
      clear k_E0_0 k_E1_0 k_E2_0 k_E2_1 k_E3_0
      replace HA := Lib.hid (HA.out.below hb)
      replace HB := Lib.hid (HB.out.below hb)
      replace NG := Lib.hid (NG.out.below hb)
      replace E0 := Lib.hid (blk_below E0.out hb)
      replace E1 := Lib.hid (blk_below E1.out hb)
      replace E2 := Lib.hid (blk_below E2.out hb)
      replace E3 := Lib.hid (blk_below E3.out hb)
      replace HB0 := Lib.hid (cbt HB0.out hb)
      have NN := Lib.hid hq
      clear hb hq hr
      have k_E0_0 := E0.out.cell 0
      have k_E1_0 := E1.out.cell 0
      have k_E2_0 := E2.out.cell 0
      have k_E2_1 := E2.out.cell 1
      have k_E3_0 := E3.out.cell 0
      have ZN := NN.out
      obtain ⟨P1, c1, rfl, _, _, _⟩ := ZN
      clear k_E0_0 k_E1_0 k_E2_0 k_E2_1 k_E3_0 f0
      have f0 := E0.out.frozen 0
      have k0 := E0.out.cell 0
      go_upto_region 6 with (fail)
      have hO : w.heap.size + 1 + 1 < w3.heap.size := E2.out.lt
      have hk := Keep.set E0.out 0 rfl (.slice P1 (wl 64 (n / g)) c1)
      replace HB := Lib.hid (HB.out.keep hk)
      replace NG := Lib.hid (NG.out.keep hk)
      replace NN := Lib.hid (NN.out.keep hk)
      replace E1 := Lib.hid (E1.out.far (p := ⟨w.heap.size, 0, none⟩) (by have := E1.out.lt; have := E0.out.lt; simp only []; omega) (.slice P1 (wl 64 (n / g)) c1))
      replace E2 := Lib.hid (E2.out.far (p := ⟨w.heap.size, 0, none⟩) (by have := E2.out.lt; have := E0.out.lt; simp only []; omega) (.slice P1 (wl 64 (n / g)) c1))
      replace E3 := Lib.hid (E3.out.far (p := ⟨w.heap.size, 0, none⟩) (by have := E3.out.lt; have := E0.out.lt; simp only []; omega) (.slice P1 (wl 64 (n / g)) c1))
      replace E0 := Lib.hid (E0.out.set_ 0 (.slice P1 (wl 64 (n / g)) c1))
      replace HB0 := Lib.hid (HB0.out.setCell (p := ⟨w.heap.size, 0, none⟩) (by simp only []; omega) (.slice P1 (wl 64 (n / g)) c1))
      clear hk
      obtain ⟨X, hX⟩ : ∃ X, w3.setCell ⟨w.heap.size, 0, none⟩ (.slice P1 (wl 64 (n / g)) c1) = X := ⟨_, rfl⟩
      rw [hX] at E0 E1 E2 E3 HB NG NN HB0 ⊢
      clear hX f0 k0 hO HA HD1
      have k_E0_0 := E0.out.cell 0
      have k_E1_0 := E1.out.cell 0
      have k_E2_0 := E2.out.cell 0
      have k_E2_1 := E2.out.cell 1
      have k_E3_0 := E3.out.cell 0
      go_wp2_with fail
      refine (HD2.out _ _ _ HB.out NG.out).mono ?_
      rintro e w4 ⟨u, r, rfl, hq, hr, hb⟩
      clear k_E0_0 k_E1_0 k_E2_0 k_E2_1 k_E3_0
      replace HB := Lib.hid (HB.out.below hb)
      replace NG := Lib.hid (NG.out.below hb)
      replace NN := Lib.hid (NN.out.below hb)
      replace E0 := Lib.hid (blk_below E0.out hb)
      replace E1 := Lib.hid (blk_below E1.out hb)
      replace E2 := Lib.hid (blk_below E2.out hb)
      replace E3 := Lib.hid (blk_below E3.out hb)
      replace HB0 := Lib.hid (cbt HB0.out hb)
      have ND := Lib.hid hq
      clear hb hq hr
      have k_E0_0 := E0.out.cell 0
      have k_E1_0 := E1.out.cell 0
      have k_E2_0 := E2.out.cell 0
      have k_E2_1 := E2.out.cell 1
      have k_E3_0 := E3.out.cell 0
      have ZD := ND.out
      obtain ⟨P2, c2, rfl, _, _, _⟩ := ZD
      clear k_E0_0 k_E1_0 k_E2_0 k_E2_1 k_E3_0
      have f0 := E1.out.frozen 0
      have k0 := E1.out.cell 0
      go_upto_region 7 with (fail)
      have hk := Keep.set E1.out 0 rfl (.slice P2 (wl 64 (d / g)) c2)
      replace NN := Lib.hid (NN.out.keep hk)
      replace ND := Lib.hid (ND.out.keep hk)
      replace E0 := Lib.hid (E0.out.far (p := ⟨w.heap.size + 1, 0, none⟩) (by have := E0.out.lt; have := E1.out.lt; simp only []; omega) (.slice P2 (wl 64 (d / g)) c2))
      replace E2 := Lib.hid (E2.out.far (p := ⟨w.heap.size + 1, 0, none⟩) (by have := E2.out.lt; have := E1.out.lt; simp only []; omega) (.slice P2 (wl 64 (d / g)) c2))
      replace E1 := Lib.hid (E1.out.set_ 0 (.slice P2 (wl 64 (d / g)) c2))
      replace HB0 := Lib.hid (HB0.out.setCell (p := ⟨w.heap.size + 1, 0, none⟩) (by simp only []; omega) (.slice P2 (wl 64 (d / g)) c2))
      clear hk
      obtain ⟨Y, hY⟩ : ∃ X, w4.setCell ⟨w.heap.size + 1, 0, none⟩ (.slice P2 (wl 64 (d / g)) c2) = X := ⟨_, rfl⟩
      rw [hY] at E0 E1 E2 NN ND HB0 ⊢
      clear hY f0 k0 HD2 HB NG E3
      have k_E0_0 := E0.out.cell 0
      have k_E1_0 := E1.out.cell 0
      have k_E2_0 := E2.out.cell 0
      have k_E2_1 := E2.out.cell 1
      have f0 := E2.out.frozen 0
      have f1 := E2.out.frozen 1
      have HX := Lib.hid (show MkF w (rn n d) (rd n d) (.returned (.agg #[.slice P1 (wl 64 (n / g)) c1, .slice P2 (wl 64 (d / g)) c2])) ((Y.setCell ⟨w.heap.size + 1 + 1, 0, none⟩ (.slice P1 (wl 64 (n / g)) c1)).setCell ⟨w.heap.size + 1 + 1, 1, none⟩ (.slice P2 (wl 64 (d / g)) c2)) from by
        have hp := HRP.out
        rw [← HRN.out, ← HRD.out]
        rw [← HRD.out] at hp
        refine ⟨_, rfl, ((F64.of NN.out ND.out hp).keep (Keep.set E2.out 0 rfl _)).keep (Keep.set (E2.out.set_ 0 _) 1 rfl _), ?_⟩
        exact (HB0.out.setCell (p := ⟨w.heap.size + 1 + 1, 0, none⟩) (by simp only []; omega) _).setCell (p := ⟨w.heap.size + 1 + 1, 1, none⟩) (by simp only []; omega) _)
      go_wp2
      exact bodyPost_ret (v := .agg #[.slice P1 (wl 64 (n / g)) c1, .slice P2 (wl 64 (d / g)) c2]) (by simp [results, Try.results113, go_sem, k_E2_0, k_E2_1]) rfl HX.out
set_option maxRecDepth 100000 in
set_option maxHeartbeats 4000000 in
theorem rmulF_any (va vb : Value) (n d m e : Nat) (w : World) (ha : F64 w va n d) (hb : F64 w vb m e) (hn : wl 64 n ≤ 100000000) (hd : wl 64 d ≤ 100000000) (hm : wl 64 m ≤ 100000000) (he : wl 64 e ≤ 100000000) : Calls Try.prog 43 #[va, vb] w (MkF w (rn (n * m) (d * e)) (rd (n * m) (d * e))) := by
  have Ha := Lib.hid ha
  obtain ⟨Pa, pa, ca, Qa, qa, ea, xa, rfl, _, _, _⟩ := ha
  have Hb := Lib.hid hb
  obtain ⟨Pb, pb, cb, Qb, qb, eb, xb, rfl, _, _, _⟩ := hb
  have HNU := Lib.hid num_any
  have HDE := Lib.hid den_any
  have hd0 : 0 < d := by obtain ⟨_, _, _, _, _, _, _, _, _, _, h⟩ := Ha.out; exact h.pos
  have he0 : 0 < e := by obtain ⟨_, _, _, _, _, _, _, _, _, _, h⟩ := Hb.out; exact h.pos
  have hm1 := wl_mul_le (k := 64) (x := n) (y := m) (by decide) hn hm
  have HM1 := Lib.hid (fun va vb W h1 h2 => nmul_any va vb (n) (m) W h1 h2 (by omega) (by omega))
  have hm2 := wl_mul_le (k := 64) (x := d) (y := e) (by decide) hd he
  have HM2 := Lib.hid (fun va vb W h1 h2 => nmul_any va vb (d) (e) W h1 h2 (by omega) (by omega))
  have HMA := Lib.hid (fun va vb W h1 h2 => rmade_any va vb (n * m) (d * e) W h1 h2 (by omega) (by omega) (Nat.mul_pos hd0 he0))
  clear hm1 hm2 hd0 he0
  clear hn hd hm he
  have e0 := ((Blk.new (w) 47 #[(.slice Pa pa ca), (.slice Qa qa ea)]).alloc (.cells #[(.slice Pb pb cb), (.slice Qb qb eb)] 47)).alloc (.cells #[(.slice none 0 0), (.slice none 0 0)] 47)
  have e1 := (Blk.new ((w).alloc (.cells #[(.slice Pa pa ca), (.slice Qa qa ea)] 47)) 47 #[(.slice Pb pb cb), (.slice Qb qb eb)]).alloc (.cells #[(.slice none 0 0), (.slice none 0 0)] 47)
  have e2 := Blk.new (((w).alloc (.cells #[(.slice Pa pa ca), (.slice Qa qa ea)] 47)).alloc (.cells #[(.slice Pb pb cb), (.slice Qb qb eb)] 47)) 47 #[(.slice none 0 0), (.slice none 0 0)]
  have hb := cba (cba (cba (Below.refl _ w) (.cells #[(.slice Pa pa ca), (.slice Qa qa ea)] 47)) (.cells #[(.slice Pb pb cb), (.slice Qb qb eb)] 47)) (.cells #[(.slice none 0 0), (.slice none 0 0)] 47)
  simp only [World.size_alloc] at e1 e2
  have hsz : w.heap.size ≤ w.heap.size := Nat.le_refl _
  go_enter Try.func43, Try.ntmps43
  go_upto_region 1 with (fail)
  obtain ⟨S, hS⟩ : ∃ S, (((w).alloc (.cells #[(.slice Pa pa ca), (.slice Qa qa ea)] 47)).alloc (.cells #[(.slice Pb pb cb), (.slice Qb qb eb)] 47)).alloc (.cells #[(.slice none 0 0), (.slice none 0 0)] 47) = S := ⟨_, rfl⟩
  rw [hS] at e0 e1 e2 hb ⊢
  replace Ha := Lib.hid (Ha.out.below hb)
  replace Hb := Lib.hid (Hb.out.below hb)
  have HB0 := Lib.hid hb
  have E0 := Lib.hid e0
  have E1 := Lib.hid e1
  have E2 := Lib.hid e2
  clear hS hb hsz e0 e1 e2
  go_wp2_with fail
  let FS : List Kept1 := [.f (n) (d), .n (n), .f (m) (e), .n (m), .n (n * m), .f (n) (d), .n (d), .f (m) (e), .n (e), .n (d * e), .f (rn (n * m) (d * e)) (rd (n * m) (d * e)), .any]
  let BS : List Bx := [Bx.rat (.inr (w.heap.size + 1 + 1)) 11 #[(.slice none 0 0), (.slice none 0 0)] (rn (n * m) (d * e)) (rd (n * m) (d * e))]
  refine region_mono (Held S (fun j => FS.getD j .any) BS) (by kernel_rfl) (by kernel_rfl) (by kernel_rfl) (Held.start _ _ _ (by simp [BS, Bx.nat, Bx.rat, Bx.ref] <;> exact E2.out) (by simp [BS, Bx.nat, Bx.rat, Bx.ref])) ?_
  refine Steps.held ?_ ?_
  · intro L v w' hJ
    have kb := hJ.out.blk E0.out (by simp [oldsOf, BS, Bx.nat, Bx.rat, Bx.ref] <;> omega)
    have k0 := kb.cell 0
    have k1 := kb.cell 1
    clear kb
    go_wp2_with fail
    exact ⟨rfl, rfl, hJ.out.same (by rfl) (Ha.out.keep hJ.out.held.keep)⟩
  simp only [Act.put, List.setIfInBounds_toArray, List.set_cons_zero, List.set_cons_succ, Nat.reduceAdd]
  refine Steps.held ?_ ?_
  · intro L v w' hJ
    have X0 := Lib.hid (show F64 w' (v 0) (n) (d) from hJ.out.fact 0 (by kernel_rfl))
    go_wp2_with fail
    refine (HNU.out _ _ _ _ X0.out).mono ?_
    rintro e w1 ⟨u, rfl, hu, hb⟩
    go_wp2_with fail
    exact ⟨rfl, rfl, hJ.out.call (by rfl) hb (hu)⟩
  simp only [Act.put, List.setIfInBounds_toArray, List.set_cons_zero, List.set_cons_succ, Nat.reduceAdd]
  refine Steps.held ?_ ?_
  · intro L v w' hJ
    have kb := hJ.out.blk E1.out (by simp [oldsOf, BS, Bx.nat, Bx.rat, Bx.ref] <;> omega)
    have k0 := kb.cell 0
    have k1 := kb.cell 1
    clear kb
    go_wp2_with fail
    exact ⟨rfl, rfl, hJ.out.same (by rfl) (Hb.out.keep hJ.out.held.keep)⟩
  simp only [Act.put, List.setIfInBounds_toArray, List.set_cons_zero, List.set_cons_succ, Nat.reduceAdd]
  refine Steps.held ?_ ?_
  · intro L v w' hJ
    have X0 := Lib.hid (show F64 w' (v 2) (m) (e) from hJ.out.fact 2 (by kernel_rfl))
    go_wp2_with fail
    refine (HNU.out _ _ _ _ X0.out).mono ?_
    rintro e w1 ⟨u, rfl, hu, hb⟩
    go_wp2_with fail
    exact ⟨rfl, rfl, hJ.out.call (by rfl) hb (hu)⟩
  simp only [Act.put, List.setIfInBounds_toArray, List.set_cons_zero, List.set_cons_succ, Nat.reduceAdd]
  refine Steps.held ?_ ?_
  · intro L v w' hJ
    have X0 := Lib.hid (show N64 w' (v 1) (n) from hJ.out.fact 1 (by kernel_rfl))
    have X1 := Lib.hid (show N64 w' (v 3) (m) from hJ.out.fact 3 (by kernel_rfl))
    go_wp2_with fail
    refine (HM1.out _ _ _ X0.out X1.out).mono ?_
    rintro e w1 ⟨u, rfl, hu, hb⟩
    go_wp2_with fail
    exact ⟨rfl, rfl, hJ.out.call (by rfl) hb (hu)⟩
  simp only [Act.put, List.setIfInBounds_toArray, List.set_cons_zero, List.set_cons_succ, Nat.reduceAdd]
  refine Steps.held ?_ ?_
  · intro L v w' hJ
    have kb := hJ.out.blk E0.out (by simp [oldsOf, BS, Bx.nat, Bx.rat, Bx.ref] <;> omega)
    have k0 := kb.cell 0
    have k1 := kb.cell 1
    clear kb
    go_wp2_with fail
    exact ⟨rfl, rfl, hJ.out.same (by rfl) (Ha.out.keep hJ.out.held.keep)⟩
  simp only [Act.put, List.setIfInBounds_toArray, List.set_cons_zero, List.set_cons_succ, Nat.reduceAdd]
  refine Steps.held ?_ ?_
  · intro L v w' hJ
    have X0 := Lib.hid (show F64 w' (v 5) (n) (d) from hJ.out.fact 5 (by kernel_rfl))
    go_wp2_with fail
    refine (HDE.out _ _ _ _ X0.out).mono ?_
    rintro e w1 ⟨u, rfl, hu, hb⟩
    go_wp2_with fail
    exact ⟨rfl, rfl, hJ.out.call (by rfl) hb (hu)⟩
  simp only [Act.put, List.setIfInBounds_toArray, List.set_cons_zero, List.set_cons_succ, Nat.reduceAdd]
  refine Steps.held ?_ ?_
  · intro L v w' hJ
    have kb := hJ.out.blk E1.out (by simp [oldsOf, BS, Bx.nat, Bx.rat, Bx.ref] <;> omega)
    have k0 := kb.cell 0
    have k1 := kb.cell 1
    clear kb
    go_wp2_with fail
    exact ⟨rfl, rfl, hJ.out.same (by rfl) (Hb.out.keep hJ.out.held.keep)⟩
  simp only [Act.put, List.setIfInBounds_toArray, List.set_cons_zero, List.set_cons_succ, Nat.reduceAdd]
  refine Steps.held ?_ ?_
  · intro L v w' hJ
    have X0 := Lib.hid (show F64 w' (v 7) (m) (e) from hJ.out.fact 7 (by kernel_rfl))
    go_wp2_with fail
    refine (HDE.out _ _ _ _ X0.out).mono ?_
    rintro e w1 ⟨u, rfl, hu, hb⟩
    go_wp2_with fail
    exact ⟨rfl, rfl, hJ.out.call (by rfl) hb (hu)⟩
  simp only [Act.put, List.setIfInBounds_toArray, List.set_cons_zero, List.set_cons_succ, Nat.reduceAdd]
  refine Steps.held ?_ ?_
  · intro L v w' hJ
    have X0 := Lib.hid (show N64 w' (v 6) (d) from hJ.out.fact 6 (by kernel_rfl))
    have X1 := Lib.hid (show N64 w' (v 8) (e) from hJ.out.fact 8 (by kernel_rfl))
    go_wp2_with fail
    refine (HM2.out _ _ _ X0.out X1.out).mono ?_
    rintro e w1 ⟨u, rfl, hu, hb⟩
    go_wp2_with fail
    exact ⟨rfl, rfl, hJ.out.call (by rfl) hb (hu)⟩
  simp only [Act.put, List.setIfInBounds_toArray, List.set_cons_zero, List.set_cons_succ, Nat.reduceAdd]
  refine Steps.held ?_ ?_
  · intro L v w' hJ
    have X0 := Lib.hid (show N64 w' (v 4) (n * m) from hJ.out.fact 4 (by kernel_rfl))
    have X1 := Lib.hid (show N64 w' (v 9) (d * e) from hJ.out.fact 9 (by kernel_rfl))
    go_wp2_with fail
    refine (HMA.out _ _ _ X0.out X1.out).mono ?_
    rintro e w1 ⟨u, rfl, hu, hb⟩
    go_wp2_with fail
    exact ⟨rfl, rfl, hJ.out.call (by rfl) hb (hu)⟩
  simp only [Act.put, List.setIfInBounds_toArray, List.set_cons_zero, List.set_cons_succ, Nat.reduceAdd]
  refine Steps.held ?_ ?_
  · intro L v w' hJ
    obtain ⟨hown, hst⟩ := hJ.out.oldbox 0 _ rfl (w.heap.size + 1 + 1) rfl
    have hN : F64 w' (v 10) (rn (n * m) (d * e)) (rd (n * m) (d * e)) := hJ.out.fact 10 (by kernel_rfl)
    obtain ⟨A1, p1, c1, B1, q1, e1, x1, hv, h1, h2, h3⟩ := hN
    have HN := Lib.hid (show F64 w' (.agg #[.slice A1 p1 c1, .slice B1 q1 e1]) (rn (n * m) (d * e)) (rd (n * m) (d * e)) from ⟨A1, p1, c1, B1, q1, e1, x1, rfl, h1, h2, h3⟩)
    have kb := hJ.out.box 0 _ rfl rfl (w.heap.size + 1 + 1) hown
    have k0 : w'.cell? ⟨(w.heap.size + 1 + 1), 0, none⟩ = some ((.slice none 0 0)) := kb.cell 0
    have k1 : w'.cell? ⟨(w.heap.size + 1 + 1), 1, none⟩ = some ((.slice none 0 0)) := kb.cell 1
    have f0 := kb.frozen 0
    have f1 := kb.frozen 1
    have HO := Lib.hid hown
    have HS := Lib.hid hst
    clear kb h1 h2 h3 hown hst
    simp only [hv]
    clear hv
    go_wp2_with fail
    exact ⟨rfl, rfl, hJ.out.fill2 0 _ rfl rfl (by rfl) (w.heap.size + 1 + 1) HO.out HS.out _ _ rfl rfl rfl (fun W k => HN.out.keep k) (fun _ => trivial)⟩
  simp only [Act.put, List.setIfInBounds_toArray, List.set_cons_zero, List.set_cons_succ, Nat.reduceAdd]
  refine Steps.nil ?_
  intro v w' hJ
  obtain ⟨cs, hblk, hf⟩ := hJ.end_old 0 _ rfl (w.heap.size + 1 + 1) rfl (Nat.le_of_ble_eq_true rfl)
  have hf' : F64 w' (.agg cs) (rn (n * m) (d * e)) (rd (n * m) (d * e)) := hf
  obtain ⟨A1, p1, c1, B1, q1, e1, x1, hcs, h1, h2, h3⟩ := hf'
  have hcs' := Value.agg.inj hcs
  subst hcs'
  have k0 := hblk.cell 0
  have k1 := hblk.cell 1
  have hbw : Below w.heap.size w w' := hJ.but.to_below HB0.out HB0.out.size (by intro g hg; simp [oldsOf, BS, Bx.nat, Bx.rat, Bx.ref] at hg; subst hg; omega)
  have HX := Lib.hid (show MkF w (rn (n * m) (d * e)) (rd (n * m) (d * e)) (.returned (.agg #[.slice A1 p1 c1, .slice B1 q1 e1])) w' from ⟨_, rfl, ⟨A1, p1, c1, B1, q1, e1, x1, rfl, h1, h2, h3⟩, hbw⟩)
  clear hJ h1 h2 hbw hblk hcs hf
  go_wp2_with fail
  exact bodyPost_ret (v := .agg #[.slice A1 p1 c1, .slice B1 q1 e1]) (by simp [results, Try.results43, go_sem, k0, k1]) rfl HX.out
set_option maxRecDepth 100000 in
set_option maxHeartbeats 4000000 in
theorem rdivF_any (va vb : Value) (n d m e : Nat) (w : World) (ha : F64 w va n d) (hb : F64 w vb m e) (hn : wl 64 n ≤ 100000000) (hd : wl 64 d ≤ 100000000) (hm : wl 64 m ≤ 100000000) (he : wl 64 e ≤ 100000000) (hm0 : 0 < m) : Calls Try.prog 71 #[va, vb] w fun x w' => ∃ v, x = .returned (.tuple #[v, .int .i64 0]) ∧ F64 w' v (rn (n * e) (d * m)) (rd (n * e) (d * m)) ∧ Below w.heap.size w w' := by
  have Ha := Lib.hid ha
  obtain ⟨Pa, pa, ca, Qa, qa, ea, xa, rfl, _, _, _⟩ := ha
  have Hb := Lib.hid hb
  obtain ⟨Pb, pb, cb, Qb, qb, eb, xb, rfl, _, _, _⟩ := hb
  have HNU := Lib.hid num_any
  have HDE := Lib.hid den_any
  have hd0 : 0 < d := by obtain ⟨_, _, _, _, _, _, _, _, _, _, h⟩ := Ha.out; exact h.pos
  have he0 : 0 < e := by obtain ⟨_, _, _, _, _, _, _, _, _, _, h⟩ := Hb.out; exact h.pos
  have hmp := Lib.hid hm0
  have hm1 := wl_mul_le (k := 64) (x := n) (y := e) (by decide) hn he
  have HM1 := Lib.hid (fun va vb W h1 h2 => nmul_any va vb (n) (e) W h1 h2 (by omega) (by omega))
  have hm2 := wl_mul_le (k := 64) (x := d) (y := m) (by decide) hd hm
  have HM2 := Lib.hid (fun va vb W h1 h2 => nmul_any va vb (d) (m) W h1 h2 (by omega) (by omega))
  have HMA := Lib.hid (fun va vb W h1 h2 => rmade_any va vb (n * e) (d * m) W h1 h2 (by omega) (by omega) (Nat.mul_pos hd0 hm0))
  have HZ := Lib.hid (fun v W h => rzero_no v m e W h hm0)
  clear hm1 hm2 hd0 he0 hmp hm0
  clear hn hd hm he
  have e0 := ((Blk.new (w) 47 #[(.slice Pa pa ca), (.slice Qa qa ea)]).alloc (.cells #[(.slice Pb pb cb), (.slice Qb qb eb)] 47)).alloc (.cells #[(.slice none 0 0), (.slice none 0 0)] 47)
  have e1 := (Blk.new ((w).alloc (.cells #[(.slice Pa pa ca), (.slice Qa qa ea)] 47)) 47 #[(.slice Pb pb cb), (.slice Qb qb eb)]).alloc (.cells #[(.slice none 0 0), (.slice none 0 0)] 47)
  have e2 := Blk.new (((w).alloc (.cells #[(.slice Pa pa ca), (.slice Qa qa ea)] 47)).alloc (.cells #[(.slice Pb pb cb), (.slice Qb qb eb)] 47)) 47 #[(.slice none 0 0), (.slice none 0 0)]
  have hb := cba (cba (cba (Below.refl _ w) (.cells #[(.slice Pa pa ca), (.slice Qa qa ea)] 47)) (.cells #[(.slice Pb pb cb), (.slice Qb qb eb)] 47)) (.cells #[(.slice none 0 0), (.slice none 0 0)] 47)
  simp only [World.size_alloc] at e1 e2
  have hsz : w.heap.size ≤ w.heap.size := Nat.le_refl _
  go_enter Try.func71, Try.ntmps71
  go_upto_region 1 with (fail)
  obtain ⟨S, hS⟩ : ∃ S, (((w).alloc (.cells #[(.slice Pa pa ca), (.slice Qa qa ea)] 47)).alloc (.cells #[(.slice Pb pb cb), (.slice Qb qb eb)] 47)).alloc (.cells #[(.slice none 0 0), (.slice none 0 0)] 47) = S := ⟨_, rfl⟩
  rw [hS] at e0 e1 e2 hb ⊢
  replace Ha := Lib.hid (Ha.out.below hb)
  replace Hb := Lib.hid (Hb.out.below hb)
  have HB0 := Lib.hid hb
  have E0 := Lib.hid e0
  have E1 := Lib.hid e1
  have E2 := Lib.hid e2
  clear hS hb hsz e0 e1 e2
  have k_E0_0 := E0.out.cell 0
  have k_E0_1 := E0.out.cell 1
  have k_E1_0 := E1.out.cell 0
  have k_E1_1 := E1.out.cell 1
  have k_E2_0 := E2.out.cell 0
  have k_E2_1 := E2.out.cell 1
  go_wp2_with fail
  refine (HZ.out _ _ Hb.out).mono ?_
  rintro e w1 ⟨rfl, hb⟩
  clear k_E0_0 k_E0_1 k_E1_0 k_E1_1 k_E2_0 k_E2_1
  replace Ha := Lib.hid (Ha.out.below hb)
  replace Hb := Lib.hid (Hb.out.below hb)
  replace E0 := Lib.hid (blk_below E0.out hb)
  replace E1 := Lib.hid (blk_below E1.out hb)
  replace E2 := Lib.hid (blk_below E2.out hb)
  replace HB0 := Lib.hid (cbt HB0.out hb)
  clear hb
  have k_E0_0 := E0.out.cell 0
  have k_E0_1 := E0.out.cell 1
  have k_E1_0 := E1.out.cell 0
  have k_E1_1 := E1.out.cell 1
  have k_E2_0 := E2.out.cell 0
  have k_E2_1 := E2.out.cell 1
  go_wp2_with fail
  clear k_E0_0 k_E0_1 k_E1_0 k_E1_1 k_E2_0 k_E2_1
  let FS : List Kept1 := [.f (n) (d), .n (n), .f (m) (e), .n (e), .n (n * e), .f (n) (d), .n (d), .f (m) (e), .n (m), .n (d * m), .f (rn (n * e) (d * m)) (rd (n * e) (d * m)), .any, .eq (.int .i64 0)]
  let BS : List Bx := [Bx.rat (.inr (w.heap.size + 1 + 1)) 11 #[(.slice none 0 0), (.slice none 0 0)] (rn (n * e) (d * m)) (rd (n * e) (d * m))]
  refine region_mono (Held w1 (fun j => FS.getD j .any) BS) (by kernel_rfl) (by kernel_rfl) (by kernel_rfl) (Held.start _ _ _ (by simp [BS, Bx.nat, Bx.rat, Bx.ref] <;> exact E2.out) (by simp [BS, Bx.nat, Bx.rat, Bx.ref])) ?_
  refine Steps.held ?_ ?_
  · intro L v w' hJ
    have kb := hJ.out.blk E0.out (by simp [oldsOf, BS, Bx.nat, Bx.rat, Bx.ref] <;> omega)
    have k0 := kb.cell 0
    have k1 := kb.cell 1
    clear kb
    go_wp2_with fail
    exact ⟨rfl, rfl, hJ.out.same (by rfl) (Ha.out.keep hJ.out.held.keep)⟩
  simp only [Act.put, List.setIfInBounds_toArray, List.set_cons_zero, List.set_cons_succ, Nat.reduceAdd]
  refine Steps.held ?_ ?_
  · intro L v w' hJ
    have X0 := Lib.hid (show F64 w' (v 0) (n) (d) from hJ.out.fact 0 (by kernel_rfl))
    go_wp2_with fail
    refine (HNU.out _ _ _ _ X0.out).mono ?_
    rintro e w1 ⟨u, rfl, hu, hb⟩
    go_wp2_with fail
    exact ⟨rfl, rfl, hJ.out.call (by rfl) hb (hu)⟩
  simp only [Act.put, List.setIfInBounds_toArray, List.set_cons_zero, List.set_cons_succ, Nat.reduceAdd]
  refine Steps.held ?_ ?_
  · intro L v w' hJ
    have kb := hJ.out.blk E1.out (by simp [oldsOf, BS, Bx.nat, Bx.rat, Bx.ref] <;> omega)
    have k0 := kb.cell 0
    have k1 := kb.cell 1
    clear kb
    go_wp2_with fail
    exact ⟨rfl, rfl, hJ.out.same (by rfl) (Hb.out.keep hJ.out.held.keep)⟩
  simp only [Act.put, List.setIfInBounds_toArray, List.set_cons_zero, List.set_cons_succ, Nat.reduceAdd]
  refine Steps.held ?_ ?_
  · intro L v w' hJ
    have X0 := Lib.hid (show F64 w' (v 2) (m) (e) from hJ.out.fact 2 (by kernel_rfl))
    go_wp2_with fail
    refine (HDE.out _ _ _ _ X0.out).mono ?_
    rintro e w1 ⟨u, rfl, hu, hb⟩
    go_wp2_with fail
    exact ⟨rfl, rfl, hJ.out.call (by rfl) hb (hu)⟩
  simp only [Act.put, List.setIfInBounds_toArray, List.set_cons_zero, List.set_cons_succ, Nat.reduceAdd]
  refine Steps.held ?_ ?_
  · intro L v w' hJ
    have X0 := Lib.hid (show N64 w' (v 1) (n) from hJ.out.fact 1 (by kernel_rfl))
    have X1 := Lib.hid (show N64 w' (v 3) (e) from hJ.out.fact 3 (by kernel_rfl))
    go_wp2_with fail
    refine (HM1.out _ _ _ X0.out X1.out).mono ?_
    rintro e w1 ⟨u, rfl, hu, hb⟩
    go_wp2_with fail
    exact ⟨rfl, rfl, hJ.out.call (by rfl) hb (hu)⟩
  simp only [Act.put, List.setIfInBounds_toArray, List.set_cons_zero, List.set_cons_succ, Nat.reduceAdd]
  refine Steps.held ?_ ?_
  · intro L v w' hJ
    have kb := hJ.out.blk E0.out (by simp [oldsOf, BS, Bx.nat, Bx.rat, Bx.ref] <;> omega)
    have k0 := kb.cell 0
    have k1 := kb.cell 1
    clear kb
    go_wp2_with fail
    exact ⟨rfl, rfl, hJ.out.same (by rfl) (Ha.out.keep hJ.out.held.keep)⟩
  simp only [Act.put, List.setIfInBounds_toArray, List.set_cons_zero, List.set_cons_succ, Nat.reduceAdd]
  refine Steps.held ?_ ?_
  · intro L v w' hJ
    have X0 := Lib.hid (show F64 w' (v 5) (n) (d) from hJ.out.fact 5 (by kernel_rfl))
    go_wp2_with fail
    refine (HDE.out _ _ _ _ X0.out).mono ?_
    rintro e w1 ⟨u, rfl, hu, hb⟩
    go_wp2_with fail
    exact ⟨rfl, rfl, hJ.out.call (by rfl) hb (hu)⟩
  simp only [Act.put, List.setIfInBounds_toArray, List.set_cons_zero, List.set_cons_succ, Nat.reduceAdd]
  refine Steps.held ?_ ?_
  · intro L v w' hJ
    have kb := hJ.out.blk E1.out (by simp [oldsOf, BS, Bx.nat, Bx.rat, Bx.ref] <;> omega)
    have k0 := kb.cell 0
    have k1 := kb.cell 1
    clear kb
    go_wp2_with fail
    exact ⟨rfl, rfl, hJ.out.same (by rfl) (Hb.out.keep hJ.out.held.keep)⟩
  simp only [Act.put, List.setIfInBounds_toArray, List.set_cons_zero, List.set_cons_succ, Nat.reduceAdd]
  refine Steps.held ?_ ?_
  · intro L v w' hJ
    have X0 := Lib.hid (show F64 w' (v 7) (m) (e) from hJ.out.fact 7 (by kernel_rfl))
    go_wp2_with fail
    refine (HNU.out _ _ _ _ X0.out).mono ?_
    rintro e w1 ⟨u, rfl, hu, hb⟩
    go_wp2_with fail
    exact ⟨rfl, rfl, hJ.out.call (by rfl) hb (hu)⟩
  simp only [Act.put, List.setIfInBounds_toArray, List.set_cons_zero, List.set_cons_succ, Nat.reduceAdd]
  refine Steps.held ?_ ?_
  · intro L v w' hJ
    have X0 := Lib.hid (show N64 w' (v 6) (d) from hJ.out.fact 6 (by kernel_rfl))
    have X1 := Lib.hid (show N64 w' (v 8) (m) from hJ.out.fact 8 (by kernel_rfl))
    go_wp2_with fail
    refine (HM2.out _ _ _ X0.out X1.out).mono ?_
    rintro e w1 ⟨u, rfl, hu, hb⟩
    go_wp2_with fail
    exact ⟨rfl, rfl, hJ.out.call (by rfl) hb (hu)⟩
  simp only [Act.put, List.setIfInBounds_toArray, List.set_cons_zero, List.set_cons_succ, Nat.reduceAdd]
  refine Steps.held ?_ ?_
  · intro L v w' hJ
    have X0 := Lib.hid (show N64 w' (v 4) (n * e) from hJ.out.fact 4 (by kernel_rfl))
    have X1 := Lib.hid (show N64 w' (v 9) (d * m) from hJ.out.fact 9 (by kernel_rfl))
    go_wp2_with fail
    refine (HMA.out _ _ _ X0.out X1.out).mono ?_
    rintro e w1 ⟨u, rfl, hu, hb⟩
    go_wp2_with fail
    exact ⟨rfl, rfl, hJ.out.call (by rfl) hb (hu)⟩
  simp only [Act.put, List.setIfInBounds_toArray, List.set_cons_zero, List.set_cons_succ, Nat.reduceAdd]
  refine Steps.held ?_ ?_
  · intro L v w' hJ
    obtain ⟨hown, hst⟩ := hJ.out.oldbox 0 _ rfl (w.heap.size + 1 + 1) rfl
    have hN : F64 w' (v 10) (rn (n * e) (d * m)) (rd (n * e) (d * m)) := hJ.out.fact 10 (by kernel_rfl)
    obtain ⟨A1, p1, c1, B1, q1, e1, x1, hv, h1, h2, h3⟩ := hN
    have HN := Lib.hid (show F64 w' (.agg #[.slice A1 p1 c1, .slice B1 q1 e1]) (rn (n * e) (d * m)) (rd (n * e) (d * m)) from ⟨A1, p1, c1, B1, q1, e1, x1, rfl, h1, h2, h3⟩)
    have kb := hJ.out.box 0 _ rfl rfl (w.heap.size + 1 + 1) hown
    have k0 : w'.cell? ⟨(w.heap.size + 1 + 1), 0, none⟩ = some ((.slice none 0 0)) := kb.cell 0
    have k1 : w'.cell? ⟨(w.heap.size + 1 + 1), 1, none⟩ = some ((.slice none 0 0)) := kb.cell 1
    have f0 := kb.frozen 0
    have f1 := kb.frozen 1
    have HO := Lib.hid hown
    have HS := Lib.hid hst
    clear kb h1 h2 h3 hown hst
    simp only [hv]
    clear hv
    go_wp2_with fail
    exact ⟨rfl, rfl, hJ.out.fill2 0 _ rfl rfl (by rfl) (w.heap.size + 1 + 1) HO.out HS.out _ _ rfl rfl rfl (fun W k => HN.out.keep k) (fun _ => trivial)⟩
  simp only [Act.put, List.setIfInBounds_toArray, List.set_cons_zero, List.set_cons_succ, Nat.reduceAdd]
  refine Steps.held ?_ ?_
  · intro L v w' hJ
    go_wp2_with fail
    exact ⟨rfl, rfl, hJ.out.same (by rfl) (rfl)⟩
  simp only [Act.put, List.setIfInBounds_toArray, List.set_cons_zero, List.set_cons_succ, Nat.reduceAdd]
  refine Steps.nil ?_
  intro v w' hJ
  obtain ⟨cs, hblk, hf⟩ := hJ.end_old 0 _ rfl (w.heap.size + 1 + 1) rfl (Nat.le_of_ble_eq_true rfl)
  have hf' : F64 w' (.agg cs) (rn (n * e) (d * m)) (rd (n * e) (d * m)) := hf
  obtain ⟨A1, p1, c1, B1, q1, e1, x1, hcs, h1, h2, h3⟩ := hf'
  have hcs' := Value.agg.inj hcs
  subst hcs'
  have k0 := hblk.cell 0
  have k1 := hblk.cell 1
  have h12 : v 12 = .int .i64 0 := hJ.end_fact 12 (by decide)
  simp only [h12]
  clear h12
  have hbw : Below w.heap.size w w' := hJ.but.to_below HB0.out HB0.out.size (by intro g hg; simp [oldsOf, BS, Bx.nat, Bx.rat, Bx.ref] at hg; subst hg; omega)
  have HX := Lib.hid (show ∃ v, Ending.returned (.tuple #[.agg #[.slice A1 p1 c1, .slice B1 q1 e1], .int .i64 0]) = .returned (.tuple #[v, .int .i64 0]) ∧ F64 w' v (rn (n * e) (d * m)) (rd (n * e) (d * m)) ∧ Below w.heap.size w w' from ⟨_, rfl, ⟨A1, p1, c1, B1, q1, e1, x1, rfl, h1, h2, h3⟩, hbw⟩)
  clear hJ h1 h2 hbw hblk hcs hf
  go_wp2_with fail
  exact bodyPost_ret (v := .tuple #[.agg #[.slice A1 p1 c1, .slice B1 q1 e1], .int .i64 0]) (by simp [results, Try.results71, go_sem, k0, k1]) rfl HX.out
set_option maxRecDepth 100000 in
set_option maxHeartbeats 4000000 in
theorem rdivF_no (va vb : Value) (n d m e : Nat) (w : World) (ha : F64 w va n d) (hb : F64 w vb m e) (hm0 : m = 0) : Calls Try.prog 71 #[va, vb] w fun x w' => ∃ v, x = .returned (.tuple #[v, .int .i64 1]) ∧ F64 w' v 0 1 ∧ Below w.heap.size w w' := by
  have Ha := Lib.hid ha
  obtain ⟨Pa, pa, ca, Qa, qa, ea, xa, rfl, _, _, _⟩ := ha
  have Hb := Lib.hid hb
  obtain ⟨Pb, pb, cb, Qb, qb, eb, xb, rfl, _, _, _⟩ := hb
  have HZ := Lib.hid (fun v W h => rzero_yes v m e W h hm0)
  clear hm0
  have e0 := ((Blk.new (w) 47 #[(.slice Pa pa ca), (.slice Qa qa ea)]).alloc (.cells #[(.slice Pb pb cb), (.slice Qb qb eb)] 47)).alloc (.cells #[(.slice none 0 0), (.slice none 0 0)] 47)
  have e1 := (Blk.new ((w).alloc (.cells #[(.slice Pa pa ca), (.slice Qa qa ea)] 47)) 47 #[(.slice Pb pb cb), (.slice Qb qb eb)]).alloc (.cells #[(.slice none 0 0), (.slice none 0 0)] 47)
  have e2 := Blk.new (((w).alloc (.cells #[(.slice Pa pa ca), (.slice Qa qa ea)] 47)).alloc (.cells #[(.slice Pb pb cb), (.slice Qb qb eb)] 47)) 47 #[(.slice none 0 0), (.slice none 0 0)]
  have hb := cba (cba (cba (Below.refl _ w) (.cells #[(.slice Pa pa ca), (.slice Qa qa ea)] 47)) (.cells #[(.slice Pb pb cb), (.slice Qb qb eb)] 47)) (.cells #[(.slice none 0 0), (.slice none 0 0)] 47)
  simp only [World.size_alloc] at e1 e2
  have hsz : w.heap.size ≤ w.heap.size := Nat.le_refl _
  go_enter Try.func71, Try.ntmps71
  go_upto_region 1 with (fail)
  obtain ⟨S, hS⟩ : ∃ S, (((w).alloc (.cells #[(.slice Pa pa ca), (.slice Qa qa ea)] 47)).alloc (.cells #[(.slice Pb pb cb), (.slice Qb qb eb)] 47)).alloc (.cells #[(.slice none 0 0), (.slice none 0 0)] 47) = S := ⟨_, rfl⟩
  rw [hS] at e0 e1 e2 hb ⊢
  replace Ha := Lib.hid (Ha.out.below hb)
  replace Hb := Lib.hid (Hb.out.below hb)
  have HB0 := Lib.hid hb
  have E0 := Lib.hid e0
  have E1 := Lib.hid e1
  have E2 := Lib.hid e2
  clear hS hb hsz e0 e1 e2
  have k_E0_0 := E0.out.cell 0
  have k_E0_1 := E0.out.cell 1
  have k_E1_0 := E1.out.cell 0
  have k_E1_1 := E1.out.cell 1
  have k_E2_0 := E2.out.cell 0
  have k_E2_1 := E2.out.cell 1
  go_wp2_with fail
  refine (HZ.out _ _ Hb.out).mono ?_
  rintro e w1 ⟨rfl, hb⟩
  clear k_E0_0 k_E0_1 k_E1_0 k_E1_1 k_E2_0 k_E2_1
  replace Ha := Lib.hid (Ha.out.below hb)
  replace Hb := Lib.hid (Hb.out.below hb)
  replace E0 := Lib.hid (blk_below E0.out hb)
  replace E1 := Lib.hid (blk_below E1.out hb)
  replace E2 := Lib.hid (blk_below E2.out hb)
  replace HB0 := Lib.hid (cbt HB0.out hb)
  clear hb
  have k_E0_0 := E0.out.cell 0
  have k_E0_1 := E0.out.cell 1
  have k_E1_0 := E1.out.cell 0
  have k_E1_1 := E1.out.cell 1
  have k_E2_0 := E2.out.cell 0
  have k_E2_1 := E2.out.cell 1
  have f0 := E2.out.frozen 0
  have f1 := E2.out.frozen 1
  have HX := Lib.hid (show ∃ v, Ending.returned (.tuple #[.agg #[.slice none 0 0, .slice none 0 0], .int .i64 1]) = .returned (.tuple #[v, .int .i64 1]) ∧ F64 ((w1.setCell ⟨w.heap.size + 1 + 1, 0, none⟩ (.slice none 0 0)).setCell ⟨w.heap.size + 1 + 1, 1, none⟩ (.slice none 0 0)) v 0 1 ∧ Below w.heap.size w ((w1.setCell ⟨w.heap.size + 1 + 1, 0, none⟩ (.slice none 0 0)).setCell ⟨w.heap.size + 1 + 1, 1, none⟩ (.slice none 0 0)) from
    ⟨_, rfl, F64.none, (HB0.out.setCell (p := ⟨w.heap.size + 1 + 1, 0, none⟩) (by simp only []; omega) _).setCell (p := ⟨w.heap.size + 1 + 1, 1, none⟩) (by simp only []; omega) _⟩)
  go_wp2
  exact bodyPost_ret (v := .tuple #[.agg #[.slice none 0 0, .slice none 0 0], .int .i64 1]) (by simp [results, Try.results71, go_sem, k_E2_0, k_E2_1]) rfl HX.out
set_option maxRecDepth 100000 in
set_option maxHeartbeats 4000000 in
theorem rlessF_no (va vb : Value) (n d m e : Nat) (w : World) (ha : F64 w va n d) (hb : F64 w vb m e) (hn : wl 64 n ≤ 100000000) (hd : wl 64 d ≤ 100000000) (hm : wl 64 m ≤ 100000000) (he : wl 64 e ≤ 100000000) (hle : n * e < m * d) : Calls Try.prog 62 #[va, vb] w (MkF w 0 1) := by
  have Ha := Lib.hid ha
  obtain ⟨Pa, pa, ca, Qa, qa, ea, xa, rfl, _, _, _⟩ := ha
  have Hb := Lib.hid hb
  obtain ⟨Pb, pb, cb, Qb, qb, eb, xb, rfl, _, _, _⟩ := hb
  have HNU := Lib.hid num_any
  have HDE := Lib.hid den_any
  have hd0 : 0 < d := by obtain ⟨_, _, _, _, _, _, _, _, _, _, h⟩ := Ha.out; exact h.pos
  have he0 : 0 < e := by obtain ⟨_, _, _, _, _, _, _, _, _, _, h⟩ := Hb.out; exact h.pos
  have hm1 := wl_mul_le (k := 64) (x := n) (y := e) (by decide) hn he
  have HM1 := Lib.hid (fun va vb W h1 h2 => nmul_any va vb (n) (e) W h1 h2 (by omega) (by omega))
  have hm2 := wl_mul_le (k := 64) (x := m) (y := d) (by decide) hm hd
  have HM2 := Lib.hid (fun va vb W h1 h2 => nmul_any va vb (m) (d) W h1 h2 (by omega) (by omega))
  have HSB := Lib.hid (fun va vb W h1 h2 => nsub_no va vb (n * e) (m * d) W h1 h2 hle)
  have HIN : Hid (∀ W, Calls Try.prog 74 #[.int .u64 0] W (MkF W 0 1)) := Lib.hid (fun W => rint_any 0 (by decide) W)
  clear hm1 hm2 hle hd0 he0
  clear hn hd hm he
  have e0 := ((Blk.new (w) 47 #[(.slice Pa pa ca), (.slice Qa qa ea)]).alloc (.cells #[(.slice Pb pb cb), (.slice Qb qb eb)] 47)).alloc (.cells #[(.slice none 0 0), (.slice none 0 0)] 47)
  have e1 := (Blk.new ((w).alloc (.cells #[(.slice Pa pa ca), (.slice Qa qa ea)] 47)) 47 #[(.slice Pb pb cb), (.slice Qb qb eb)]).alloc (.cells #[(.slice none 0 0), (.slice none 0 0)] 47)
  have e2 := Blk.new (((w).alloc (.cells #[(.slice Pa pa ca), (.slice Qa qa ea)] 47)).alloc (.cells #[(.slice Pb pb cb), (.slice Qb qb eb)] 47)) 47 #[(.slice none 0 0), (.slice none 0 0)]
  have hb := cba (cba (cba (Below.refl _ w) (.cells #[(.slice Pa pa ca), (.slice Qa qa ea)] 47)) (.cells #[(.slice Pb pb cb), (.slice Qb qb eb)] 47)) (.cells #[(.slice none 0 0), (.slice none 0 0)] 47)
  simp only [World.size_alloc] at e1 e2
  have hsz : w.heap.size ≤ w.heap.size := Nat.le_refl _
  go_enter Try.func62, Try.ntmps62
  go_upto_region 1 with (fail)
  obtain ⟨S, hS⟩ : ∃ S, (((w).alloc (.cells #[(.slice Pa pa ca), (.slice Qa qa ea)] 47)).alloc (.cells #[(.slice Pb pb cb), (.slice Qb qb eb)] 47)).alloc (.cells #[(.slice none 0 0), (.slice none 0 0)] 47) = S := ⟨_, rfl⟩
  rw [hS] at e0 e1 e2 hb ⊢
  replace Ha := Lib.hid (Ha.out.below hb)
  replace Hb := Lib.hid (Hb.out.below hb)
  have HB0 := Lib.hid hb
  have E0 := Lib.hid e0
  have E1 := Lib.hid e1
  have E2 := Lib.hid e2
  clear hS hb hsz e0 e1 e2
  go_wp2_with fail
  let FS : List Kept1 := [.f (n) (d), .n (n), .f (m) (e), .n (e), .n (n * e), .f (m) (e), .n (m), .f (n) (d), .n (d), .n (m * d), .two (.n (0)) (.eq (.int .i64 8)), .two (.n (0)) (.eq (.int .i64 8)), .n (0), .eq (.int .i64 8), .any, .any, .eq (.int .i64 8)]
  let BS : List Bx := [Bx.nat (.inl 14) 15 #[.slice none 0 0] (0)]
  refine region_mono (Held S (fun j => FS.getD j .any) BS) (by kernel_rfl) (by kernel_rfl) (by kernel_rfl) (Held.start _ _ _ (by simp [BS, Bx.nat, Bx.rat, Bx.ref]) (by simp [BS, Bx.nat, Bx.rat, Bx.ref])) ?_
  refine Steps.held ?_ ?_
  · intro L v w' hJ
    have kb := hJ.out.blk E0.out (by simp [oldsOf, BS, Bx.nat, Bx.rat, Bx.ref])
    have k0 := kb.cell 0
    have k1 := kb.cell 1
    clear kb
    go_wp2_with fail
    exact ⟨rfl, rfl, hJ.out.same (by rfl) (Ha.out.keep hJ.out.held.keep)⟩
  simp only [Act.put, List.setIfInBounds_toArray, List.set_cons_zero, List.set_cons_succ, Nat.reduceAdd]
  refine Steps.held ?_ ?_
  · intro L v w' hJ
    have X0 := Lib.hid (show F64 w' (v 0) (n) (d) from hJ.out.fact 0 (by kernel_rfl))
    go_wp2_with fail
    refine (HNU.out _ _ _ _ X0.out).mono ?_
    rintro e w1 ⟨u, rfl, hu, hb⟩
    go_wp2_with fail
    exact ⟨rfl, rfl, hJ.out.call (by rfl) hb (hu)⟩
  simp only [Act.put, List.setIfInBounds_toArray, List.set_cons_zero, List.set_cons_succ, Nat.reduceAdd]
  refine Steps.held ?_ ?_
  · intro L v w' hJ
    have kb := hJ.out.blk E1.out (by simp [oldsOf, BS, Bx.nat, Bx.rat, Bx.ref])
    have k0 := kb.cell 0
    have k1 := kb.cell 1
    clear kb
    go_wp2_with fail
    exact ⟨rfl, rfl, hJ.out.same (by rfl) (Hb.out.keep hJ.out.held.keep)⟩
  simp only [Act.put, List.setIfInBounds_toArray, List.set_cons_zero, List.set_cons_succ, Nat.reduceAdd]
  refine Steps.held ?_ ?_
  · intro L v w' hJ
    have X0 := Lib.hid (show F64 w' (v 2) (m) (e) from hJ.out.fact 2 (by kernel_rfl))
    go_wp2_with fail
    refine (HDE.out _ _ _ _ X0.out).mono ?_
    rintro e w1 ⟨u, rfl, hu, hb⟩
    go_wp2_with fail
    exact ⟨rfl, rfl, hJ.out.call (by rfl) hb (hu)⟩
  simp only [Act.put, List.setIfInBounds_toArray, List.set_cons_zero, List.set_cons_succ, Nat.reduceAdd]
  refine Steps.held ?_ ?_
  · intro L v w' hJ
    have X0 := Lib.hid (show N64 w' (v 1) (n) from hJ.out.fact 1 (by kernel_rfl))
    have X1 := Lib.hid (show N64 w' (v 3) (e) from hJ.out.fact 3 (by kernel_rfl))
    go_wp2_with fail
    refine (HM1.out _ _ _ X0.out X1.out).mono ?_
    rintro e w1 ⟨u, rfl, hu, hb⟩
    go_wp2_with fail
    exact ⟨rfl, rfl, hJ.out.call (by rfl) hb (hu)⟩
  simp only [Act.put, List.setIfInBounds_toArray, List.set_cons_zero, List.set_cons_succ, Nat.reduceAdd]
  refine Steps.held ?_ ?_
  · intro L v w' hJ
    have kb := hJ.out.blk E1.out (by simp [oldsOf, BS, Bx.nat, Bx.rat, Bx.ref])
    have k0 := kb.cell 0
    have k1 := kb.cell 1
    clear kb
    go_wp2_with fail
    exact ⟨rfl, rfl, hJ.out.same (by rfl) (Hb.out.keep hJ.out.held.keep)⟩
  simp only [Act.put, List.setIfInBounds_toArray, List.set_cons_zero, List.set_cons_succ, Nat.reduceAdd]
  refine Steps.held ?_ ?_
  · intro L v w' hJ
    have X0 := Lib.hid (show F64 w' (v 5) (m) (e) from hJ.out.fact 5 (by kernel_rfl))
    go_wp2_with fail
    refine (HNU.out _ _ _ _ X0.out).mono ?_
    rintro e w1 ⟨u, rfl, hu, hb⟩
    go_wp2_with fail
    exact ⟨rfl, rfl, hJ.out.call (by rfl) hb (hu)⟩
  simp only [Act.put, List.setIfInBounds_toArray, List.set_cons_zero, List.set_cons_succ, Nat.reduceAdd]
  refine Steps.held ?_ ?_
  · intro L v w' hJ
    have kb := hJ.out.blk E0.out (by simp [oldsOf, BS, Bx.nat, Bx.rat, Bx.ref])
    have k0 := kb.cell 0
    have k1 := kb.cell 1
    clear kb
    go_wp2_with fail
    exact ⟨rfl, rfl, hJ.out.same (by rfl) (Ha.out.keep hJ.out.held.keep)⟩
  simp only [Act.put, List.setIfInBounds_toArray, List.set_cons_zero, List.set_cons_succ, Nat.reduceAdd]
  refine Steps.held ?_ ?_
  · intro L v w' hJ
    have X0 := Lib.hid (show F64 w' (v 7) (n) (d) from hJ.out.fact 7 (by kernel_rfl))
    go_wp2_with fail
    refine (HDE.out _ _ _ _ X0.out).mono ?_
    rintro e w1 ⟨u, rfl, hu, hb⟩
    go_wp2_with fail
    exact ⟨rfl, rfl, hJ.out.call (by rfl) hb (hu)⟩
  simp only [Act.put, List.setIfInBounds_toArray, List.set_cons_zero, List.set_cons_succ, Nat.reduceAdd]
  refine Steps.held ?_ ?_
  · intro L v w' hJ
    have X0 := Lib.hid (show N64 w' (v 6) (m) from hJ.out.fact 6 (by kernel_rfl))
    have X1 := Lib.hid (show N64 w' (v 8) (d) from hJ.out.fact 8 (by kernel_rfl))
    go_wp2_with fail
    refine (HM2.out _ _ _ X0.out X1.out).mono ?_
    rintro e w1 ⟨u, rfl, hu, hb⟩
    go_wp2_with fail
    exact ⟨rfl, rfl, hJ.out.call (by rfl) hb (hu)⟩
  simp only [Act.put, List.setIfInBounds_toArray, List.set_cons_zero, List.set_cons_succ, Nat.reduceAdd]
  refine Steps.held ?_ ?_
  · intro L v w' hJ
    have X0 := Lib.hid (show N64 w' (v 4) (n * e) from hJ.out.fact 4 (by kernel_rfl))
    have X1 := Lib.hid (show N64 w' (v 9) (m * d) from hJ.out.fact 9 (by kernel_rfl))
    go_wp2_with fail
    refine (HSB.out _ _ _ X0.out X1.out).mono ?_
    rintro e w1 ⟨u, rfl, hu, hb⟩
    go_wp2_with fail
    exact ⟨rfl, rfl, hJ.out.call (by rfl) hb (⟨_, _, rfl, hu, rfl⟩)⟩
  simp only [Act.put, List.setIfInBounds_toArray, List.set_cons_zero, List.set_cons_succ, Nat.reduceAdd]
  refine Steps.held ?_ ?_
  · intro L v w' hJ
    go_wp2_with fail
    exact ⟨rfl, rfl, hJ.out.same (by rfl) (hJ.out.fact 10 (by kernel_rfl))⟩
  simp only [Act.put, List.setIfInBounds_toArray, List.set_cons_zero, List.set_cons_succ, Nat.reduceAdd]
  refine Steps.held ?_ ?_
  · intro L v w' hJ
    obtain ⟨x0, x1, hv, h0, h1⟩ := hJ.out.fact 11 (by kernel_rfl)
    simp only [hv]
    clear hv
    go_wp2_with fail
    exact ⟨rfl, rfl, hJ.out.same (by rfl) (h0)⟩
  simp only [Act.put, List.setIfInBounds_toArray, List.set_cons_zero, List.set_cons_succ, Nat.reduceAdd]
  refine Steps.held ?_ ?_
  · intro L v w' hJ
    obtain ⟨x0, x1, hv, h0, h1⟩ := hJ.out.fact 11 (by kernel_rfl)
    simp only [hv]
    clear hv
    go_wp2_with fail
    exact ⟨rfl, rfl, hJ.out.same (by rfl) (h1)⟩
  simp only [Act.put, List.setIfInBounds_toArray, List.set_cons_zero, List.set_cons_succ, Nat.reduceAdd]
  refine Steps.held ?_ ?_
  · intro L v w' hJ
    go_wp2_with fail
    exact ⟨rfl, rfl, hJ.out.made 0 _ rfl rfl (by rfl) trivial⟩
  simp only [Act.put, List.setIfInBounds_toArray, List.set_cons_zero, List.set_cons_succ, Nat.reduceAdd]
  refine Steps.held ?_ ?_
  · intro L v w' hJ
    obtain ⟨g, hg, hge, hown, hst⟩ := hJ.out.newbox 0 _ rfl 14 rfl (by kernel_rfl)
    have hN : N64 w' (v 12) (0) := hJ.out.fact 12 (by kernel_rfl)
    obtain ⟨P, c, hv, h1, h2, h3⟩ := hN
    have HN := Lib.hid (show N64 w' (.agg #[.slice P (wl 64 (0)) c]) (0) from ⟨P, c, rfl, h1, h2, h3⟩)
    have kb := hJ.out.box 0 _ rfl rfl g hown
    have k0 : w'.cell? ⟨g, 0, none⟩ = some (.slice none 0 0) := kb.cell 0
    have f0 := kb.frozen 0
    have HO := Lib.hid hown
    have HS := Lib.hid hst
    clear kb h1 h2 h3 hown hst
    simp only [hg, hv]
    clear hg hv
    go_wp2_with fail
    exact ⟨rfl, rfl, hJ.out.fill1 0 _ rfl rfl (by rfl) g HO.out HS.out _ rfl rfl (fun W k => ⟨P, c, rfl, HN.out.keep k⟩) (fun _ => trivial)⟩
  simp only [Act.put, List.setIfInBounds_toArray, List.set_cons_zero, List.set_cons_succ, Nat.reduceAdd]
  refine Steps.held ?_ ?_
  · intro L v w' hJ
    have hv13 : v 13 = .int .i64 8 := hJ.out.fact 13 (by kernel_rfl)
    simp only [hv13]
    clear hv13
    go_wp2_with fail
    exact ⟨rfl, rfl, hJ.out.same (by rfl) (rfl)⟩
  simp only [Act.put, List.setIfInBounds_toArray, List.set_cons_zero, List.set_cons_succ, Nat.reduceAdd]
  refine Steps.nil ?_
  intro v w' hJ
  obtain ⟨g3, cs14, hv14, hge14, hb14, A14, c14, rfl, hn14⟩ := hJ.end_new 0 _ rfl 14 rfl (by decide) (Nat.le_of_ble_eq_true rfl)
  simp only [hv14]
  have E3 := Lib.hid (show Blk _ _ 26 _ from hb14)
  have NE3 := Lib.hid hn14
  clear hv14 hb14 hn14
  have h16 : v 16 = .int .i64 8 := hJ.end_fact 16 (by decide)
  simp only [h16]
  clear h16
  have hbr := hJ.but.below
  replace Ha := Lib.hid (Ha.out.below hbr)
  replace Hb := Lib.hid (Hb.out.below hbr)
  replace E0 := Lib.hid (blk_below E0.out hbr)
  replace E1 := Lib.hid (blk_below E1.out hbr)
  replace E2 := Lib.hid (blk_below E2.out hbr)
  replace HB0 := Lib.hid (cbt HB0.out hbr)
  clear hJ hbr
  have k_E2_0 := E2.out.cell 0
  have k_E2_1 := E2.out.cell 1
  go_wp2_with fail
  refine (HIN.out _).mono ?_
  rintro e w2 ⟨u, rfl, hu, hb⟩
  clear k_E2_0 k_E2_1
  replace E2 := Lib.hid (blk_below E2.out hb)
  replace HB0 := Lib.hid (cbt HB0.out hb)
  have NR := Lib.hid hu
  clear hb hu
  have k_E2_0 := E2.out.cell 0
  have k_E2_1 := E2.out.cell 1
  have ZR := NR.out
  obtain ⟨A1, p1, c1, B1, q1, e1, x1, rfl, _, _, _⟩ := ZR
  have f0 := E2.out.frozen 0
  have f1 := E2.out.frozen 1
  have HX := Lib.hid (show MkF w 0 1 (.returned (.agg #[.slice A1 p1 c1, .slice B1 q1 e1])) ((w2.setCell ⟨w.heap.size + 1 + 1, 0, none⟩ (.slice A1 p1 c1)).setCell ⟨w.heap.size + 1 + 1, 1, none⟩ (.slice B1 q1 e1)) from
    ⟨_, rfl, (NR.out.keep (Keep.set E2.out 0 rfl _)).keep (Keep.set (E2.out.set_ 0 _) 1 rfl _), (HB0.out.setCell (p := ⟨w.heap.size + 1 + 1, 0, none⟩) (by simp only []; omega) _).setCell (p := ⟨w.heap.size + 1 + 1, 1, none⟩) (by simp only []; omega) _⟩)
  go_wp2
  exact bodyPost_ret (v := .agg #[.slice A1 p1 c1, .slice B1 q1 e1]) (by simp [results, Try.results62, go_sem, k_E2_0, k_E2_1]) rfl HX.out
set_option maxRecDepth 100000 in
set_option maxHeartbeats 4000000 in
theorem rlessF_any (va vb : Value) (n d m e : Nat) (w : World) (ha : F64 w va n d) (hb : F64 w vb m e) (hn : wl 64 n ≤ 100000000) (hd : wl 64 d ≤ 100000000) (hm : wl 64 m ≤ 100000000) (he : wl 64 e ≤ 100000000) (hle : m * d ≤ n * e) : Calls Try.prog 62 #[va, vb] w (MkF w (rn (n * e - m * d) (d * e)) (rd (n * e - m * d) (d * e))) := by
  have Ha := Lib.hid ha
  obtain ⟨Pa, pa, ca, Qa, qa, ea, xa, rfl, _, _, _⟩ := ha
  have Hb := Lib.hid hb
  obtain ⟨Pb, pb, cb, Qb, qb, eb, xb, rfl, _, _, _⟩ := hb
  have HNU := Lib.hid num_any
  have HDE := Lib.hid den_any
  have hd0 : 0 < d := by obtain ⟨_, _, _, _, _, _, _, _, _, _, h⟩ := Ha.out; exact h.pos
  have he0 : 0 < e := by obtain ⟨_, _, _, _, _, _, _, _, _, _, h⟩ := Hb.out; exact h.pos
  have hm1 := wl_mul_le (k := 64) (x := n) (y := e) (by decide) hn he
  have HM1 := Lib.hid (fun va vb W h1 h2 => nmul_any va vb (n) (e) W h1 h2 (by omega) (by omega))
  have hm2 := wl_mul_le (k := 64) (x := m) (y := d) (by decide) hm hd
  have HM2 := Lib.hid (fun va vb W h1 h2 => nmul_any va vb (m) (d) W h1 h2 (by omega) (by omega))
  obtain ⟨z, hz⟩ : ∃ z, n * e = z + m * d := ⟨n * e - m * d, by omega⟩
  have hz2 : n * e - m * d = z := by omega
  rw [hz2]
  have HSB := Lib.hid (fun va vb W h1 h2 => nsub_any va vb z (m * d) W h1 h2 (by rw [← hz]; omega))
  rw [← hz] at HSB
  have hm3 := wl_mul_le (k := 64) (x := d) (y := e) (by decide) hd he
  have HM3 := Lib.hid (fun va vb W h1 h2 => nmul_any va vb d e W h1 h2 (by omega) (by omega))
  have hzw : wl 64 z ≤ 200000000 := Nat.le_trans (wl_mono (by decide) (show z ≤ n * e by omega)) (by omega)
  have HMA := Lib.hid (fun va vb W h1 h2 => rmade_any va vb (z) (d * e) W h1 h2 (by omega) (by omega) (Nat.mul_pos hd0 he0))
  clear hm1 hm2 hm3 hle hz hz2 hzw hd0 he0
  clear hn hd hm he
  have e0 := ((Blk.new (w) 47 #[(.slice Pa pa ca), (.slice Qa qa ea)]).alloc (.cells #[(.slice Pb pb cb), (.slice Qb qb eb)] 47)).alloc (.cells #[(.slice none 0 0), (.slice none 0 0)] 47)
  have e1 := (Blk.new ((w).alloc (.cells #[(.slice Pa pa ca), (.slice Qa qa ea)] 47)) 47 #[(.slice Pb pb cb), (.slice Qb qb eb)]).alloc (.cells #[(.slice none 0 0), (.slice none 0 0)] 47)
  have e2 := Blk.new (((w).alloc (.cells #[(.slice Pa pa ca), (.slice Qa qa ea)] 47)).alloc (.cells #[(.slice Pb pb cb), (.slice Qb qb eb)] 47)) 47 #[(.slice none 0 0), (.slice none 0 0)]
  have hb := cba (cba (cba (Below.refl _ w) (.cells #[(.slice Pa pa ca), (.slice Qa qa ea)] 47)) (.cells #[(.slice Pb pb cb), (.slice Qb qb eb)] 47)) (.cells #[(.slice none 0 0), (.slice none 0 0)] 47)
  simp only [World.size_alloc] at e1 e2
  have hsz : w.heap.size ≤ w.heap.size := Nat.le_refl _
  go_enter Try.func62, Try.ntmps62
  go_upto_region 1 with (fail)
  obtain ⟨S, hS⟩ : ∃ S, (((w).alloc (.cells #[(.slice Pa pa ca), (.slice Qa qa ea)] 47)).alloc (.cells #[(.slice Pb pb cb), (.slice Qb qb eb)] 47)).alloc (.cells #[(.slice none 0 0), (.slice none 0 0)] 47) = S := ⟨_, rfl⟩
  rw [hS] at e0 e1 e2 hb ⊢
  replace Ha := Lib.hid (Ha.out.below hb)
  replace Hb := Lib.hid (Hb.out.below hb)
  have HB0 := Lib.hid hb
  have E0 := Lib.hid e0
  have E1 := Lib.hid e1
  have E2 := Lib.hid e2
  clear hS hb hsz e0 e1 e2
  go_wp2_with fail
  let FS : List Kept1 := [.f (n) (d), .n (n), .f (m) (e), .n (e), .n (n * e), .f (m) (e), .n (m), .f (n) (d), .n (d), .n (m * d), .two (.n (z)) (.eq (.int .i64 0)), .two (.n (z)) (.eq (.int .i64 0)), .n (z), .eq (.int .i64 0), .any, .any, .eq (.int .i64 0)]
  let BS : List Bx := [Bx.nat (.inl 14) 15 #[.slice none 0 0] (z)]
  refine region_mono (Held S (fun j => FS.getD j .any) BS) (by kernel_rfl) (by kernel_rfl) (by kernel_rfl) (Held.start _ _ _ (by simp [BS, Bx.nat, Bx.rat, Bx.ref]) (by simp [BS, Bx.nat, Bx.rat, Bx.ref])) ?_
  refine Steps.held ?_ ?_
  · intro L v w' hJ
    have kb := hJ.out.blk E0.out (by simp [oldsOf, BS, Bx.nat, Bx.rat, Bx.ref])
    have k0 := kb.cell 0
    have k1 := kb.cell 1
    clear kb
    go_wp2_with fail
    exact ⟨rfl, rfl, hJ.out.same (by rfl) (Ha.out.keep hJ.out.held.keep)⟩
  simp only [Act.put, List.setIfInBounds_toArray, List.set_cons_zero, List.set_cons_succ, Nat.reduceAdd]
  refine Steps.held ?_ ?_
  · intro L v w' hJ
    have X0 := Lib.hid (show F64 w' (v 0) (n) (d) from hJ.out.fact 0 (by kernel_rfl))
    go_wp2_with fail
    refine (HNU.out _ _ _ _ X0.out).mono ?_
    rintro e w1 ⟨u, rfl, hu, hb⟩
    go_wp2_with fail
    exact ⟨rfl, rfl, hJ.out.call (by rfl) hb (hu)⟩
  simp only [Act.put, List.setIfInBounds_toArray, List.set_cons_zero, List.set_cons_succ, Nat.reduceAdd]
  refine Steps.held ?_ ?_
  · intro L v w' hJ
    have kb := hJ.out.blk E1.out (by simp [oldsOf, BS, Bx.nat, Bx.rat, Bx.ref])
    have k0 := kb.cell 0
    have k1 := kb.cell 1
    clear kb
    go_wp2_with fail
    exact ⟨rfl, rfl, hJ.out.same (by rfl) (Hb.out.keep hJ.out.held.keep)⟩
  simp only [Act.put, List.setIfInBounds_toArray, List.set_cons_zero, List.set_cons_succ, Nat.reduceAdd]
  refine Steps.held ?_ ?_
  · intro L v w' hJ
    have X0 := Lib.hid (show F64 w' (v 2) (m) (e) from hJ.out.fact 2 (by kernel_rfl))
    go_wp2_with fail
    refine (HDE.out _ _ _ _ X0.out).mono ?_
    rintro e w1 ⟨u, rfl, hu, hb⟩
    go_wp2_with fail
    exact ⟨rfl, rfl, hJ.out.call (by rfl) hb (hu)⟩
  simp only [Act.put, List.setIfInBounds_toArray, List.set_cons_zero, List.set_cons_succ, Nat.reduceAdd]
  refine Steps.held ?_ ?_
  · intro L v w' hJ
    have X0 := Lib.hid (show N64 w' (v 1) (n) from hJ.out.fact 1 (by kernel_rfl))
    have X1 := Lib.hid (show N64 w' (v 3) (e) from hJ.out.fact 3 (by kernel_rfl))
    go_wp2_with fail
    refine (HM1.out _ _ _ X0.out X1.out).mono ?_
    rintro e w1 ⟨u, rfl, hu, hb⟩
    go_wp2_with fail
    exact ⟨rfl, rfl, hJ.out.call (by rfl) hb (hu)⟩
  simp only [Act.put, List.setIfInBounds_toArray, List.set_cons_zero, List.set_cons_succ, Nat.reduceAdd]
  refine Steps.held ?_ ?_
  · intro L v w' hJ
    have kb := hJ.out.blk E1.out (by simp [oldsOf, BS, Bx.nat, Bx.rat, Bx.ref])
    have k0 := kb.cell 0
    have k1 := kb.cell 1
    clear kb
    go_wp2_with fail
    exact ⟨rfl, rfl, hJ.out.same (by rfl) (Hb.out.keep hJ.out.held.keep)⟩
  simp only [Act.put, List.setIfInBounds_toArray, List.set_cons_zero, List.set_cons_succ, Nat.reduceAdd]
  refine Steps.held ?_ ?_
  · intro L v w' hJ
    have X0 := Lib.hid (show F64 w' (v 5) (m) (e) from hJ.out.fact 5 (by kernel_rfl))
    go_wp2_with fail
    refine (HNU.out _ _ _ _ X0.out).mono ?_
    rintro e w1 ⟨u, rfl, hu, hb⟩
    go_wp2_with fail
    exact ⟨rfl, rfl, hJ.out.call (by rfl) hb (hu)⟩
  simp only [Act.put, List.setIfInBounds_toArray, List.set_cons_zero, List.set_cons_succ, Nat.reduceAdd]
  refine Steps.held ?_ ?_
  · intro L v w' hJ
    have kb := hJ.out.blk E0.out (by simp [oldsOf, BS, Bx.nat, Bx.rat, Bx.ref])
    have k0 := kb.cell 0
    have k1 := kb.cell 1
    clear kb
    go_wp2_with fail
    exact ⟨rfl, rfl, hJ.out.same (by rfl) (Ha.out.keep hJ.out.held.keep)⟩
  simp only [Act.put, List.setIfInBounds_toArray, List.set_cons_zero, List.set_cons_succ, Nat.reduceAdd]
  refine Steps.held ?_ ?_
  · intro L v w' hJ
    have X0 := Lib.hid (show F64 w' (v 7) (n) (d) from hJ.out.fact 7 (by kernel_rfl))
    go_wp2_with fail
    refine (HDE.out _ _ _ _ X0.out).mono ?_
    rintro e w1 ⟨u, rfl, hu, hb⟩
    go_wp2_with fail
    exact ⟨rfl, rfl, hJ.out.call (by rfl) hb (hu)⟩
  simp only [Act.put, List.setIfInBounds_toArray, List.set_cons_zero, List.set_cons_succ, Nat.reduceAdd]
  refine Steps.held ?_ ?_
  · intro L v w' hJ
    have X0 := Lib.hid (show N64 w' (v 6) (m) from hJ.out.fact 6 (by kernel_rfl))
    have X1 := Lib.hid (show N64 w' (v 8) (d) from hJ.out.fact 8 (by kernel_rfl))
    go_wp2_with fail
    refine (HM2.out _ _ _ X0.out X1.out).mono ?_
    rintro e w1 ⟨u, rfl, hu, hb⟩
    go_wp2_with fail
    exact ⟨rfl, rfl, hJ.out.call (by rfl) hb (hu)⟩
  simp only [Act.put, List.setIfInBounds_toArray, List.set_cons_zero, List.set_cons_succ, Nat.reduceAdd]
  refine Steps.held ?_ ?_
  · intro L v w' hJ
    have X0 := Lib.hid (show N64 w' (v 4) (n * e) from hJ.out.fact 4 (by kernel_rfl))
    have X1 := Lib.hid (show N64 w' (v 9) (m * d) from hJ.out.fact 9 (by kernel_rfl))
    go_wp2_with fail
    refine (HSB.out _ _ _ X0.out X1.out).mono ?_
    rintro e w1 ⟨u, rfl, hu, hb⟩
    go_wp2_with fail
    exact ⟨rfl, rfl, hJ.out.call (by rfl) hb (⟨_, _, rfl, hu, rfl⟩)⟩
  simp only [Act.put, List.setIfInBounds_toArray, List.set_cons_zero, List.set_cons_succ, Nat.reduceAdd]
  refine Steps.held ?_ ?_
  · intro L v w' hJ
    go_wp2_with fail
    exact ⟨rfl, rfl, hJ.out.same (by rfl) (hJ.out.fact 10 (by kernel_rfl))⟩
  simp only [Act.put, List.setIfInBounds_toArray, List.set_cons_zero, List.set_cons_succ, Nat.reduceAdd]
  refine Steps.held ?_ ?_
  · intro L v w' hJ
    obtain ⟨x0, x1, hv, h0, h1⟩ := hJ.out.fact 11 (by kernel_rfl)
    simp only [hv]
    clear hv
    go_wp2_with fail
    exact ⟨rfl, rfl, hJ.out.same (by rfl) (h0)⟩
  simp only [Act.put, List.setIfInBounds_toArray, List.set_cons_zero, List.set_cons_succ, Nat.reduceAdd]
  refine Steps.held ?_ ?_
  · intro L v w' hJ
    obtain ⟨x0, x1, hv, h0, h1⟩ := hJ.out.fact 11 (by kernel_rfl)
    simp only [hv]
    clear hv
    go_wp2_with fail
    exact ⟨rfl, rfl, hJ.out.same (by rfl) (h1)⟩
  simp only [Act.put, List.setIfInBounds_toArray, List.set_cons_zero, List.set_cons_succ, Nat.reduceAdd]
  refine Steps.held ?_ ?_
  · intro L v w' hJ
    go_wp2_with fail
    exact ⟨rfl, rfl, hJ.out.made 0 _ rfl rfl (by rfl) trivial⟩
  simp only [Act.put, List.setIfInBounds_toArray, List.set_cons_zero, List.set_cons_succ, Nat.reduceAdd]
  refine Steps.held ?_ ?_
  · intro L v w' hJ
    obtain ⟨g, hg, hge, hown, hst⟩ := hJ.out.newbox 0 _ rfl 14 rfl (by kernel_rfl)
    have hN : N64 w' (v 12) (z) := hJ.out.fact 12 (by kernel_rfl)
    obtain ⟨P, c, hv, h1, h2, h3⟩ := hN
    have HN := Lib.hid (show N64 w' (.agg #[.slice P (wl 64 (z)) c]) (z) from ⟨P, c, rfl, h1, h2, h3⟩)
    have kb := hJ.out.box 0 _ rfl rfl g hown
    have k0 : w'.cell? ⟨g, 0, none⟩ = some (.slice none 0 0) := kb.cell 0
    have f0 := kb.frozen 0
    have HO := Lib.hid hown
    have HS := Lib.hid hst
    clear kb h1 h2 h3 hown hst
    simp only [hg, hv]
    clear hg hv
    go_wp2_with fail
    exact ⟨rfl, rfl, hJ.out.fill1 0 _ rfl rfl (by rfl) g HO.out HS.out _ rfl rfl (fun W k => ⟨P, c, rfl, HN.out.keep k⟩) (fun _ => trivial)⟩
  simp only [Act.put, List.setIfInBounds_toArray, List.set_cons_zero, List.set_cons_succ, Nat.reduceAdd]
  refine Steps.held ?_ ?_
  · intro L v w' hJ
    have hv13 : v 13 = .int .i64 0 := hJ.out.fact 13 (by kernel_rfl)
    simp only [hv13]
    clear hv13
    go_wp2_with fail
    exact ⟨rfl, rfl, hJ.out.same (by rfl) (rfl)⟩
  simp only [Act.put, List.setIfInBounds_toArray, List.set_cons_zero, List.set_cons_succ, Nat.reduceAdd]
  refine Steps.nil ?_
  intro v w' hJ
  have hE2 := E2.out.lt
  obtain ⟨g3, cs14, hv14, hge14, hb14, A14, c14, rfl, hn14⟩ := hJ.end_new 0 _ rfl 14 rfl (by decide) (Nat.le_of_ble_eq_true rfl)
  simp only [hv14]
  have E3 := Lib.hid (show Blk _ _ 26 _ from hb14)
  have NE3 := Lib.hid hn14
  clear hv14 hb14 hn14
  have h16 : v 16 = .int .i64 0 := hJ.end_fact 16 (by decide)
  simp only [h16]
  clear h16
  have hbr := hJ.but.below
  replace Ha := Lib.hid (Ha.out.below hbr)
  replace Hb := Lib.hid (Hb.out.below hbr)
  replace E0 := Lib.hid (blk_below E0.out hbr)
  replace E1 := Lib.hid (blk_below E1.out hbr)
  replace E2 := Lib.hid (blk_below E2.out hbr)
  replace HB0 := Lib.hid (cbt HB0.out hbr)
  clear hJ hbr
  go_wp2_with fail
  let FS : List Kept1 := [.n (z), .f (n) (d), .n (d), .f (m) (e), .n (e), .n (d * e), .f (rn (z) (d * e)) (rd (z) (d * e)), .any]
  let BS : List Bx := [Bx.rat (.inr (w.heap.size + 1 + 1)) 7 #[(.slice none 0 0), (.slice none 0 0)] (rn (z) (d * e)) (rd (z) (d * e))]
  refine region_mono (Held w' (fun j => FS.getD j .any) BS) (by kernel_rfl) (by kernel_rfl) (by kernel_rfl) (Held.start _ _ _ (by simp [BS, Bx.nat, Bx.rat, Bx.ref] <;> exact E2.out) (by simp [BS, Bx.nat, Bx.rat, Bx.ref])) ?_
  refine Steps.held ?_ ?_
  · intro L v w' hJ
    have kb := hJ.out.blk E3.out (by simp [oldsOf, BS, Bx.nat, Bx.rat, Bx.ref]; omega)
    have k0 := kb.cell 0
    clear kb
    go_wp2_with fail
    exact ⟨rfl, rfl, hJ.out.same (by rfl) (NE3.out.keep hJ.out.held.keep)⟩
  simp only [Act.put, List.setIfInBounds_toArray, List.set_cons_zero, List.set_cons_succ, Nat.reduceAdd]
  refine Steps.held ?_ ?_
  · intro L v w' hJ
    have kb := hJ.out.blk E0.out (by simp [oldsOf, BS, Bx.nat, Bx.rat, Bx.ref] <;> omega)
    have k0 := kb.cell 0
    have k1 := kb.cell 1
    clear kb
    go_wp2_with fail
    exact ⟨rfl, rfl, hJ.out.same (by rfl) (Ha.out.keep hJ.out.held.keep)⟩
  simp only [Act.put, List.setIfInBounds_toArray, List.set_cons_zero, List.set_cons_succ, Nat.reduceAdd]
  refine Steps.held ?_ ?_
  · intro L v w' hJ
    have X0 := Lib.hid (show F64 w' (v 1) (n) (d) from hJ.out.fact 1 (by kernel_rfl))
    go_wp2_with fail
    refine (HDE.out _ _ _ _ X0.out).mono ?_
    rintro e w1 ⟨u, rfl, hu, hb⟩
    go_wp2_with fail
    exact ⟨rfl, rfl, hJ.out.call (by rfl) hb (hu)⟩
  simp only [Act.put, List.setIfInBounds_toArray, List.set_cons_zero, List.set_cons_succ, Nat.reduceAdd]
  refine Steps.held ?_ ?_
  · intro L v w' hJ
    have kb := hJ.out.blk E1.out (by simp [oldsOf, BS, Bx.nat, Bx.rat, Bx.ref] <;> omega)
    have k0 := kb.cell 0
    have k1 := kb.cell 1
    clear kb
    go_wp2_with fail
    exact ⟨rfl, rfl, hJ.out.same (by rfl) (Hb.out.keep hJ.out.held.keep)⟩
  simp only [Act.put, List.setIfInBounds_toArray, List.set_cons_zero, List.set_cons_succ, Nat.reduceAdd]
  refine Steps.held ?_ ?_
  · intro L v w' hJ
    have X0 := Lib.hid (show F64 w' (v 3) (m) (e) from hJ.out.fact 3 (by kernel_rfl))
    go_wp2_with fail
    refine (HDE.out _ _ _ _ X0.out).mono ?_
    rintro e w1 ⟨u, rfl, hu, hb⟩
    go_wp2_with fail
    exact ⟨rfl, rfl, hJ.out.call (by rfl) hb (hu)⟩
  simp only [Act.put, List.setIfInBounds_toArray, List.set_cons_zero, List.set_cons_succ, Nat.reduceAdd]
  refine Steps.held ?_ ?_
  · intro L v w' hJ
    have X0 := Lib.hid (show N64 w' (v 2) (d) from hJ.out.fact 2 (by kernel_rfl))
    have X1 := Lib.hid (show N64 w' (v 4) (e) from hJ.out.fact 4 (by kernel_rfl))
    go_wp2_with fail
    refine (HM3.out _ _ _ X0.out X1.out).mono ?_
    rintro e w1 ⟨u, rfl, hu, hb⟩
    go_wp2_with fail
    exact ⟨rfl, rfl, hJ.out.call (by rfl) hb (hu)⟩
  simp only [Act.put, List.setIfInBounds_toArray, List.set_cons_zero, List.set_cons_succ, Nat.reduceAdd]
  refine Steps.held ?_ ?_
  · intro L v w' hJ
    have X0 := Lib.hid (show N64 w' (v 0) (z) from hJ.out.fact 0 (by kernel_rfl))
    have X1 := Lib.hid (show N64 w' (v 5) (d * e) from hJ.out.fact 5 (by kernel_rfl))
    go_wp2_with fail
    refine (HMA.out _ _ _ X0.out X1.out).mono ?_
    rintro e w1 ⟨u, rfl, hu, hb⟩
    go_wp2_with fail
    exact ⟨rfl, rfl, hJ.out.call (by rfl) hb (hu)⟩
  simp only [Act.put, List.setIfInBounds_toArray, List.set_cons_zero, List.set_cons_succ, Nat.reduceAdd]
  refine Steps.held ?_ ?_
  · intro L v w' hJ
    obtain ⟨hown, hst⟩ := hJ.out.oldbox 0 _ rfl (w.heap.size + 1 + 1) rfl
    have hN : F64 w' (v 6) (rn (z) (d * e)) (rd (z) (d * e)) := hJ.out.fact 6 (by kernel_rfl)
    obtain ⟨A1, p1, c1, B1, q1, e1, x1, hv, h1, h2, h3⟩ := hN
    have HN := Lib.hid (show F64 w' (.agg #[.slice A1 p1 c1, .slice B1 q1 e1]) (rn (z) (d * e)) (rd (z) (d * e)) from ⟨A1, p1, c1, B1, q1, e1, x1, rfl, h1, h2, h3⟩)
    have kb := hJ.out.box 0 _ rfl rfl (w.heap.size + 1 + 1) hown
    have k0 : w'.cell? ⟨(w.heap.size + 1 + 1), 0, none⟩ = some ((.slice none 0 0)) := kb.cell 0
    have k1 : w'.cell? ⟨(w.heap.size + 1 + 1), 1, none⟩ = some ((.slice none 0 0)) := kb.cell 1
    have f0 := kb.frozen 0
    have f1 := kb.frozen 1
    have HO := Lib.hid hown
    have HS := Lib.hid hst
    clear kb h1 h2 h3 hown hst
    simp only [hv]
    clear hv
    go_wp2_with fail
    exact ⟨rfl, rfl, hJ.out.fill2 0 _ rfl rfl (by rfl) (w.heap.size + 1 + 1) HO.out HS.out _ _ rfl rfl rfl (fun W k => HN.out.keep k) (fun _ => trivial)⟩
  simp only [Act.put, List.setIfInBounds_toArray, List.set_cons_zero, List.set_cons_succ, Nat.reduceAdd]
  refine Steps.nil ?_
  intro v w' hJ
  obtain ⟨cs, hblk, hf⟩ := hJ.end_old 0 _ rfl (w.heap.size + 1 + 1) rfl (Nat.le_of_ble_eq_true rfl)
  have hf' : F64 w' (.agg cs) (rn (z) (d * e)) (rd (z) (d * e)) := hf
  obtain ⟨A1, p1, c1, B1, q1, e1, x1, hcs, h1, h2, h3⟩ := hf'
  have hcs' := Value.agg.inj hcs
  subst hcs'
  have k0 := hblk.cell 0
  have k1 := hblk.cell 1
  have hbw : Below w.heap.size w w' := hJ.but.to_below HB0.out HB0.out.size (by intro g hg; simp [oldsOf, BS, Bx.nat, Bx.rat, Bx.ref] at hg; subst hg; omega)
  have HX := Lib.hid (show MkF w (rn (z) (d * e)) (rd (z) (d * e)) (.returned (.agg #[.slice A1 p1 c1, .slice B1 q1 e1])) w' from ⟨_, rfl, ⟨A1, p1, c1, B1, q1, e1, x1, rfl, h1, h2, h3⟩, hbw⟩)
  clear hJ h1 h2 hbw hblk hcs hf
  go_wp2_with fail
  exact bodyPost_ret (v := .agg #[.slice A1 p1 c1, .slice B1 q1 e1]) (by simp [results, Try.results62, go_sem, k0, k1]) rfl HX.out
end Go.Proofs.Yteikhnmmkanndaa
namespace Go.Proofs.Yteikhnmmkanndaa
open Go.RowKit Go.Proofs.YteikhnmmkanndaaW.PrintWords
set_option linter.unusedSimpArgs false
set_option linter.unusedVariables false
theorem wl_add_le {k x y a : Nat} (hk : 0 < k) (hx : wl k x ≤ a) (hy : wl k y ≤ a) : wl k (x + y) ≤ a + 1 := by
  rw [wl_le hk] at hx hy ⊢
  rw [Nat.mul_add, Nat.mul_one, Nat.pow_add]
  have : 2 ^ 1 ≤ 2 ^ k := Nat.pow_le_pow_right (by decide) hk
  have h2 : 2 ^ (k * a) * 2 ≤ 2 ^ (k * a) * 2 ^ k := Nat.mul_le_mul_left _ this
  omega
theorem cmpN_ge {x y : Nat} (h : y ≤ x) : 0 ≤ cmpN x y := by
  rcases Nat.eq_or_lt_of_le h with rfl | h
  · rw [cmpN_self]; exact Int.le_refl _
  · rw [cmpN_gt h]; decide
end Go.Proofs.Yteikhnmmkanndaa
