/- Laid together by merge.py out of: NDivA NDivB NDivC Gcd Parse Concat Text Live Args. -/
import Derived.Test.YteikhnmmkanndaaM3
import Derived.Test.YteikhnmmkanndaaM1
import Derived.Laws.Strings
import Derived.Laws.DeepStrings4
import Derived.Test.YteikhnmmkanndaaWZeros
import Derived.Test.YteikhnmmkanndaaPd
import Derived.ChangeSlices
import Derived.OpenShut
import Derived.ChangeOld
/- The walk of Div where the divisor is 0, or above, or one word. -/
namespace Go.Proofs.Yteikhnmmkanndaa
open Go.RowKit

theorem zero_yes (v : Value) (w : World) (h : N64 w v 0) : Calls Try.prog 29 #[v] w fun e w' => e = .returned (.bool true) ∧ Below w.heap.size w w' :=
  (zero_any v 0 w h).mono (fun _ _ ⟨he, hb⟩ => ⟨by rw [he]; rfl, hb⟩)
set_option maxRecDepth 100000 in
set_option maxHeartbeats 2000000 in
theorem ndiv_no (va vb : Value) (x : Nat) (w : World) (ha : N64 w va x) (hb : N64 w vb 0) :
    Calls Try.prog 23 #[va, vb] w fun e w' => ∃ q r, e = .returned (.tuple #[q, r, .int .i64 1]) ∧ N64 w' q 0 ∧ N64 w' r 0 ∧ Below w.heap.size w w' := by
  have HB := Lib.hid (fun W h => zero_yes vb W h)
  have HN := Lib.hid hb
  obtain ⟨A, ca, rfl, hla, hma, _⟩ := ha
  obtain ⟨B, cb, rfl, hlb, hmb, _⟩ := hb
  obtain ⟨n, hn⟩ : ∃ n, wl 64 x = n := ⟨_, rfl⟩
  obtain ⟨m, hm⟩ : ∃ m, wl 64 0 = m := ⟨_, rfl⟩
  rw [hn]
  rw [hm] at HB HN ⊢
  clear hn hm hla hma hlb hmb
  have hb0 := cba (cba (cba (cba (Below.refl _ w) (.cells #[.slice A n ca] 26)) (.cells #[.slice B m cb] 26)) (.cells #[.slice none 0 0] 26)) (.cells #[.slice none 0 0] 26)
  have e2 := (Blk.new ((w.alloc (.cells #[.slice A n ca] 26)).alloc (.cells #[.slice B m cb] 26)) 26 #[.slice none 0 0]).alloc (.cells #[.slice none 0 0] 26)
  have e3 := Blk.new (((w.alloc (.cells #[.slice A n ca] 26)).alloc (.cells #[.slice B m cb] 26)).alloc (.cells #[.slice none 0 0] 26)) 26 #[.slice none 0 0]
  simp only [World.size_alloc] at e2 e3
  go_enter Try.func23, Try.ntmps23
  go_wp2_with fail
  refine (HB.out _ (HN.out.below hb0)).mono ?_
  rintro e S ⟨rfl, hb1⟩
  have s2 := blk_below e2 hb1
  have s3 := blk_below e3 hb1
  have hbS := cbt hb0 hb1
  have k2 : S.cell? ⟨w.heap.size + 1 + 1, 0, none⟩ = some (.slice none 0 0) := s2.cell 0
  have k3 : S.cell? ⟨w.heap.size + 1 + 1 + 1, 0, none⟩ = some (.slice none 0 0) := s3.cell 0
  have f2 := s2.frozen 0
  have f3 := s3.frozen 0
  have hl2 : w.heap.size ≤ w.heap.size + 1 + 1 := by omega
  have hl3 : w.heap.size ≤ w.heap.size + 1 + 1 + 1 := by omega
  go_wp2_with fail
  exact bodyPost_ret (v := .tuple #[.agg #[.slice none 0 0], .agg #[.slice none 0 0], .int .i64 1]) (by simp [results, Try.results23, go_sem, k2, k3]) rfl ⟨_, _, rfl, N64.zero _, N64.zero _, (hbS.setCell (p := ⟨w.heap.size + 1 + 1, 0, none⟩) hl2 _).setCell (p := ⟨w.heap.size + 1 + 1 + 1, 0, none⟩) hl3 _⟩
set_option maxRecDepth 100000 in
set_option maxHeartbeats 2000000 in
theorem ndiv_less (va vb : Value) (x y : Nat) (w : World) (ha : N64 w va x) (hb : N64 w vb y) (hlt : x < y) :
    Calls Try.prog 23 #[va, vb] w fun e w' => ∃ q r, e = .returned (.tuple #[q, r, .int .i64 0]) ∧ N64 w' q 0 ∧ N64 w' r x ∧ Below w.heap.size w w' := by
  have HB := Lib.hid (fun W h => zero_no vb y W h (by omega))
  have HC := Lib.hid (fun W h1 h2 => (ncmp_any va vb x y W h1 h2))
  have HCM := Lib.hid (cmpN_lt hlt)
  have HN := Lib.hid hb
  have HM := Lib.hid ha
  obtain ⟨A, ca, rfl, hla, hma, _⟩ := ha
  obtain ⟨B, cb, rfl, hlb, hmb, _⟩ := hb
  obtain ⟨n, hn⟩ : ∃ n, wl 64 x = n := ⟨_, rfl⟩
  obtain ⟨m, hm⟩ : ∃ m, wl 64 y = m := ⟨_, rfl⟩
  rw [hn] at HC HM ⊢
  rw [hm] at HB HN HC ⊢
  clear hn hm hla hma hlb hmb hlt
  have hb0 := cba (cba (cba (cba (Below.refl _ w) (.cells #[.slice A n ca] 26)) (.cells #[.slice B m cb] 26)) (.cells #[.slice none 0 0] 26)) (.cells #[.slice none 0 0] 26)
  have e0 := (((Blk.new w 26 #[.slice A n ca]).alloc (.cells #[.slice B m cb] 26)).alloc (.cells #[.slice none 0 0] 26)).alloc (.cells #[.slice none 0 0] 26)
  have e1 := ((Blk.new (w.alloc (.cells #[.slice A n ca] 26)) 26 #[.slice B m cb]).alloc (.cells #[.slice none 0 0] 26)).alloc (.cells #[.slice none 0 0] 26)
  have e2 := (Blk.new ((w.alloc (.cells #[.slice A n ca] 26)).alloc (.cells #[.slice B m cb] 26)) 26 #[.slice none 0 0]).alloc (.cells #[.slice none 0 0] 26)
  have e3 := Blk.new (((w.alloc (.cells #[.slice A n ca] 26)).alloc (.cells #[.slice B m cb] 26)).alloc (.cells #[.slice none 0 0] 26)) 26 #[.slice none 0 0]
  simp only [World.size_alloc] at e1 e2 e3
  go_enter Try.func23, Try.ntmps23
  go_wp2_with fail
  obtain ⟨X, hX⟩ : ∃ X, (((w.alloc (.cells #[.slice A n ca] 26)).alloc (.cells #[.slice B m cb] 26)).alloc (.cells #[.slice none 0 0] 26)).alloc (.cells #[.slice none 0 0] 26) = X := ⟨_, rfl⟩
  rw [hX] at e0 e1 e2 e3 hb0 ⊢
  clear hX
  refine (HB.out _ (HN.out.below hb0)).mono ?_
  rintro e X1 ⟨rfl, hb1⟩
  have s0 := blk_below e0 hb1
  have s1 := blk_below e1 hb1
  have k0 : X1.cell? ⟨w.heap.size, 0, none⟩ = some (.slice A n ca) := s0.cell 0
  have k1 : X1.cell? ⟨w.heap.size + 1, 0, none⟩ = some (.slice B m cb) := s1.cell 0
  go_wp2_with fail
  refine (HC.out _ (HM.out.below (cbt hb0 hb1)) (HN.out.below (cbt hb0 hb1))).mono ?_
  rintro e S ⟨rfl, hb2⟩
  rw [HCM.out]
  have hbS := cbt (cbt hb0 hb1) hb2
  have t0 := blk_below s0 hb2
  have t2 := blk_below (blk_below e2 hb1) hb2
  have t3 := blk_below (blk_below e3 hb1) hb2
  have k2 : S.cell? ⟨w.heap.size + 1 + 1, 0, none⟩ = some (.slice none 0 0) := t2.cell 0
  have k3 : S.cell? ⟨w.heap.size + 1 + 1 + 1, 0, none⟩ = some (.slice none 0 0) := t3.cell 0
  have k4 : S.cell? ⟨w.heap.size, 0, none⟩ = some (.slice A n ca) := t0.cell 0
  have f2 := t2.frozen 0
  have f3 := t3.frozen 0
  have hl2 : w.heap.size ≤ w.heap.size + 1 + 1 := by omega
  have hl3 : w.heap.size ≤ w.heap.size + 1 + 1 + 1 := by omega
  clear e0 e1 e2 e3 s0 s1 t0 t2 t3 k0 k1 hb1 hb2
  go_wp2_with fail
  go_region
  all_goals
    go_wp2_with fail
    refine bodyPost_ret (v := .tuple #[.agg #[.slice none 0 0], .agg #[.slice A n ca], .int .i64 0]) (by simp [results, Try.results23, go_sem, k2, k3]) rfl ⟨_, _, rfl, N64.zero _, HM.out.below ?_, ?_⟩
    all_goals (first | exact ((hbS.setCell (p := ⟨w.heap.size + 1 + 1, 0, none⟩) hl2 _).setCell (p := ⟨w.heap.size + 1 + 1 + 1, 0, none⟩) hl3 _).drew | exact ((hbS.setCell (p := ⟨w.heap.size + 1 + 1 + 1, 0, none⟩) hl3 _).setCell (p := ⟨w.heap.size + 1 + 1, 0, none⟩) hl2 _).drew)
end Go.Proofs.Yteikhnmmkanndaa

/- The walk of Div where the divisor is one word. -/
namespace Go.Proofs.Yteikhnmmkanndaa
open Go.RowKit

theorem cells3 {S W : World} {p1 p2 p3 : Addr} {v1 v2 v3 : Value} (hb : Below S.heap.size S W) (h1 : S.cell? p1 = some v1) (h2 : S.cell? p2 = some v2) (h3 : S.cell? p3 = some v3) : W.cell? p1 = some v1 ∧ W.cell? p2 = some v2 ∧ W.cell? p3 = some v3 :=
  ⟨(hb.cell (World.block_lt_of_cell? S _ h1)).trans h1, (hb.cell (World.block_lt_of_cell? S _ h2)).trans h2, (hb.cell (World.block_lt_of_cell? S _ h3)).trans h3⟩
theorem N64.put {w : World} {v : Value} {x : Nat} (h : N64 w v x) {r : Nat} {t : TypeId} {B : Option Addr} {m c : Nat} (hb : Blk w r t #[.slice B m c]) (u : Value) : N64 (w.setCell ⟨r, 0, none⟩ u) v x := by
  obtain ⟨A, ca, rfl, h1, h2, h3⟩ := h
  exact ⟨A, ca, rfl, h1, h2, h3.put hb u⟩
/-- what the region leaves: the quotient in a box of its own, the rest in a slot. -/
def SmallOut (S : World) (q r : Nat) (v7 v8 : Value) (W : World) : Prop :=
  ∃ g A n c, v7 = .pointer (some ⟨g, 0, none⟩) ∧ v8 = .int .u64 (r : Nat) ∧ S.heap.size ≤ g ∧ Blk W g 26 #[.slice A n c] ∧ N64 W (.agg #[.slice A n c]) q ∧ Below S.heap.size S W

set_option maxRecDepth 100000 in
set_option maxHeartbeats 4000000 in
theorem ndiv_word (va vb : Value) (x y : Nat) (w : World) (ha : N64 w va x) (hb : N64 w vb y) (hx : wl 64 x ≤ 1099511627) (hy0 : 0 < y) (hy : y < 2 ^ 64) (hge : y ≤ x) :
    Calls Try.prog 23 #[va, vb] w fun e w' => ∃ q r, e = .returned (.tuple #[q, r, .int .i64 0]) ∧ N64 w' q (x / y) ∧ N64 w' r (x % y) ∧ Below w.heap.size w w' := by
  have HB := Lib.hid (fun W h => zero_no vb y W h hy0)
  have HC := Lib.hid (fun W h1 h2 => (ncmp_any va vb x y W h1 h2))
  have hcm : (0 : Int) ≤ cmpN x y := by
    rcases Nat.lt_or_ge y x with h | h
    · rw [cmpN_gt h]; decide
    · rw [show x = y by omega, cmpN_self]; decide
  have HSM := Lib.hid (fun W h => nsmall_any va x y W h (by omega) hy0 hy)
  have hw1 : wl 64 y = 1 := wl_eq (by decide) (by simpa using hy) (.inr (by rw [Nat.sub_self, Nat.mul_zero, Nat.pow_zero]; exact hy0))
  have HOF := Lib.hid (fun W => of_any (x % y) (Nat.lt_of_lt_of_le (Nat.mod_lt x hy0) (Nat.le_of_lt hy)) W)
  have hd0 : dig 64 y 0 = y := by unfold dig; rw [Nat.mul_zero, Nat.pow_zero, Nat.div_one, Nat.mod_eq_of_lt hy]
  have HN := Lib.hid hb
  have HM := Lib.hid ha
  obtain ⟨A, ca, rfl, hla, hma, hda⟩ := ha
  obtain ⟨B, cb, rfl, hlb, hmb, hdb⟩ := hb
  rw [hw1] at hlb hdb HB HN HC ⊢
  obtain ⟨bB, oB, rfl, hltB, hcB⟩ := hdb 0 (by decide)
  rw [hd0] at hcB
  obtain ⟨n, hn⟩ : ∃ n, wl 64 x = n := ⟨_, rfl⟩
  rw [hn] at HC HM HSM ⊢
  obtain ⟨r, hr⟩ : ∃ r, x % y = r := ⟨_, rfl⟩
  rw [hr] at HSM HOF ⊢
  clear hr
  obtain ⟨cm, hcmv⟩ : ∃ cm, cmpN x y = cm := ⟨_, rfl⟩
  rw [hcmv] at HC hcm
  clear hn hla hma hda hdb hlb hmb hw1 hd0 hx hcmv
  have HY := Lib.hid hy
  have HG := Lib.hid hge
  have HY0 := Lib.hid hy0
  clear hy hge hy0
  have hb0 := cba (cba (cba (cba (Below.refl _ w) (.cells #[.slice A n ca] 26)) (.cells #[.slice (some ⟨bB, oB, none⟩) 1 cb] 26)) (.cells #[.slice none 0 0] 26)) (.cells #[.slice none 0 0] 26)
  have e0 := (((Blk.new w 26 #[.slice A n ca]).alloc (.cells #[.slice (some ⟨bB, oB, none⟩) 1 cb] 26)).alloc (.cells #[.slice none 0 0] 26)).alloc (.cells #[.slice none 0 0] 26)
  have e1 := ((Blk.new (w.alloc (.cells #[.slice A n ca] 26)) 26 #[.slice (some ⟨bB, oB, none⟩) 1 cb]).alloc (.cells #[.slice none 0 0] 26)).alloc (.cells #[.slice none 0 0] 26)
  have e2 := (Blk.new ((w.alloc (.cells #[.slice A n ca] 26)).alloc (.cells #[.slice (some ⟨bB, oB, none⟩) 1 cb] 26)) 26 #[.slice none 0 0]).alloc (.cells #[.slice none 0 0] 26)
  have e3 := Blk.new (((w.alloc (.cells #[.slice A n ca] 26)).alloc (.cells #[.slice (some ⟨bB, oB, none⟩) 1 cb] 26)).alloc (.cells #[.slice none 0 0] 26)) 26 #[.slice none 0 0]
  simp only [World.size_alloc] at e1 e2 e3
  go_enter Try.func23, Try.ntmps23
  go_wp2_with fail
  obtain ⟨X, hX⟩ : ∃ X, (((w.alloc (.cells #[.slice A n ca] 26)).alloc (.cells #[.slice (some ⟨bB, oB, none⟩) 1 cb] 26)).alloc (.cells #[.slice none 0 0] 26)).alloc (.cells #[.slice none 0 0] 26) = X := ⟨_, rfl⟩
  rw [hX] at e0 e1 e2 e3 hb0 ⊢
  clear hX
  refine (HB.out _ (HN.out.below hb0)).mono ?_
  rintro e X1 ⟨rfl, hb1⟩
  have s0 := blk_below e0 hb1
  have s1 := blk_below e1 hb1
  have k0 : X1.cell? ⟨w.heap.size, 0, none⟩ = some (.slice A n ca) := s0.cell 0
  have k1 : X1.cell? ⟨w.heap.size + 1, 0, none⟩ = some (.slice (some ⟨bB, oB, none⟩) 1 cb) := s1.cell 0
  go_wp2_with fail
  refine (HC.out _ (HM.out.below (cbt hb0 hb1)) (HN.out.below (cbt hb0 hb1))).mono ?_
  rintro e S ⟨rfl, hb2⟩
  have hbS := cbt (cbt hb0 hb1) hb2
  have T0 := Lib.hid (blk_below s0 hb2)
  have T1 := Lib.hid (blk_below s1 hb2)
  have T2 := Lib.hid (blk_below (blk_below e2 hb1) hb2)
  have T3 := Lib.hid (blk_below (blk_below e3 hb1) hb2)
  have k4 : S.cell? ⟨w.heap.size, 0, none⟩ = some (.slice A n ca) := T0.out.cell 0
  have k5 : S.cell? ⟨w.heap.size + 1, 0, none⟩ = some (.slice (some ⟨bB, oB, none⟩) 1 cb) := T1.out.cell 0
  have k6 : S.cell? ⟨bB, oB, none⟩ = some (.int .u64 (y : Nat)) := (hbS.cell (p := ⟨bB, oB, none⟩) hltB).trans hcB
  have HBS := Lib.hid hbS
  clear e0 e1 e2 e3 s0 s1 k0 k1 hb1 hb2 hb0 hcB
  go_upto_region 6 with (fail)
  go_cut [7, 8] (fun v7 v8 wx => SmallOut S (x / y) r v7 v8 wx)
  case first =>
    have K4 := Lib.hid k4
    have K5 := Lib.hid k5
    have K6 := Lib.hid k6
    go_region_held3 (fun w' => w'.cell? ⟨w.heap.size, 0, none⟩ = some (.slice A n ca) ∧ w'.cell? ⟨w.heap.size + 1, 0, none⟩ = some (.slice (some ⟨bB, oB, none⟩) 1 cb) ∧ w'.cell? ⟨bB, oB, none⟩ = some (.int .u64 (y : Nat)))
      ((refine cells3 (S := S) ?_ K4.out K5.out K6.out; repeat (with_reducible (first | exact Below.refl _ _ | exact hb6 | refine Below.setCell (p := ⟨S.heap.size, 0, none⟩) ?_ (Nat.le_refl _) _ | refine Below.setCell (p := ⟨w5.heap.size, 0, none⟩) ?_ hb6.size _ | refine cba ?_ _ | refine Below.drew ?_))))
      (first | (go_at_call 95; (with_reducible refine (HSM.out _ ?_).mono ?_); (refine HM.out.below (cbt HBS.out ?_); repeat (with_reducible (first | exact Below.refl _ _ | refine cba ?_ _ | refine Below.drew ?_))); rintro e w5 ⟨q, rfl, ⟨A5, c5, rfl, hl5, hm5, hd5⟩, hb5⟩; have hb6 := cbt (a := S) (by repeat (with_reducible (first | exact Below.refl _ _ | refine cba ?_ _ | refine Below.drew ?_))) hb5; have HD5 := Lib.hid hd5; clear hd5; (try (have z0 := blk_below (Blk.drew (Blk.new S 26 #[.slice none 0 0])) hb5; have z1 : w5.cell? ⟨S.heap.size, 0, none⟩ = some (.slice none 0 0) := z0.cell 0; have z2 := z0.frozen 0; have Z0 := Lib.hid z0; clear z0))))
    · have HF := Lib.hid (show SmallOut S (x / y) r (.pointer (some ⟨w5.heap.size, 0, none⟩)) (.int .u64 (r : Nat)) (w5.alloc (.cells #[.slice A5 (wl 64 (x / y)) c5] 26)) from
        ⟨w5.heap.size, A5, _, c5, rfl, rfl, hb6.size, Blk.new _ _ _, ⟨A5, c5, rfl, hl5, hm5, HD5.out.below (cba (Below.refl _ _) _)⟩, cba hb6 _⟩)
      go_wp2_with fail
      go_meet
      exact HF.out
    · have HF := Lib.hid (show SmallOut S (x / y) r (.pointer (some ⟨S.heap.size, 0, none⟩)) (.int .u64 (r : Nat)) (w5.setCell ⟨S.heap.size, 0, none⟩ (.slice A5 (wl 64 (x / y)) c5)) from
        ⟨S.heap.size, A5, _, c5, rfl, rfl, Nat.le_refl _, Z0.out.set_ 0 _, ⟨A5, c5, rfl, hl5, hm5, HD5.out.put Z0.out _⟩, hb6.setCell (p := ⟨S.heap.size, 0, none⟩) (Nat.le_refl _) _⟩)
      go_wp2_with fail
      go_meet
      exact HF.out
  case rest =>
    obtain ⟨g, A7, n7, c7, rfl, rfl, hgS, hblk, hq, hbc⟩ := hcut
    have G7 := Lib.hid hblk
    have HQ := Lib.hid hq
    have u2 := Lib.hid (blk_below T2.out hbc)
    have u3 := Lib.hid (blk_below T3.out hbc)
    have k7 : wc.cell? ⟨g, 0, none⟩ = some (.slice A7 n7 c7) := hblk.cell 0
    have hsz : w.heap.size + 4 ≤ S.heap.size := by
      have := T3.out.lt
      omega
    have HBC := Lib.hid (cbt HBS.out hbc)
    clear hblk hq hbc k4 k5 k6
    go_wp2_with fail
    go_region_held3 (fun w' => w'.cell? ⟨g, 0, none⟩ = some (.slice A7 n7 c7)) ((first | exact k7 | exact z7.cell 0 | exact ((Blk.far z7 (p := ⟨w.heap.size + 1 + 1, 0, none⟩) (by simp; omega) _)).cell 0 | exact ((Blk.far z7 (p := ⟨w.heap.size + 1 + 1 + 1, 0, none⟩) (by simp; omega) _)).cell 0 | exact (Blk.far (Blk.far z7 (p := ⟨w.heap.size + 1 + 1, 0, none⟩) (by simp; omega) _) (p := ⟨w.heap.size + 1 + 1 + 1, 0, none⟩) (by simp; omega) _).cell 0 | exact (Blk.far (Blk.far z7 (p := ⟨w.heap.size + 1 + 1 + 1, 0, none⟩) (by simp; omega) _) (p := ⟨w.heap.size + 1 + 1, 0, none⟩) (by simp; omega) _).cell 0))
      (first | (go_at_call 50; (with_reducible refine (HOF.out _).mono ?_); rintro e w6 ⟨rr, rfl, ⟨A8, c8, rfl, hl8, hm8, hd8⟩, hb8⟩; have z7 := blk_below G7.out.drew hb8; have Z2 := Lib.hid (blk_below u2.out.drew hb8); have Z3 := Lib.hid (blk_below u3.out.drew hb8); have kk2 : w6.cell? ⟨w.heap.size + 1 + 1, 0, none⟩ = some (.slice none 0 0) := Z2.out.cell 0; have kk3 : w6.cell? ⟨w.heap.size + 1 + 1 + 1, 0, none⟩ = some (.slice none 0 0) := Z3.out.cell 0; have ff2 := Z2.out.frozen 0; have ff3 := Z3.out.frozen 0; have HD8 := Lib.hid hd8; clear hd8))
    have z3 := Z3.out.far (p := ⟨w.heap.size + 1 + 1, 0, none⟩) (show w.heap.size + 1 + 1 + 1 ≠ w.heap.size + 1 + 1 by omega) (.slice A7 n7 c7)
    have HF := Lib.hid (show ∃ q rr, (Ending.returned (.tuple #[.agg #[.slice A7 n7 c7], .agg #[.slice A8 (wl 64 r) c8], .int .i64 0])) = .returned (.tuple #[q, rr, .int .i64 0]) ∧ N64 ((w6.setCell ⟨w.heap.size + 1 + 1, 0, none⟩ (.slice A7 n7 c7)).setCell ⟨w.heap.size + 1 + 1 + 1, 0, none⟩ (.slice A8 (wl 64 r) c8)) q (x / y) ∧ N64 ((w6.setCell ⟨w.heap.size + 1 + 1, 0, none⟩ (.slice A7 n7 c7)).setCell ⟨w.heap.size + 1 + 1 + 1, 0, none⟩ (.slice A8 (wl 64 r) c8)) rr r ∧ Below w.heap.size w ((w6.setCell ⟨w.heap.size + 1 + 1, 0, none⟩ (.slice A7 n7 c7)).setCell ⟨w.heap.size + 1 + 1 + 1, 0, none⟩ (.slice A8 (wl 64 r) c8)) from
      ⟨_, _, rfl, ((HQ.out.below (cbt (Below.refl _ _).drew hb8)).put Z2.out _).put z3 _, (N64.put (N64.put ⟨A8, c8, rfl, hl8, hm8, HD8.out⟩ Z2.out _) z3 _),
        ((cbt HBC.out.drew hb8).setCell (p := ⟨w.heap.size + 1 + 1, 0, none⟩) (show w.heap.size ≤ w.heap.size + 1 + 1 by omega) _).setCell (p := ⟨w.heap.size + 1 + 1 + 1, 0, none⟩) (show w.heap.size ≤ w.heap.size + 1 + 1 + 1 by omega) _⟩)
    clear z3 z7 k7
    go_wp2
    exact bodyPost_ret (v := .tuple #[.agg #[.slice A7 n7 c7], .agg #[.slice A8 (wl 64 r) c8], .int .i64 0]) (by simp [results, Try.results23, go_sem, kk2, kk3]) rfl HF.out
end Go.Proofs.Yteikhnmmkanndaa

/- The walk of Div where the divisor has two words or more. -/
namespace Go.Proofs.Yteikhnmmkanndaa
open Go.RowKit

theorem shifted_div {y n : Nat} (hn : wl 64 y = n + 1) : y * 2 ^ (64 - bl (dig 64 y n)) < 2 ^ (64 * (n + 1)) ∧ wl 64 (y * 2 ^ (64 - bl (dig 64 y n))) = n + 1 ∧ 64 - bl (dig 64 y n) ≤ 64 := by
  have h1 := bl_top (k := 64) (by decide) hn
  have h2 := (bl_le y (bl y)).1 (Nat.le_refl _)
  have h3 := (bl_le _ 64).2 (dig_lt 64 y n)
  have h4 : y * 2 ^ (64 - bl (dig 64 y n)) < 2 ^ (64 * (n + 1)) := by
    calc y * 2 ^ (64 - bl (dig 64 y n)) < 2 ^ bl y * 2 ^ (64 - bl (dig 64 y n)) := Nat.mul_lt_mul_of_pos_right h2 (Nat.two_pow_pos _)
      _ = 2 ^ (64 * (n + 1)) := by rw [← Nat.pow_add]; congr 1; omega
  refine ⟨h4, wl_eq (by decide) h4 (.inr ?_), by omega⟩
  rw [Nat.add_sub_cancel]
  refine Nat.le_trans ((lt_wl (k := 64) (by decide) y n).1 (by omega)) ?_
  exact Nat.le_mul_of_pos_right _ (Nat.two_pow_pos _)
theorem splice_row {w : World} {g N m X : Nat} {c : Array Value} (hN : c.size = N) (hc : ∀ i, i < N → c[i]? = some (.int .u64 0)) (hm : m ≤ N) (hX : X < 2 ^ (64 * m)) (h : Hid (w.heap[g]? = some (.cells (splice c.toList 0 ((List.range m).map fun i => Value.int .u64 (dig 64 X i : Nat))).toArray 62 (0, 0)))) :
    w.rowIs g 62 N (fun j => .int .u64 (dig 64 X j : Nat)) := by
  refine ⟨_, h.out, ?_, fun i hi => ?_⟩
  · rw [List.size_toArray, length_splice _ _ _ (by simp; omega), Array.length_toList, hN]
  · rw [List.getElem?_toArray]
    unfold splice
    rw [List.take_zero, List.nil_append]
    rcases Nat.lt_or_ge i m with h1 | h1
    · rw [List.getElem?_append_left (by simpa using h1), List.getElem?_map, List.getElem?_eq_getElem (by simpa using h1)]
      simp
    · rw [List.getElem?_append_right (by simpa using h1), List.getElem?_drop]
      simp only [List.length_map, List.length_range]
      rw [show 0 + m + (i - m) = i by omega, Array.getElem?_toList, hc i hi, dig_zero_of_lt (Nat.lt_of_lt_of_le hX (Nat.pow_le_pow_right (by decide) (by omega)))]
      rfl

theorem addr_add (b o j : Nat) : (⟨b, o, none⟩ : Addr).add j = ⟨b, o + j, none⟩ := by
  cases j with
  | zero => rfl
  | succ j => simp [Addr.add]
theorem fld26 (A : Option Addr) (n c : Nat) (W : World) : (Instr.field 26 (.agg #[.slice A n c]) 0).run Try.prog W = .ok (.slice A n c) W := by kernel_rfl
/-- what Up answers, its words' number told. -/
def UpOut (W : World) (k X : Nat) (e : Ending) (w' : World) : Prop := ∃ A c, e = .returned (.agg #[.slice A k c]) ∧ k ≤ c ∧ c ≤ maxLen ∧ Digs w' A .u64 64 X k ∧ Below W.heap.size W w'
theorem UpOut.of {W : World} {X k : Nat} (hk : wl 64 X = k) {e : Ending} {w' : World} (h : Mk64 W X e w') : UpOut W k X e w' := by
  subst hk
  obtain ⟨v, he, ⟨A, c, rfl, hl, hm, hd⟩, hb⟩ := h
  exact ⟨A, c, he, hl, hm, hd, hb⟩
/-- what holds of the two numbers, shifted. -/
structure DF (X Y L n kx : Nat) : Prop where
  x1 : X < 2 ^ (64 * (L + 1))
  x2 : kx ≤ L + 1
  x3 : X < 2 ^ (64 * kx)
  y1 : Y < 2 ^ (64 * (n + 2))
  y2 : wl 64 Y = n + 2
  y0 : 0 < Y
  q : X / Y < 2 ^ (64 * (L + 1 - (n + 2)))

/-- what guess answers, in plain numbers. -/
theorem guess_any (b o nt c n Y P : Nat) (w : World) (hnt : nt = n + 3) (hn2 : nt ≤ 1099511627776) (hY : Y < 2 ^ (64 * (n + 2))) (hY0 : 0 < Y) (hP : P < Y * 2 ^ 64)
    (c2 : w.cell? ⟨b, o + (n + 2), none⟩ = some (.int .u64 (dig 64 P (n + 2) : Nat))) (c1 : w.cell? ⟨b, o + (n + 1), none⟩ = some (.int .u64 (dig 64 P (n + 1) : Nat))) (c0 : w.cell? ⟨b, o + n, none⟩ = some (.int .u64 (dig 64 P n : Nat))) :
    Calls Try.prog 97 #[.slice (some ⟨b, o, none⟩) nt c, .int .u64 (dig 64 Y (n + 1) : Nat), .int .u64 (dig 64 Y n : Nat)] w
      fun e w' => ∃ x : Nat, x < 2 ^ 64 ∧ P / Y ≤ x ∧ e = .returned (.int .u64 (x : Nat)) ∧ Drew w w' := by
  subst hnt
  have hP3 : P < 2 ^ (64 * (n + 3)) := by
    refine Nat.lt_of_lt_of_le hP ?_
    refine Nat.le_trans (Nat.mul_le_mul_right _ (Nat.le_of_lt hY)) ?_
    rw [← Nat.pow_add]
    exact Nat.pow_le_pow_right (by decide) (by omega)
  have hq : P / Y < 2 ^ 64 := (Nat.div_lt_iff_lt_mul hY0).2 (by rw [Nat.mul_comm]; exact hP)
  have hg := guess_of (n := n) (Nat.div_mul_le_self P Y)
  rw [top_two hY, top_three hP3] at hg
  have hfin : ∀ e w', GuessEnd w (dig 64 Y (n + 1)) (dig 64 Y n) (dig 64 P (n + 2)) (dig 64 P (n + 1)) (dig 64 P n) e w' → ∃ x : Nat, x < 2 ^ 64 ∧ P / Y ≤ x ∧ e = .returned (.int .u64 (x : Nat)) ∧ Drew w w' := by
    rintro e w' ⟨x, hx, ha, he, hd⟩
    exact ⟨x, hx, ha _ hq hg, he, hd⟩
  rcases Nat.lt_or_ge (dig 64 P (n + 2)) (dig 64 Y (n + 1)) with h | h
  · exact (guess_less b o (n + 3) c _ _ _ _ _ w (by omega) hn2 c2 c1 c0 h (dig_lt _ _ _) (dig_lt _ _ _) (dig_lt _ _ _) (dig_lt _ _ _)).mono hfin
  · exact (guess_full b o (n + 3) c _ _ _ _ _ w (by omega) hn2 c2 h).mono hfin

theorem win_win (f : Nat → Nat) (o V W k : Nat) : win (win f o V k) o W k = win f o W k := by
  funext j
  unfold win
  by_cases h : o ≤ j ∧ j < o + k
  · rw [if_pos h, if_pos h]
  · rw [if_neg h, if_neg h, if_neg h]
theorem win_congr {f : Nat → Nat} {o V W k : Nat} (h : ∀ i, i < k → dig 64 V i = dig 64 W i) : win f o V k = win f o W k := by
  funext j
  unfold win
  by_cases h1 : o ≤ j ∧ j < o + k
  · rw [if_pos h1, if_pos h1, h _ (by omega)]
  · rw [if_neg h1, if_neg h1]
theorem win_dig (f : Nat → Nat) (o V k i : Nat) (h : i < k) : win f o V k (o + i) = dig 64 V i := by
  unfold win
  rw [if_pos ⟨by omega, by omega⟩, Nat.add_sub_cancel_left]
/-- the words of a part whose digit is at most xc. -/
def overV (X Y j xc k : Nat) (p : Nat) : Nat := win (dig 64 (rowV X Y (j + 1))) j (less 64 k (partV X Y j) (xc * Y)) k p
theorem overV_end {X Y j n xc : Nat} (hY0 : 0 < Y) (hY : Y < 2 ^ (64 * (n + 2))) (hq : dig 64 (X / Y) j ≤ xc) (hx : ¬ partV X Y j < xc * Y) : xc = dig 64 (X / Y) j ∧ ∀ p, overV X Y j xc (n + 3) p = dig 64 (rowV X Y j) p := by
  have h1 : xc ≤ partV X Y j / Y := (Nat.le_div_iff_mul_le hY0).2 (by omega)
  rw [partV_div hY0] at h1
  have h2 : xc = dig 64 (X / Y) j := Nat.le_antisymm h1 hq
  refine ⟨h2, fun p => ?_⟩
  rw [rowV_dig (n := n + 2) hY0 hY, ← h2]
  unfold overV win less
  rw [if_pos (by omega : xc * Y ≤ partV X Y j)]
theorem part_bound {X Y n : Nat} (hY0 : 0 < Y) (hY : Y < 2 ^ (64 * (n + 2))) (j : Nat) : partV X Y j < 2 ^ (64 * (n + 3)) := by
  refine Nat.lt_of_lt_of_le (partV_lt hY0 j) ?_
  refine Nat.le_trans (Nat.mul_le_mul_right _ (Nat.le_of_lt hY)) ?_
  rw [← Nat.pow_add]
  exact Nat.pow_le_pow_right (by decide) (by omega)
theorem prod_bound {Y n xc : Nat} (hY : Y < 2 ^ (64 * (n + 2))) (hx : xc < 2 ^ 64) : xc * Y < 2 ^ (64 * (n + 3)) := by
  calc xc * Y < 2 ^ 64 * 2 ^ (64 * (n + 2)) := Nat.mul_lt_mul'' hx hY
    _ = 2 ^ (64 * (n + 3)) := by rw [← Nat.pow_add]; congr 1; omega
/-- subMul at the part. -/
theorem sub_part (g X Y L n j nt ct xg cd : Nat) (Ad : Option Addr) (w : World) (hrow : w.rowIs g 62 (L + 1) (fun p => .int .u64 (dig 64 (rowV X Y (j + 1)) p : Nat))) (hx : xg < 2 ^ 64) (hN : j + (n + 3) ≤ L + 1) (hnt : n + 2 < nt) (hm : n + 2 ≤ 1099511627776)
    (hd : Digs w Ad .u64 64 Y (n + 2)) (hY : Y < 2 ^ (64 * (n + 2))) (hY0 : 0 < Y) (hne : ∀ b p, Ad = some ⟨b, p, none⟩ → b ≠ g) :
    Calls Try.prog 98 #[.slice (some ⟨g, j, none⟩) nt ct, .slice Ad (n + 2) cd, .int .u64 (xg : Nat)] w fun e w' => e = .returned (.bool (decide (partV X Y j < xg * Y))) ∧
      w'.rowIs g 62 (L + 1) (fun p => .int .u64 (overV X Y j xg (n + 3) p : Nat)) ∧ w.grownBy w' (some g) :=
  submul_any g j nt ct (L + 1) Ad (n + 2) cd (dig 64 (rowV X Y (j + 1))) (partV X Y j) xg Y w hrow (fun _ _ => (dig_div _ _ _ _).symm) hx hN hnt hm hd hY (part_bound hY0 hY j) (fun b p h _ => hne b p h)
/-- addBack at the part. -/
theorem back_part (g X Y L n j nt ct xc cd : Nat) (Ad : Option Addr) (w : World) (hrow : w.rowIs g 62 (L + 1) (fun p => .int .u64 (overV X Y j xc (n + 3) p : Nat))) (hx : xc < 2 ^ 64) (hov : partV X Y j < xc * Y) (hN : j + (n + 3) ≤ L + 1) (hnt : n + 2 < nt) (hm : n + 2 ≤ 1099511627776)
    (hd : Digs w Ad .u64 64 Y (n + 2)) (hY : Y < 2 ^ (64 * (n + 2))) (hY0 : 0 < Y) (hne : ∀ b p, Ad = some ⟨b, p, none⟩ → b ≠ g) :
    Calls Try.prog 99 #[.slice (some ⟨g, j, none⟩) nt ct, .slice Ad (n + 2) cd] w fun e w' => e = .returned (.bool (!decide (partV X Y j < (xc - 1) * Y))) ∧
      w'.rowIs g 62 (L + 1) (fun p => .int .u64 (overV X Y j (xc - 1) (n + 3) p : Nat)) ∧ w.grownBy w' (some g) := by
  obtain ⟨h1, h2, h3⟩ := less_back (part_bound hY0 hY j) (prod_bound hY hx) hov
  have := addback_any g j nt ct (L + 1) Ad (n + 2) cd (overV X Y j xc (n + 3)) (less 64 (n + 3) (partV X Y j) (xc * Y)) Y w hrow (fun i hi => win_dig _ _ _ _ _ hi) hN hnt hm hd hY (less_lt (part_bound hY0 hY j)) (fun b p h _ => hne b p h)
  refine this.mono ?_
  rintro e w' ⟨he, hr, hg⟩
  refine ⟨?_, hr.congr (fun p _ => ?_), hg⟩
  · rw [he, ← decide_not]
    congr 3
    rw [eq_iff_iff, show n + 2 + 1 = n + 3 from rfl, h2]
    omega
  · have h4 : win (overV X Y j xc (n + 3)) j (less 64 (n + 3) (partV X Y j) (xc * Y) + Y) (n + 2 + 1) = overV X Y j (xc - 1) (n + 3) := by
      rw [show n + 2 + 1 = n + 3 from rfl, win_congr h3]
      exact win_win _ _ _ _ _
    rw [h4]

theorem row_grown {w w' : World} {row : Option Nat} {b N : Nat} {t : TypeId} {f : Nat → Value} (h : w.rowIs b t N f) (hg : w.grownBy w' row) (hne : some b ≠ row) : w'.rowIs b t N f := by
  have hlt := h.lt
  obtain ⟨c, hc, hs, hf⟩ := h
  exact ⟨c, (hg.block b hlt hne).trans hc, hs, hf⟩

theorem row_far {w : World} {b N : Nat} {t : TypeId} {f : Nat → Value} (h : w.rowIs b t N f) {p : Addr} (hp : b ≠ p.block) (u : Value) : (w.setCell p u).rowIs b t N f := by
  obtain ⟨c, hc, hs, hf⟩ := h
  exact ⟨c, (Below.heap_setCell w p u b hp).trans hc, hs, hf⟩

set_option maxRecDepth 100000 in
set_option maxHeartbeats 4000000 in
theorem ndiv_main (va vb : Value) (x y n : Nat) (w : World) (ha : N64 w va x) (hb : N64 w vb y) (hx : wl 64 x ≤ 1000000000) (hyn : wl 64 y = n + 2) (hge : y ≤ x) :
    Calls Try.prog 23 #[va, vb] w fun e w' => ∃ q r, e = .returned (.tuple #[q, r, .int .i64 0]) ∧ N64 w' q (x / y) ∧ N64 w' r (x % y) ∧ Below w.heap.size w w' := by
  have hy0 : 0 < y := by
    rcases Nat.eq_zero_or_pos y with h | h
    · subst h; rw [wl_zero (by decide)] at hyn; omega
    · exact h
  have hwl : n + 2 ≤ wl 64 x := by rw [← hyn]; exact wl_mono (by decide) hge
  have HB := Lib.hid (fun W h => zero_no vb y W h hy0)
  have HC := Lib.hid (fun W h1 h2 => (ncmp_any va vb x y W h1 h2))
  have hcm : (0 : Int) ≤ cmpN x y := by
    rcases Nat.lt_or_ge y x with h | h
    · rw [cmpN_gt h]; decide
    · rw [show x = y by omega, cmpN_self]; decide
  obtain ⟨hsd1, hsd2, hsd3⟩ := shifted_div hyn
  have HLZ := Lib.hid (fun W => lead64_any (dig 64 y (n + 1)) (dig_lt 64 y (n + 1)) W)
  obtain ⟨s, hs⟩ : ∃ s, 64 - bl (dig 64 y (n + 1)) = s := ⟨_, rfl⟩
  rw [hs] at HLZ hsd1 hsd2 hsd3
  clear hs
  obtain ⟨hdv1, hdv2⟩ := shifted x y s
  have hub := fun W h => nup_any vb y W h (by omega) (s : Nat) (by omega)
  have hua := fun W h => nup_any va x W h (by omega) (s : Nat) (by omega)
  rw [Int.toNat_natCast] at hub hua
  obtain ⟨kx, hkx⟩ : ∃ kx, wl 64 (x * 2 ^ s) = kx := ⟨_, rfl⟩
  have hx3 : x * 2 ^ s < 2 ^ (64 * kx) := by rw [← hkx]; exact wl_lt (by decide) _
  have HUB := Lib.hid (fun W h => (hub W h).mono (fun _ _ h => UpOut.of (k := n + 2) hsd2 h))
  have HUA := Lib.hid (fun W h => (hua W h).mono (fun _ _ h => UpOut.of hkx h))
  clear hub hua
  have hX1 : x * 2 ^ s < 2 ^ (64 * (wl 64 x + 1)) := by
    rw [pow_succ_mul]
    exact Nat.lt_of_lt_of_le (Nat.mul_lt_mul_of_pos_right (wl_lt (by decide) x) (Nat.two_pow_pos s)) (Nat.mul_le_mul_left _ (Nat.pow_le_pow_right (by decide) hsd3))
  have HN := Lib.hid hb
  have HM := Lib.hid ha
  obtain ⟨A, ca, rfl, hla, hma, hda⟩ := ha
  obtain ⟨B, cb, rfl, hlb, hmb, hdb⟩ := hb
  have HDB := Lib.hid hdb
  rw [hyn] at hlb hdb HB HN HC HUB HDB ⊢
  obtain ⟨bB, oB, rfl, hltB, hcB⟩ := hdb (n + 1) (by omega)
  obtain ⟨yt, hyt⟩ : ∃ yt, dig 64 y (n + 1) = yt := ⟨_, rfl⟩
  rw [hyt] at hcB HLZ
  clear hyt
  obtain ⟨cm, hcmv⟩ : ∃ cm, cmpN x y = cm := ⟨_, rfl⟩
  rw [hcmv] at HC hcm
  have hX2 : kx ≤ wl 64 x + 1 := by rw [← hkx]; exact (wl_le (by decide) _ _).2 hX1
  have HQK := Lib.hid (show x / y < 2 ^ (64 * (wl 64 x + 1 - (n + 2))) from by
    rw [Nat.div_lt_iff_lt_mul hy0]
    refine Nat.lt_of_lt_of_le (wl_lt (k := 64) (by decide) x) ?_
    refine Nat.le_trans ?_ (Nat.mul_le_mul_left _ ((lt_wl (k := 64) (by decide) y (n + 1)).1 (by omega)))
    rw [← Nat.pow_add]
    exact Nat.pow_le_pow_right (by decide) (by omega))
  have hY0 : 0 < y * 2 ^ s := Nat.mul_pos hy0 (Nat.two_pow_pos s)
  obtain ⟨L, hL⟩ : ∃ L, wl 64 x = L := ⟨_, rfl⟩
  rw [hL] at HC HM hX1 hX2 HUA HQK hla hx hwl ⊢
  obtain ⟨X, hX⟩ : ∃ X, x * 2 ^ s = X := ⟨_, rfl⟩
  obtain ⟨Y, hY⟩ : ∃ Y, y * 2 ^ s = Y := ⟨_, rfl⟩
  rw [hX] at HUA hdv1 hdv2 hX1 hx3 hkx
  rw [hY] at HUB hdv1 hdv2 hsd1 hsd2 hY0
  rw [← hdv1] at HQK
  rw [← hdv1, ← hdv2]
  have HF : DF X Y L n kx := ⟨hX1, hX2, hx3, hsd1, hsd2, hY0, HQK.out⟩
  have hkL : kx ≤ L + 1 := hX2
  clear hkx hx3 HQK hL hX hY hX1 hX2 hsd1 hsd2 hY0 hdv1 hdv2 hcmv hyn hge hy0 hda hdb
  unfold maxLen at hma hmb
  have hn1 : (((n : Int) + 2) == 1) = false := by rw [beq_eq_false_iff_ne]; omega
  have hb0 := cba (cba (cba (cba (Below.refl _ w) (.cells #[.slice A L ca] 26)) (.cells #[.slice (some ⟨bB, oB, none⟩) (n + 2) cb] 26)) (.cells #[.slice none 0 0] 26)) (.cells #[.slice none 0 0] 26)
  have e0 := (((Blk.new w 26 #[.slice A L ca]).alloc (.cells #[.slice (some ⟨bB, oB, none⟩) (n + 2) cb] 26)).alloc (.cells #[.slice none 0 0] 26)).alloc (.cells #[.slice none 0 0] 26)
  have e1 := ((Blk.new (w.alloc (.cells #[.slice A L ca] 26)) 26 #[.slice (some ⟨bB, oB, none⟩) (n + 2) cb]).alloc (.cells #[.slice none 0 0] 26)).alloc (.cells #[.slice none 0 0] 26)
  have e2 := (Blk.new ((w.alloc (.cells #[.slice A L ca] 26)).alloc (.cells #[.slice (some ⟨bB, oB, none⟩) (n + 2) cb] 26)) 26 #[.slice none 0 0]).alloc (.cells #[.slice none 0 0] 26)
  have e3 := Blk.new (((w.alloc (.cells #[.slice A L ca] 26)).alloc (.cells #[.slice (some ⟨bB, oB, none⟩) (n + 2) cb] 26)).alloc (.cells #[.slice none 0 0] 26)) 26 #[.slice none 0 0]
  simp only [World.size_alloc] at e1 e2 e3
  go_enter Try.func23, Try.ntmps23
  go_wp2_with fail
  obtain ⟨X0, hX0⟩ : ∃ X0, (((w.alloc (.cells #[.slice A L ca] 26)).alloc (.cells #[.slice (some ⟨bB, oB, none⟩) (n + 2) cb] 26)).alloc (.cells #[.slice none 0 0] 26)).alloc (.cells #[.slice none 0 0] 26) = X0 := ⟨_, rfl⟩
  rw [hX0] at e0 e1 e2 e3 hb0 ⊢
  clear hX0
  refine (HB.out _ (HN.out.below hb0)).mono ?_
  rintro e X1 ⟨rfl, hb1⟩
  have s0 := blk_below e0 hb1
  have s1 := blk_below e1 hb1
  have k0 : X1.cell? ⟨w.heap.size, 0, none⟩ = some (.slice A L ca) := s0.cell 0
  have k1 : X1.cell? ⟨w.heap.size + 1, 0, none⟩ = some (.slice (some ⟨bB, oB, none⟩) (n + 2) cb) := s1.cell 0
  go_wp2_with fail
  refine (HC.out _ (HM.out.below (cbt hb0 hb1)) (HN.out.below (cbt hb0 hb1))).mono ?_
  rintro e S ⟨rfl, hb2⟩
  have hbS := cbt (cbt hb0 hb1) hb2
  have t0 := blk_below s0 hb2
  have t1 := blk_below s1 hb2
  have t2 := blk_below (blk_below e2 hb1) hb2
  have t3 := blk_below (blk_below e3 hb1) hb2
  have k4 : S.cell? ⟨w.heap.size, 0, none⟩ = some (.slice A L ca) := t0.cell 0
  have k5 : S.cell? ⟨w.heap.size + 1, 0, none⟩ = some (.slice (some ⟨bB, oB, none⟩) (n + 2) cb) := t1.cell 0
  have k6 : S.cell? ⟨bB, oB + (n + 1), none⟩ = some (.int .u64 (yt : Nat)) := (hbS.cell (p := ⟨bB, oB + (n + 1), none⟩) hltB).trans hcB
  have T0 := Lib.hid t0
  have T1 := Lib.hid t1
  have T2 := Lib.hid t2
  have T3 := Lib.hid t3
  have HBS := Lib.hid hbS
  clear e0 e1 e2 e3 s0 s1 k0 k1 hb1 hb2 hb0 hcB HB HC HDB t0 t1 t2 t3 hbS
  go_wp2_with fail
  refine (HLZ.out _).mono ?_
  rintro e S' ⟨rfl, rfl⟩
  go_wp2_with fail
  refine (HUB.out _ (HN.out.below HBS.out)).mono ?_
  rintro e S2 ⟨Ad, cd, rfl, hld, hmd, hdd, hb2⟩
  have HDD := Lib.hid hdd
  have hf1 := fld26 Ad (n + 2) cd
  have hmk1 := run_make_row' (P := Try.prog) 24 62 (.int .u64 0) 8 Try.underlying24 Try.info62 rfl .i64 .i64 (L + 1) (by omega) (by omega)
  simp only [Int.natCast_add, Int.natCast_one] at hmk1
  have w0 := blk_below T0.out hb2
  have k7 : S2.cell? ⟨w.heap.size, 0, none⟩ = some (.slice A L ca) := w0.cell 0
  have k7' : (S2.alloc (.cells (madeCells #[.int .u64 0] (L + 1)) 62)).cell? ⟨w.heap.size, 0, none⟩ = some (.slice A L ca) := (w0.alloc _).cell 0
  have HB2 := Lib.hid (cbt HBS.out hb2)
  have V0 := Lib.hid w0
  have V2 := Lib.hid (blk_below T2.out hb2)
  have V3 := Lib.hid (blk_below T3.out hb2)
  have hgu : w.heap.size + 4 ≤ S2.heap.size := by
    have := V3.out.lt
    omega
  clear hdd k4 k5 k6 hb2 w0
  go_wp2_with fail
  refine (HUA.out _ (HM.out.below (cba HB2.out _))).mono ?_
  rintro e S3 ⟨Ax, cx, rfl, hlx, hmx, hdx, hb3⟩
  have HDX := Lib.hid hdx
  have hf2 := fld26 Ax kx cx
  have hgb : S3.heap[S2.heap.size]? = some (.cells (madeCells #[.int .u64 0] (L + 1)) 62 (0, 0)) := (hb3.block S2.heap.size (by simp)).trans (heap_alloc_new S2 _)
  have HGB := Lib.hid hgb
  have HB3 := Lib.hid hb3
  have hbb3 : Below S2.heap.size S2 S3 := cbt (cba (Below.refl _ _) _) hb3
  have HBB3 := Lib.hid hbb3
  have hsz62 : (Try.prog.info? 62).map (·.size) = some 1 := by kernel_rfl
  clear hdx hgb hb3 hbb3 k7 k7' hmk1
  go_wp2_with (with_reducible refine wpList_copy_splice rfl (.tmp 65) (.tmp 69) 24 24 rfl 62 Try.underlying24 hsz62 (some ⟨S2.heap.size, 0, none⟩) Ax (L + 1) (L + 1) kx cx rfl rfl S2.heap.size 0 (madeCells #[.int .u64 0] (L + 1)).toList 62 HGB.out ((List.range kx).map fun i => Value.int .u64 (dig 64 X i : Nat)) ?hn ?hpos ?hfit ?h1 S2.heap.size S2 HBB3.out (Nat.le_refl _) ?_)
  case hn => rw [List.length_map, List.length_range]; exact (Nat.min_eq_left hkL).symm
  case hpos =>
    intro h0
    obtain ⟨b', o', e', _, _⟩ := HDX.out 0 h0
    subst e'
    refine ⟨_, rfl, fun j a hj => ?_⟩
    rcases Nat.lt_or_ge j kx with h | h
    · rw [List.getElem?_eq_getElem (by simpa using h)] at hj
      simp at hj
      subst hj
      obtain ⟨b2, o2, e2, _, hc2⟩ := HDX.out j h
      cases e2
      rw [addr_add]
      exact hc2
    · rw [List.getElem?_eq_none (by simpa using h)] at hj
      cases hj
  case hfit => simp [size_madeCells]; omega
  case h1 =>
    intro v hv
    simp at hv
    obtain ⟨a, _, rfl⟩ := hv
    rfl
  intro S4 hrow4 hb4
  have HR4 := Lib.hid (splice_row (X := X) (c := madeCells #[.int .u64 0] (L + 1)) (size_madeCells _ _) (fun i hi => by simp [madeCells, hi, Nat.mod_one]) HF.x2 HF.x3 hrow4)
  clear hrow4 HGB HB3 HBB3 HDX hf2 hf1 hlx hmx hsz62 hkL HUA HUB HLZ
  obtain ⟨K, hK⟩ : ∃ K, L + 1 - (n + 2) = K := ⟨_, rfl⟩
  have hKL : K + (n + 2) = L + 1 := by omega
  clear hK
  have hLK : (L : Int) + 1 = (K : Int) + ((n : Int) + 2) := by omega
  have hK0 : 0 < K := by omega
  have hmk2 := run_make_row' (P := Try.prog) 24 62 (.int .u64 0) 8 Try.underlying24 Try.info62 rfl .i64 .i64 K (by omega) (by omega)
  have j1 : IntKind.i64.wrap ((L : Int) + 1 - ((n : Int) + 2)) = (K : Int) := by rw [hLK]; exact (IntWalk.i64_in _ (by omega)).trans (by omega)
  have hrq := World.rowIs_made S4 (.int .u64 0) K 62
  have HRQ := Lib.hid hrq
  clear hrq
  go_wp2_with fail
  have hgq : S2.heap.size < S4.heap.size := HR4.out.lt
  have HDA := Lib.hid (fun (W : World) (h : Below S2.heap.size S2 W) => HDD.out.below h)
  have hne : ∀ b p, Ad = some ⟨b, p, none⟩ → b ≠ S2.heap.size := by
    intro b p e
    obtain ⟨b', o', e', hlt', _⟩ := HDD.out 0 (by omega)
    rw [e] at e'
    cases e'
    omega
  have HNE := Lib.hid hne
  clear hne hmk2 j1 hK0 hgu hLK
  go_loopw [14] (fun v14 wr => ∃ m : Nat, m ≤ K ∧ v14 = .int .i64 ((m : Int) - 1) ∧ wr.rowIs S2.heap.size 62 (L + 1) (fun p => .int .u64 (dig 64 (rowV X Y m) p : Nat)) ∧ wr.rowIs S4.heap.size 62 K (fun p => .int .u64 (hiw (X / Y) m p : Nat)) ∧ Below S2.heap.size S2 wr) (fun v14 _ => (intOf v14 + 1).toNat)
  case atStart =>
    refine ⟨K, Nat.le_refl _, rfl, ?_, ?_, cba hb4 _⟩
    · rw [rowV_start (by rw [show K = L + 1 - (n + 2) by omega]; exact HF.q)]
      exact HR4.out.alloc _
    · exact HRQ.out.congr (fun p hp => by unfold hiw; rw [if_neg (by omega)]; rfl)
  case round =>
    obtain ⟨m, hm, rfl, hru, hrq, hbr⟩ := hrel
    have HRU := Lib.hid hru
    have HRQ := Lib.hid hrq
    have HBR := Lib.hid hbr
    clear hru hrq hbr
    rcases Nat.eq_zero_or_pos m with h0 | h0
    · subst h0
      have hqb : X / Y < 2 ^ (64 * K) := by
        rw [show K = L + 1 - (n + 2) by omega]
        exact HF.q
      have hrb : X % Y < 2 ^ (64 * (n + 2)) := Nat.lt_trans (Nat.mod_lt X HF.y0) HF.y1
      have hqd : Digs wr (some ⟨S4.heap.size, 0, none⟩) .u64 64 (X / Y) K := Digs.of_row HRQ.out (Nat.le_refl _) (fun i _ => by unfold hiw; rw [if_pos (Nat.zero_le _)])
      have hrd : Digs wr (some ⟨S2.heap.size, 0, none⟩) .u64 64 (X % Y) (n + 2) := Digs.of_row HRU.out (by omega) (fun i _ => by rw [rowV_end])
      have HLB := Lib.hid ((wl_le (k := 64) (by decide) (X % Y) (n + 2)).2 hrb)
      have hu2 := blk_below V2.out HBR.out
      have hu3 := blk_below V3.out HBR.out
      have hbw := cbt HB2.out HBR.out
      have HTQ := Lib.hid (fun (W : World) (h : Below wr.heap.size wr W) => trim_any (some ⟨S4.heap.size, 0, none⟩) K K (X / Y) W (Nat.le_refl _) (by unfold maxLen; omega) (hqd.below h) hqb)
      have HCL := Lib.hid (fun (W : World) (h : Below wr.heap.size wr W) => clone_any S2.heap.size 0 (n + 2) (L + 1) (X % Y) W (by omega) (by omega) (hrd.below h))
      have HRB := Lib.hid hrb
      obtain ⟨r, hr⟩ : ∃ r, X % Y = r := ⟨_, rfl⟩
      obtain ⟨q, hq⟩ : ∃ q, X / Y = q := ⟨_, rfl⟩
      rw [hq] at HTQ
      rw [hr] at HCL HRB HLB
      have HQE := Lib.hid hq
      have HRE := Lib.hid hr
      have U2 := Lib.hid hu2
      have U3 := Lib.hid hu3
      have HBW := Lib.hid hbw
      have hsz : w.heap.size + 4 ≤ wr.heap.size := by
        have := hu3.lt
        omega
      clear hqb hrb hqd hrd hu2 hu3 hbw hr hq HRU HRQ HBR hb4 HR4
      have i0 : (0 : Int) ≤ (n : Int) + 2 := by omega
      have i1 : (n : Int) + 2 ≤ (L : Int) + 1 := by omega
      have i2 : ((n : Int) + 2).toNat = n + 2 := by omega
      go_wp2_with fail
      go_region_held3 (fun _ => True) (exact trivial)
        (first
          | (go_at_call 92; (with_reducible refine (HTQ.out _ ?_).mono ?_); (repeat (with_reducible (first | exact Below.refl _ _ | exact below_drewN (Below.refl _ _) _ | refine Below.drew ?_))); rintro e w5 ⟨v5, rfl, ⟨A5, c5, rfl, hl5, hm5, hd5⟩, hb5⟩; have hb5' := Lib.hid (cbt (below_drewN (Below.refl wr.heap.size wr) 1) hb5); have HD5 := Lib.hid hd5; clear hd5)
          | (go_at_call 100; (with_reducible refine (HCL.out _ ?_).mono ?_); (exact hb5'.out); rintro e w6 ⟨A6, c6, rfl, hl6, hm6, hd6, hb6⟩; have hb6' := Lib.hid (cbt hb5'.out hb6); have HD6 := Lib.hid hd6; clear hd6)
          | (go_at_call 92; (with_reducible refine (trim_any A6 (n + 2) c6 r _ hl6 hm6 HD6.out HRB.out).mono ?_); rintro e w7 ⟨v7, rfl, hn7, hb7⟩; have hb7' := Lib.hid (cbt hb6'.out hb7); have HN7 := Lib.hid hn7)
          | (go_at_call 33; (with_reducible refine (ndown_any v7 r _ HN7.out ?_ (s : Nat) ?_).mono ?_); (have := HLB.out; omega); (have := hsd3; omega); rintro e w8 ⟨v8, rfl, ⟨A8, c8, rfl, hl8, hm8, hd8⟩, hb8⟩; have hb8' := Lib.hid (cbt hb7'.out hb8); have HD8 := Lib.hid hd8; clear hd8; have Z2 := Lib.hid (blk_below U2.out hb8'.out); have Z3 := Lib.hid (blk_below U3.out hb8'.out); have kk2 : w8.cell? ⟨w.heap.size + 1 + 1, 0, none⟩ = some (.slice none 0 0) := Z2.out.cell 0; have kk3 : w8.cell? ⟨w.heap.size + 1 + 1 + 1, 0, none⟩ = some (.slice none 0 0) := Z3.out.cell 0; have ff2 := Z2.out.frozen 0; have ff3 := Z3.out.frozen 0))
      rw [Int.toNat_natCast] at hl8
      have hd8 := HD8.out
      rw [Int.toNat_natCast] at hd8
      have z3 := Z3.out.far (p := ⟨w.heap.size + 1 + 1, 0, none⟩) (show w.heap.size + 1 + 1 + 1 ≠ w.heap.size + 1 + 1 by omega) (.slice A5 (wl 64 q) c5)
      have HF2 := Lib.hid (show ∃ q' r', (Ending.returned (.tuple #[.agg #[.slice A5 (wl 64 q) c5], .agg #[.slice A8 (wl 64 (r / 2 ^ s)) c8], .int .i64 0])) = .returned (.tuple #[q', r', .int .i64 0]) ∧ N64 ((w8.setCell ⟨w.heap.size + 1 + 1, 0, none⟩ (.slice A5 (wl 64 q) c5)).setCell ⟨w.heap.size + 1 + 1 + 1, 0, none⟩ (.slice A8 (wl 64 (r / 2 ^ s)) c8)) q' (X / Y) ∧ N64 ((w8.setCell ⟨w.heap.size + 1 + 1, 0, none⟩ (.slice A5 (wl 64 q) c5)).setCell ⟨w.heap.size + 1 + 1 + 1, 0, none⟩ (.slice A8 (wl 64 (r / 2 ^ s)) c8)) r' (X % Y / 2 ^ s) ∧ Below w.heap.size w ((w8.setCell ⟨w.heap.size + 1 + 1, 0, none⟩ (.slice A5 (wl 64 q) c5)).setCell ⟨w.heap.size + 1 + 1 + 1, 0, none⟩ (.slice A8 (wl 64 (r / 2 ^ s)) c8)) from by
        rw [HQE.out, HRE.out]
        exact ⟨_, _, rfl, N64.put (N64.put (N64.below ⟨A5, c5, rfl, hl5, hm5, HD5.out⟩ (cbt (cbt hb6 hb7) hb8)) Z2.out _) z3 _, (N64.put (N64.put ⟨A8, c8, rfl, hl8, hm8, hd8⟩ Z2.out _) z3 _),
          ((cbt HBW.out hb8'.out).setCell (p := ⟨w.heap.size + 1 + 1, 0, none⟩) (show w.heap.size ≤ w.heap.size + 1 + 1 by omega) _).setCell (p := ⟨w.heap.size + 1 + 1 + 1, 0, none⟩) (show w.heap.size ≤ w.heap.size + 1 + 1 + 1 by omega) _⟩)
      clear z3 hl8 hd8 hb5 hb6 hb7 hb8 hn7
      go_wp2
      exact bodyPost_ret (v := .tuple #[.agg #[.slice A5 (wl 64 q) c5], .agg #[.slice A8 (wl 64 (r / 2 ^ s)) c8], .int .i64 0]) (by simp [results, Try.results23, go_sem, kk2, kk3]) rfl HF2.out
    · obtain ⟨j, rfl⟩ : ∃ j, m = j + 1 := ⟨m - 1, by omega⟩
      obtain ⟨bD, oD, rfl, hltD, hcD1⟩ := HDD.out (n + 1) (by omega)
      have hcD0 : S2.cell? ⟨bD, oD + n, none⟩ = some (.int .u64 (dig 64 Y n : Nat)) := by
        obtain ⟨b', o', e', _, hc⟩ := HDD.out n (by omega)
        cases e'
        exact hc
      have d1 : wr.cell? ⟨bD, oD + (n + 1), none⟩ = some (.int .u64 (dig 64 Y (n + 1) : Nat)) := (HBR.out.cell (p := ⟨bD, oD + (n + 1), none⟩) hltD).trans hcD1
      have d0 : wr.cell? ⟨bD, oD + n, none⟩ = some (.int .u64 (dig 64 Y n : Nat)) := (HBR.out.cell (p := ⟨bD, oD + n, none⟩) hltD).trans hcD0
      have HD1 := Lib.hid d1
      have HD0 := Lib.hid d0
      have HGU := Lib.hid (fun (W : World) (hW : Drew wr W) => guess_any S2.heap.size j (n + 3) (L + 1 - j) n Y (partV X Y j) W rfl (by omega) HF.y1 HF.y0 (partV_lt HF.y0 j)
        (by rw [hW.cell]; unfold partV; rw [dig_div]; exact HRU.out.cell (by omega)) (by rw [hW.cell]; unfold partV; rw [dig_div]; exact HRU.out.cell (by omega)) (by rw [hW.cell]; unfold partV; rw [dig_div]; exact HRU.out.cell (by omega)))
      rw [partV_div HF.y0] at HGU
      obtain ⟨y1, hy1⟩ : ∃ y1, dig 64 Y (n + 1) = y1 := ⟨_, rfl⟩
      obtain ⟨y0, hy0⟩ : ∃ y0, dig 64 Y n = y0 := ⟨_, rfl⟩
      rw [hy1] at HD1 HGU
      rw [hy0] at HD0 HGU
      clear hcD1 hcD0 d1 d0 hy1 hy0
      have p1 : (0 : Int) ≤ (j : Int) + 1 - 1 := by omega
      have p2 : ¬ (L + 1 = j) := by omega
      have p3 : IntKind.i64.wrap ((j : Int) + 1 - 1 + ((n : Int) + 2)) = (j : Int) + (n : Int) + 2 := (IntWalk.i64_in _ (by omega)).trans (by omega)
      have p4 : IntKind.i64.wrap ((j : Int) + (n : Int) + 2 + 1) = (j : Int) + (n : Int) + 3 := (IntWalk.i64_in _ (by omega)).trans (by omega)
      have p5 : (j : Int) + 1 - 1 ≤ (j : Int) + (n : Int) + 3 := by omega
      have p6 : (j : Int) + (n : Int) + 3 ≤ (L : Int) + 1 := by omega
      have p7 : ((j : Int) + 1 - 1).toNat = j := by omega
      have p8 : ((j : Int) + (n : Int) + 3).toNat = j + n + 3 := by omega
      go_wp2_with fail
      rw [show j + (n + 2) + 1 - j = n + 3 by omega]
      clear p1 p2 p3 p4 p5 p6 p7 p8
      have m1 : IntKind.i64.wrap ((n : Int) + 2 - 1) = (n : Int) + 1 := (IntWalk.i64_in _ (by omega)).trans (by omega)
      have m2 : IntKind.i64.wrap ((n : Int) + 2 - 2) = (n : Int) := (IntWalk.i64_in _ (by omega)).trans (by omega)
      have m2b : IntKind.i64.wrap (n : Int) = (n : Int) := IntWalk.i64_in _ (by omega)
      have m3 : (0 : Int) ≤ (n : Int) + 1 := by omega
      have m4 : (n : Int) + 1 < (n : Int) + 2 := by omega
      have m5 : (0 : Int) ≤ (n : Int) := by omega
      have m6 : (n : Int) < (n : Int) + 2 := by omega
      have m7 : ((n : Int) + 1).toNat = n + 1 := by omega
      have m8 : ((n : Int)).toNat = n := by omega
      go_region_held3 (fun w' => w'.cell? ⟨bD, oD + (n + 1), none⟩ = some (.int .u64 (y1 : Nat)) ∧ w'.cell? ⟨bD, oD + n, none⟩ = some (.int .u64 (y0 : Nat))) (first | exact ⟨HD1.out, HD0.out⟩ | exact ⟨(hdw2.cell _).trans HD1.out, (hdw2.cell _).trans HD0.out⟩)
        (first | (go_at_call 97; (with_reducible refine (HGU.out _ ?_).mono ?_); (exact ⟨_, rfl⟩); rintro e w2 ⟨xg, hxg, hqg, rfl, hdw⟩; have hdw2 : Drew wr w2 := Drew.trans ⟨_, rfl⟩ hdw))
      clear m1 m2 m2b m3 m4 m5 m6 m7 m8 HGU HD1 HD0
      have HQG := Lib.hid hqg
      have hb2 : Below S2.heap.size S2 w2 := HBR.out.trans (hdw2.below.mono HBR.out.size)
      have HRU2 := Lib.hid (show w2.rowIs S2.heap.size 62 (L + 1) (fun p => .int .u64 (dig 64 (rowV X Y (j + 1)) p : Nat)) from by obtain ⟨k, rfl⟩ := hdw2; exact World.rowIs.drewN HRU.out k)
      have HRQ2 := Lib.hid (show w2.rowIs S4.heap.size 62 K (fun p => .int .u64 (hiw (X / Y) (j + 1) p : Nat)) from by obtain ⟨k, rfl⟩ := hdw2; exact World.rowIs.drewN HRQ.out k)
      have HSP := Lib.hid (sub_part S2.heap.size X Y L n j (n + 3) (L + 1 - j) xg cd (some ⟨bD, oD, none⟩) w2 HRU2.out hxg (by omega) (by omega) (by omega) (HDA.out _ hb2) HF.y1 HF.y0 HNE.out)
      have HB2' := Lib.hid hb2
      clear hdw hdw2 hqg hb2
      go_wp2_with fail
      refine HSP.out.mono ?_
      rintro e w3 ⟨rfl, hr3, hg3⟩
      have HR3 := Lib.hid hr3
      have HQ3 := Lib.hid (row_grown HRQ2.out hg3 (by simp; omega))
      have HB3 := Lib.hid (HB2'.out.grown hg3 (Nat.le_of_lt HRU2.out.lt) (fun k e => by cases e; exact Nat.le_refl _))
      clear hr3 hg3
      go_wp2_with fail
      go_loopw [16, 17] (fun v16 v17 wr => ∃ xc : Nat, v16 = .int .u64 (xc : Nat) ∧ v17 = .bool (decide (partV X Y j < xc * Y)) ∧ dig 64 (X / Y) j ≤ xc ∧ xc < 2 ^ 64 ∧ wr.rowIs S2.heap.size 62 (L + 1) (fun p => .int .u64 (overV X Y j xc (n + 3) p : Nat)) ∧ wr.rowIs S4.heap.size 62 K (fun p => .int .u64 (hiw (X / Y) (j + 1) p : Nat)) ∧ Below S2.heap.size S2 wr) (fun v16 _ _ => (intOf v16).toNat)
      case atStart => exact ⟨xg, rfl, rfl, HQG.out, hxg, HR3.out, HQ3.out, HB3.out⟩
      case round =>
        obtain ⟨xc, rfl, rfl, hqc, hxc, hr, hq, hb⟩ := hrel
        have HQ4 := Lib.hid hq
        have HB4 := Lib.hid hb
        have HXC := Lib.hid hxc
        have HQC := Lib.hid hqc
        clear hqc
        by_cases hov : partV X Y j < xc * Y
        · have hx1 : 1 ≤ xc := by
            rcases Nat.eq_zero_or_pos xc with h | h
            · subst h; rw [Nat.zero_mul] at hov; omega
            · exact h
          obtain ⟨c, rfl⟩ : ∃ c, xc = c + 1 := ⟨xc - 1, by omega⟩
          have HBK := Lib.hid (back_part S2.heap.size X Y L n j (n + 3) (L + 1 - j) (c + 1) cd (some ⟨bD, oD, none⟩) wr hr hxc hov (by omega) (by omega) (by omega) (HDA.out _ hb) HF.y1 HF.y0 HNE.out)
          rw [Nat.add_sub_cancel] at HBK
          have HC := Lib.hid (show dig 64 (X / Y) j ≤ c from by
            rcases Nat.lt_or_ge c (dig 64 (X / Y) j) with h | h
            · exfalso
              rw [← partV_div HF.y0] at h
              have h2 := Nat.mul_le_mul_right Y h
              have h3 := Nat.div_mul_le_self (partV X Y j) Y
              have h4 : (c + 1) * Y = (c.succ) * Y := rfl
              omega
            · exact h)
          have hlt := hr.lt
          have hc64 : c < 18446744073709551616 := by omega
          have hdt : decide (partV X Y j < (c + 1) * Y) = true := decide_eq_true hov
          obtain ⟨od, hod⟩ : ∃ od, decide (partV X Y j < c * Y) = od := ⟨_, rfl⟩
          rw [hod] at HBK
          have HOD := Lib.hid hod
          clear hr hq hb hxc hov hod hx1
          rw [hdt]
          clear hdt
          go_wp2_with fail
          refine HBK.out.mono ?_
          rintro e w5 ⟨rfl, hr5, hg5⟩
          have HR5 := Lib.hid hr5
          have HQ5 := Lib.hid (row_grown HQ4.out hg5 (by simp; omega))
          have HB5 := Lib.hid (HB4.out.grown hg5 (Nat.le_of_lt hlt) (fun k e => by cases e; exact Nat.le_refl _))
          clear hr5 hg5
          go_wp2_with fail
          go_roundw
          case rel => exact ⟨c, by simp, by rw [HOD.out], HC.out, by omega, HR5.out, HQ5.out, HB5.out⟩
          case measure => simp [intOf]
        · obtain ⟨hxe, hrow⟩ := overV_end HF.y0 HF.y1 HQC.out hov
          have HRW := Lib.hid (hr.congr (fun p _ => by rw [hrow p]) : wr.rowIs S2.heap.size 62 (L + 1) (fun p => .int .u64 (dig 64 (rowV X Y j) p : Nat)))
          have HXE := Lib.hid hxe
          have hdt : decide (partV X Y j < xc * Y) = false := decide_eq_false hov
          have hjK : j < K := by omega
          have fq := hq.frozen j
          have hqj := hq.cell hjK
          clear hr hq hb hxc hov hrow hxe
          rw [hdt]
          clear hdt
          have p1 : (0 : Int) ≤ (j : Int) := by omega
          have p2 : (j : Int) < (K : Int) := by omega
          go_wp2_with fail
          go_roundw
          case measure => simp [intOf]
          refine ⟨j, by omega, rfl, row_far HRW.out (show S2.heap.size ≠ S4.heap.size by omega) _, ?_, HB4.out.setCell (p := ⟨S4.heap.size, j, none⟩) (Nat.le_of_lt hgq) _⟩
          refine (HQ4.out.set j (.int .u64 (xc : Nat))).congr (fun p _ => ?_)
          rw [hiw_step (q := X / Y) (i := j) (p := p), ← HXE.out]
          by_cases h1 : p = j
          · rw [if_pos h1, if_pos h1]
          · rw [if_neg h1, if_neg h1]

/-- Div, where the divisor is not nought. -/
theorem ndiv_any (va vb : Value) (x y : Nat) (w : World) (ha : N64 w va x) (hb : N64 w vb y) (hx : wl 64 x ≤ 1000000000) (hy0 : 0 < y) :
    Calls Try.prog 23 #[va, vb] w fun e w' => ∃ q r, e = .returned (.tuple #[q, r, .int .i64 0]) ∧ N64 w' q (x / y) ∧ N64 w' r (x % y) ∧ Below w.heap.size w w' := by
  rcases Nat.lt_or_ge x y with h | h
  · have := ndiv_less va vb x y w ha hb h
    rw [Nat.div_eq_of_lt h, Nat.mod_eq_of_lt h]
    exact this
  · rcases Nat.lt_or_ge y (2 ^ 64) with h1 | h1
    · exact ndiv_word va vb x y w ha hb (by omega) hy0 h1 h
    · obtain ⟨n, hn⟩ : ∃ n, wl 64 y = n + 2 := by
        refine ⟨wl 64 y - 2, ?_⟩
        have := (lt_wl (k := 64) (by decide) y 1).2 (by simpa using h1)
        omega
      exact ndiv_main va vb x y n w ha hb hx hn h
end Go.Proofs.Yteikhnmmkanndaa

/- The walk of GCD. -/
namespace Go.Proofs.Yteikhnmmkanndaa
open Go.RowKit

/-- a box that holds a number. -/
def Box (w : World) (r x : Nat) : Prop := ∃ A c, Blk w r 26 #[.slice A (wl 64 x) c] ∧ N64 w (.agg #[.slice A (wl 64 x) c]) x
theorem Box.below {w w' : World} {r x : Nat} (h : Box w r x) (hb : Below w.heap.size w w') : Box w' r x := by
  obtain ⟨A, c, hk, hn⟩ := h
  exact ⟨A, c, blk_below hk hb, hn.below hb⟩

set_option maxRecDepth 100000 in
set_option maxHeartbeats 2000000 in
theorem ngcd_any (va vb : Value) (x y : Nat) (w : World) (ha : N64 w va x) (hb : N64 w vb y) (hx : wl 64 x ≤ 1000000000) (hy : wl 64 y ≤ 1000000000) :
    Calls Try.prog 53 #[va, vb] w (Mk64 w (Nat.gcd x y)) := by
  have HM := Lib.hid ha
  have HN := Lib.hid hb
  obtain ⟨A, ca, rfl, _, _, _⟩ := ha
  obtain ⟨B, cb, rfl, _, _, _⟩ := hb
  have hb0 := cba (cba (cba (Below.refl _ w) (.cells #[.slice A (wl 64 x) ca] 26)) (.cells #[.slice B (wl 64 y) cb] 26)) (.cells #[.slice none 0 0] 26)
  have e0 := ((Blk.new w 26 #[.slice A (wl 64 x) ca]).alloc (.cells #[.slice B (wl 64 y) cb] 26)).alloc (.cells #[.slice none 0 0] 26)
  have e1 := (Blk.new (w.alloc (.cells #[.slice A (wl 64 x) ca] 26)) 26 #[.slice B (wl 64 y) cb]).alloc (.cells #[.slice none 0 0] 26)
  have e2 := Blk.new ((w.alloc (.cells #[.slice A (wl 64 x) ca] 26)).alloc (.cells #[.slice B (wl 64 y) cb] 26)) 26 #[.slice none 0 0]
  simp only [World.size_alloc] at e1 e2
  have B0 := Lib.hid (show Box _ w.heap.size x from ⟨A, ca, e0, HM.out.below hb0⟩)
  have B1 := Lib.hid (show Box _ (w.heap.size + 1) y from ⟨B, cb, e1, HN.out.below hb0⟩)
  have B2 := Lib.hid e2
  have HB0 := Lib.hid hb0
  have HX := Lib.hid hx
  have HY := Lib.hid hy
  clear hb0 e0 e1 e2 hx hy
  go_enter Try.func53, Try.ntmps53
  go_wp2_with fail
  go_loopg [7] y (fun k _ wr => ∃ x' : Nat, Hid (Nat.gcd x' k = Nat.gcd x y) ∧ Hid (wl 64 x' ≤ 1000000000) ∧ Hid (wl 64 k ≤ 1000000000) ∧ Hid (Box wr w.heap.size x') ∧ Hid (Box wr (w.heap.size + 1) k) ∧ Hid (Blk wr (w.heap.size + 1 + 1) 26 #[.slice none 0 0]) ∧ Hid (Below w.heap.size w wr))
  case atStart => exact ⟨x, Lib.hid rfl, HX, HY, B0, B1, B2, HB0⟩
  case round =>
    obtain ⟨x', hg, hx', hy', b0, b1, b2, hbw⟩ := hrel
    obtain ⟨A', ca', hA, hnA⟩ := b0.out
    obtain ⟨B', cb', hB, hnB⟩ := b1.out
    have k0 : wr.cell? ⟨w.heap.size, 0, none⟩ = some (.slice A' (wl 64 x') ca') := hA.cell 0
    have k1 : wr.cell? ⟨w.heap.size + 1, 0, none⟩ = some (.slice B' (wl 64 gk) cb') := hB.cell 0
    have HA := Lib.hid hA
    have HB := Lib.hid hB
    have HNA := Lib.hid hnA
    have HNB := Lib.hid hnB
    clear hA hB hnA hnB
    rcases Nat.eq_zero_or_pos gk with h0 | h0
    · subst h0
      have HZ := Lib.hid (fun W h => zero_yes (.agg #[.slice B' (wl 64 0) cb']) W h)
      have HG := Lib.hid (show x' = Nat.gcd x y by rw [← hg.out, Nat.gcd_zero_right])
      go_wp2_with fail
      refine (HZ.out _ HNB.out).mono ?_
      rintro e w1 ⟨rfl, hb1⟩
      have z0 := blk_below HA.out hb1
      have z2 := blk_below b2.out hb1
      have q0 : w1.cell? ⟨w.heap.size, 0, none⟩ = some (.slice A' (wl 64 x') ca') := z0.cell 0
      have q2 : w1.cell? ⟨w.heap.size + 1 + 1, 0, none⟩ = some (.slice none 0 0) := z2.cell 0
      have f2 := z2.frozen 0
      have HF := Lib.hid (show Mk64 w (Nat.gcd x y) (.returned (.agg #[.slice A' (wl 64 x') ca'])) (w1.setCell ⟨w.heap.size + 1 + 1, 0, none⟩ (.slice A' (wl 64 x') ca')) from by
        rw [← HG.out]
        exact ⟨_, rfl, N64.put (HNA.out.below hb1) z2 _, (cbt hbw.out hb1).setCell (p := ⟨w.heap.size + 1 + 1, 0, none⟩) (show w.heap.size ≤ w.heap.size + 1 + 1 by omega) _⟩)
      clear z0 z2 hb1 k0 k1
      go_wp2
      exact bodyPost_ret (v := .agg #[.slice A' (wl 64 x') ca']) (by simp [results, Try.results53, go_sem, q2]) rfl HF.out
    · have HZ := Lib.hid (fun W h => zero_no (.agg #[.slice B' (wl 64 gk) cb']) gk W h h0)
      have HDV := Lib.hid (fun W h1 h2 => ndiv_any (.agg #[.slice A' (wl 64 x') ca']) (.agg #[.slice B' (wl 64 gk) cb']) x' gk W h1 h2 hx'.out h0)
      go_wp2_with fail
      refine (HZ.out _ HNB.out).mono ?_
      rintro e w1 ⟨rfl, hb1⟩
      have z0 := blk_below HA.out hb1
      have z1 := blk_below HB.out hb1
      have q0 : w1.cell? ⟨w.heap.size, 0, none⟩ = some (.slice A' (wl 64 x') ca') := z0.cell 0
      have q1 : w1.cell? ⟨w.heap.size + 1, 0, none⟩ = some (.slice B' (wl 64 gk) cb') := z1.cell 0
      have HB1 := Lib.hid hb1
      clear z0 z1 hb1 k0 k1
      go_wp2_with fail
      refine (HDV.out _ (HNA.out.below HB1.out) (HNB.out.below HB1.out)).mono ?_
      rintro e w2 ⟨vq, vr, rfl, hq, hr, hb2⟩
      obtain ⟨Q, cq, rfl, _, _, _⟩ := hq
      have HR := Lib.hid hr
      obtain ⟨R, cr, rfl, _, _, _⟩ := hr
      have HB2 := Lib.hid (cbt HB1.out hb2)
      clear hb2 q0 q1
      go_wp2_with fail
      have hbS : Below wr.heap.size wr ((w2.alloc (.cells #[.slice Q (wl 64 (x' / gk)) cq] 26)).alloc (.cells #[.slice R (wl 64 (x' % gk)) cr] 26)) := cba (cba HB2.out _) _
      have zR := Blk.new (w2.alloc (.cells #[.slice Q (wl 64 (x' / gk)) cq] 26)) 26 #[.slice R (wl 64 (x' % gk)) cr]
      have nR := HR.out.below (cba (cba (Below.refl _ w2) (.cells #[.slice Q (wl 64 (x' / gk)) cq] 26)) (.cells #[.slice R (wl 64 (x' % gk)) cr] 26))
      have hsz : wr.heap.size ≤ w2.heap.size + 1 := Nat.le_succ_of_le HB2.out.size
      simp only [World.size_alloc] at zR
      obtain ⟨S, hS⟩ : ∃ S, (w2.alloc (.cells #[.slice Q (wl 64 (x' / gk)) cq] 26)).alloc (.cells #[.slice R (wl 64 (x' % gk)) cr] 26) = S := ⟨_, rfl⟩
      rw [hS] at hbS zR nR ⊢
      obtain ⟨g6, hg6⟩ : ∃ g6, w2.heap.size + 1 = g6 := ⟨_, rfl⟩
      rw [hg6] at zR hsz
      simp only [hg6]
      have zA := blk_below HA.out hbS
      have zB := blk_below HB.out hbS
      have zC := blk_below b2.out hbS
      have c1 : S.cell? ⟨w.heap.size + 1, 0, none⟩ = some (.slice B' (wl 64 gk) cb') := zB.cell 0
      have c0 : S.cell? ⟨w.heap.size, 0, none⟩ = some (.slice A' (wl 64 x') ca') := zA.cell 0
      have c6 : S.cell? ⟨g6, 0, none⟩ = some (.slice R (wl 64 (x' % gk)) cr) := zR.cell 0
      have hne6 : g6 ≠ w.heap.size := by
        have := HA.out.lt
        omega
      have c6a : (S.setCell ⟨w.heap.size, 0, none⟩ (.slice B' (wl 64 gk) cb')).cell? ⟨g6, 0, none⟩ = some (.slice R (wl 64 (x' % gk)) cr) := (zR.far (p := ⟨w.heap.size, 0, none⟩) hne6 _).cell 0
      have f0 := zA.frozen 0
      have f1 := zB.frozen 0
      have z1a := zB.far (p := ⟨w.heap.size, 0, none⟩) (show w.heap.size + 1 ≠ w.heap.size by omega) (.slice B' (wl 64 gk) cb')
      have z2a := (zC.far (p := ⟨w.heap.size, 0, none⟩) (show w.heap.size + 1 + 1 ≠ w.heap.size by omega) (.slice B' (wl 64 gk) cb')).far (p := ⟨w.heap.size + 1, 0, none⟩) (show w.heap.size + 1 + 1 ≠ w.heap.size + 1 by omega) (.slice R (wl 64 (x' % gk)) cr)
      have bA : Blk ((S.setCell ⟨w.heap.size, 0, none⟩ (.slice B' (wl 64 gk) cb')).setCell ⟨w.heap.size + 1, 0, none⟩ (.slice R (wl 64 (x' % gk)) cr)) w.heap.size 26 #[.slice B' (wl 64 gk) cb'] := (zA.set_ 0 (.slice B' (wl 64 gk) cb')).far (p := ⟨w.heap.size + 1, 0, none⟩) (show w.heap.size ≠ w.heap.size + 1 by omega) _
      have bB : Blk ((S.setCell ⟨w.heap.size, 0, none⟩ (.slice B' (wl 64 gk) cb')).setCell ⟨w.heap.size + 1, 0, none⟩ (.slice R (wl 64 (x' % gk)) cr)) (w.heap.size + 1) 26 #[.slice R (wl 64 (x' % gk)) cr] := z1a.set_ 0 _
      have HFA := Lib.hid (show Box ((S.setCell ⟨w.heap.size, 0, none⟩ (.slice B' (wl 64 gk) cb')).setCell ⟨w.heap.size + 1, 0, none⟩ (.slice R (wl 64 (x' % gk)) cr)) w.heap.size gk from ⟨_, _, bA, N64.put (N64.put (HNB.out.below hbS) zA _) z1a _⟩)
      have HFB := Lib.hid (show Box ((S.setCell ⟨w.heap.size, 0, none⟩ (.slice B' (wl 64 gk) cb')).setCell ⟨w.heap.size + 1, 0, none⟩ (.slice R (wl 64 (x' % gk)) cr)) (w.heap.size + 1) (x' % gk) from ⟨_, _, bB, N64.put (N64.put nR zA _) z1a _⟩)
      have HFC := Lib.hid z2a
      have HFW := Lib.hid (((cbt hbw.out hbS).setCell (p := ⟨w.heap.size, 0, none⟩) (Nat.le_refl _) (.slice B' (wl 64 gk) cb')).setCell (p := ⟨w.heap.size + 1, 0, none⟩) (Nat.le_succ _) (.slice R (wl 64 (x' % gk)) cr))
      have hmod := Nat.mod_lt x' h0
      have HGG := Lib.hid (show Nat.gcd gk (x' % gk) = Nat.gcd x y by rw [← hg.out, Nat.gcd_comm x' gk, Nat.gcd_rec gk x', Nat.gcd_comm])
      have HWM := Lib.hid (show wl 64 (x' % gk) ≤ 1000000000 from Nat.le_trans (wl_mono (by decide) (Nat.le_of_lt hmod)) hy'.out)
      have HMOD := Lib.hid hmod
      clear hS hg6 zA zB zC zR nR z1a z2a bA bB hmod HZ HDV
      go_region
      all_goals
        go_wp2_with fail
        go_roundg (x' % gk)
        case measure => exact HMOD.out
        case rel => exact ⟨gk, HGG, hy', HWM, Lib.hid (HFA.out.below (Below.refl _ _).drew), Lib.hid (HFB.out.below (Below.refl _ _).drew), Lib.hid HFC.out.drew, Lib.hid HFW.out.drew⟩
end Go.Proofs.Yteikhnmmkanndaa

/- The walk of Parse. -/
namespace Go.Proofs.Yteikhnmmkanndaa
open Go.RowKit

/-- the number that decimal digits write. -/
def decN (l : List UInt8) : Nat := l.foldl (fun a c => a * 10 + (c.toNat - 48)) 0
def isDig (c : UInt8) : Prop := 48 ≤ c.toNat ∧ c.toNat ≤ 57
/-- a number's text: digits, no nought ahead of others. -/
def okText (l : List UInt8) : Prop := l ≠ [] ∧ (∀ c ∈ l, isDig c) ∧ ¬ (1 < l.length ∧ l.head? = some 48)
theorem decN_snoc (l : List UInt8) (c : UInt8) : decN (l ++ [c]) = decN l * 10 + (c.toNat - 48) := by simp [decN]
theorem foldl_dec (l : List UInt8) (a : Nat) : l.foldl (fun a c => a * 10 + (c.toNat - 48)) a = a * 10 ^ l.length + decN l := by
  induction l generalizing a with
  | nil => simp [decN]
  | cons c l ih =>
    unfold decN
    rw [List.foldl_cons, List.foldl_cons, ih, ih, List.length_cons, Nat.pow_succ, Nat.zero_mul, Nat.zero_add, Nat.add_mul, Nat.mul_assoc a, Nat.mul_comm 10, Nat.add_assoc]
theorem decN_append (a b : List UInt8) : decN (a ++ b) = decN a * 10 ^ b.length + decN b := by
  unfold decN
  rw [List.foldl_append, foldl_dec]
  rfl
theorem decN_lt (l : List UInt8) (h : ∀ c ∈ l, isDig c) : decN l < 10 ^ l.length := by
  induction l with
  | nil => simp [decN]
  | cons c l ih =>
    have h1 := ih (fun d hd => h d (List.mem_cons_of_mem _ hd))
    have h2 := h c (by simp)
    have h3 := decN_append [c] l
    rw [show [c] ++ l = c :: l from rfl] at h3
    rw [h3, List.length_cons, Nat.pow_succ]
    have h4 : decN [c] = c.toNat - 48 := by simp [decN]
    rw [h4]
    unfold isDig at h2
    have h5 : (c.toNat - 48) * 10 ^ l.length ≤ 9 * 10 ^ l.length := Nat.mul_le_mul_right _ (by omega)
    omega
theorem bget (s : ByteArray) (i : Nat) (h : i < s.size) : s.toList[i]? = some s[i] := by
  rw [ByteArray.toList_eq]
  show s.data.toList[i]? = some (s.data[i]'h)
  simp
theorem bsize (s : ByteArray) : s.toList.length = s.size := by
  rw [ByteArray.toList_eq]
  exact Array.length_toList
theorem bdrop (s : ByteArray) (n : Nat) : (s.extract n s.size).toList = s.toList.drop n := by
  rw [ByteArray.toList_eq, ByteArray.toList_eq, ByteArray.data_extract, Array.toList_extract, List.extract_eq_take_drop]
  have h : s.data.toList.length = s.size := Array.length_toList
  show List.take (s.size - n) (List.drop n s.data.toList) = List.drop n s.data.toList
  rw [List.take_of_length_le]
  rw [List.length_drop, h]
  exact Nat.le_refl _
theorem decN_wl (l : List UInt8) (h : ∀ c ∈ l, isDig c) : wl 64 (decN l) ≤ l.length := by
  rw [wl_le (by decide)]
  refine Nat.lt_of_lt_of_le (decN_lt l h) ?_
  rw [Nat.pow_mul]
  exact Nat.pow_le_pow_left (by decide) _
theorem ten_bound {x k : Nat} (h : x < 2 ^ (64 * k)) : x * 10 ^ 19 < 2 ^ (64 * (k + 2)) := by
  calc x * 10 ^ 19 < 2 ^ (64 * k) * 2 ^ (64 * 2) := Nat.mul_lt_mul'' h (by decide)
    _ = 2 ^ (64 * (k + 2)) := by rw [← Nat.pow_add, Nat.mul_add]
theorem ten_wl {x k : Nat} (h : wl 64 x ≤ k) : wl 64 (x * 10 ^ 19) ≤ k + 2 := (wl_le (by decide) _ _).2 (ten_bound ((wl_le (by decide) _ _).1 h))
theorem bdrop_size (s : ByteArray) (n : Nat) : (s.extract n s.size).size = s.size - n := by rw [← bsize, bdrop, List.length_drop, bsize]
/-- what Parse answers. -/
def PEnd (w : World) (l : List UInt8) : Ending → World → Prop := fun e w' => ∃ v, (okText l ∧ e = .returned (.tuple #[v, .int .i64 0]) ∧ N64 w' v (decN l) ∨ ¬ okText l ∧ e = .returned (.tuple #[v, .int .i64 3]) ∧ N64 w' v 0) ∧ Below w.heap.size w w'

set_option maxRecDepth 100000 in
set_option maxHeartbeats 2000000 in
theorem nparse_bad (s : ByteArray) (w : World) (h : s.toList = [] ∨ 1 < s.size ∧ s.toList.head? = some 48) : Calls Try.prog 51 #[.string s] w (PEnd w s.toList) := by
  have hno : ¬ okText s.toList := by
    rintro ⟨h1, _, h3⟩
    rcases h with h | h
    · exact h1 h
    · refine h3 ⟨?_, h.2⟩
      rw [ByteArray.toList_eq]
      exact h.1
  have HF := Lib.hid (show PEnd w s.toList (.returned (.tuple #[.agg #[.slice none 0 0], .int .i64 3])) (w.alloc (.cells #[.slice none 0 0] 26)) from ⟨_, .inr ⟨hno, rfl, N64.zero _⟩, cba (Below.refl _ _) _⟩)
  have c2 := (Blk.new w 26 #[.slice none 0 0]).cell 0
  clear hno
  rcases h with h | ⟨h1, h2⟩
  · have hie : s.toList.isEmpty = true := by rw [h]; rfl
    go_enter Try.func51, Try.ntmps51
    go_wp2_with fail
    exact bodyPost_ret (v := .tuple #[.agg #[.slice none 0 0], .int .i64 3]) (by simp [results, Try.results51, go_sem]) rfl HF.out
  · have hie : s.toList.isEmpty = false := by
      cases hl : s.toList with
      | nil => rw [hl] at h2; cases h2
      | cons a l => rfl
    have hs0 : s[0]'(by omega) = 48 := by
      rw [List.head?_eq_getElem?, bget s 0 (by omega)] at h2
      simpa using h2
    go_enter Try.func51, Try.ntmps51
    go_wp2_with fail
    exact bodyPost_ret (v := .tuple #[.agg #[.slice none 0 0], .int .i64 3]) (by simp [results, Try.results51, go_sem]) rfl HF.out

def strlen : Value → Nat | .string b => b.size | _ => 0
/-- the first of a text's bytes. -/
theorem head_ne {s : ByteArray} (h : ¬ (1 < s.size ∧ s.toList.head? = some 48)) (h1 : 1 < s.size) : (((s[0]'(by omega)).toNat : Int) == 48) = false := by
  rw [beq_eq_false_iff_ne]
  intro e
  refine h ⟨h1, ?_⟩
  rw [List.head?_eq_getElem?, bget s 0 (by omega)]
  congr 1
  exact UInt8.toNat_inj.mp (by have : ((s[0]'(by omega)).toNat : Int) = 48 := e; show _ = 48; omega)

set_option maxRecDepth 100000 in
set_option maxHeartbeats 2000000 in
theorem nparse_good (s : ByteArray) (w : World) (hsz : s.size ≤ 100000) (h0 : s.toList ≠ []) (h1 : ¬ (1 < s.size ∧ s.toList.head? = some 48)) : Calls Try.prog 51 #[.string s] w (PEnd w s.toList) := by
  have hie : s.toList.isEmpty = false := by
    cases hl : s.toList with
    | nil => exact absurd hl h0
    | cons a l => rfl
  have HNE := Lib.hid h1
  have e0 := Blk.new w 26 #[.slice none 0 0]
  have hb0 := cba (Below.refl _ w) (.cells #[.slice none 0 0] 26)
  go_enter Try.func51, Try.ntmps51
  go_upto_region 1 with (fail)
  obtain ⟨S, hS⟩ : ∃ S, w.alloc (.cells #[.slice none 0 0] 26) = S := ⟨_, rfl⟩
  rw [hS] at e0 hb0 ⊢
  clear hS h0 h1
  go_cut [19] (fun v19 wx => v19 = .bool false ∧ wx = S)
  case first =>
    by_cases hlt : 1 < s.size
    · have hd := head_ne HNE.out hlt
      go_wp2_with fail
      go_meet
      exact ⟨rfl, rfl⟩
    · have hd : decide (1 < (s.size : Int)) = false := decide_eq_false (by omega)
      go_wp2_with fail
      go_meet
      exact ⟨rfl, rfl⟩
  case rest =>
    obtain ⟨rfl, rfl⟩ := hcut
    have e1 := Blk.new wc 26 #[.slice none 0 0]
    have hbc := cba hb0 (.cells #[.slice none 0 0] 26)
    have e0' := e0.alloc (.cells #[.slice none 0 0] 26)
    have hlt0 := e0.lt
    have B1 := Lib.hid (show Box (wc.alloc (.cells #[.slice none 0 0] 26)) wc.heap.size 0 from ⟨none, 0, by rw [wl_zero (by decide)]; exact e1, by rw [wl_zero (by decide)]; exact N64.zero _⟩)
    have B0 := Lib.hid e0'
    have HBC := Lib.hid hbc
    have HS := Lib.hid hsz
    clear e0 e0' e1 hb0 hbc hsz
    go_wp2_with fail
    go_loopw [0] (fun v0 wr => ∃ (t : ByteArray) (pre : List UInt8), v0 = .string t ∧ Hid (s.toList = pre ++ t.toList) ∧ Hid (∀ c ∈ pre, isDig c) ∧ Hid (pre = [] ∨ t.size % 19 = 0) ∧ Hid (Box wr wc.heap.size (decN pre)) ∧ Hid (Blk wr w.heap.size 26 #[.slice none 0 0]) ∧ Hid (Below w.heap.size w wr)) (fun v0 _ => strlen v0)
    case atStart => exact ⟨s, [], rfl, Lib.hid rfl, Lib.hid (by simp), Lib.hid (.inl rfl), B1, B0, HBC⟩
    case round =>
      obtain ⟨t, pre, rfl, hs, hp, hm, b1, b0, hbw⟩ := hrel
      rcases Nat.eq_zero_or_pos t.size with h0 | h0
      · have ht : decide (0 < (t.size : Int)) = false := decide_eq_false (by omega)
        obtain ⟨A1, c1, hb1, hn1⟩ := b1.out
        have k1 : wr.cell? ⟨wc.heap.size, 0, none⟩ = some (.slice A1 (wl 64 (decN pre)) c1) := hb1.cell 0
        have k0 : wr.cell? ⟨w.heap.size, 0, none⟩ = some (.slice none 0 0) := b0.out.cell 0
        have f0 := b0.out.frozen 0
        have hpre : s.toList = pre := by
          have : t.toList = [] := List.length_eq_zero_iff.1 (by rw [bsize]; exact h0)
          rw [hs.out, this, List.append_nil]
        have HF := Lib.hid (show PEnd w s.toList (.returned (.tuple #[.agg #[.slice A1 (wl 64 (decN pre)) c1], .int .i64 0])) (wr.setCell ⟨w.heap.size, 0, none⟩ (.slice A1 (wl 64 (decN pre)) c1)) from by
          refine ⟨_, .inl ⟨⟨?_, ?_, ?_⟩, rfl, ?_⟩, hbw.out.setCell (p := ⟨w.heap.size, 0, none⟩) (Nat.le_refl _) _⟩
          · intro e; rw [e] at hie; cases hie
          · rw [hpre]; exact hp.out
          · rw [bsize]; exact HNE.out
          · rw [hpre]; exact N64.put hn1 b0.out _)
        clear hb1 hn1 hpre
        go_wp2
        exact bodyPost_ret (v := .tuple #[.agg #[.slice A1 (wl 64 (decN pre)) c1], .int .i64 0]) (by simp [results, Try.results51, go_sem, k0]) rfl HF.out
      · obtain ⟨n, hn⟩ : ∃ n, (t.size - 1) % 19 + 1 = n := ⟨_, rfl⟩
        have hn19 : n ≤ 19 := by omega
        have hnt : n ≤ t.size := by have := Nat.mod_le (t.size - 1) 19; omega
        have htb : t.size ≤ 100000 := by
          have h3 := bsize s
          rw [hs.out, List.length_append, bsize] at h3
          have := HS.out
          omega
        have ht : (0 : Int) < (t.size : Int) := by omega
        have hn5 : ((t.size : Int) - 1) % 19 + 1 = (n : Int) := by omega
        have HN := Lib.hid hn
        go_wp2_with fail
        clear hn hn5
        go_loopw [6, 30] (fun v6 v30 wx => ∃ i : Nat, i ≤ n ∧ v30 = .int .i64 i ∧ v6 = .int .u64 (decN (t.toList.take i) : Nat) ∧ Hid (∀ c ∈ t.toList.take i, isDig c) ∧ wx = wr) (fun _ v30 _ => n - (intOf v30).toNat)
        case atStart => exact ⟨0, Nat.zero_le _, rfl, by simp [decN], Lib.hid (by simp), rfl⟩
        case round =>
          obtain ⟨i, hi, rfl, rfl, hd, rfl⟩ := hrel
          rcases Nat.lt_or_ge i n with hin | hin
          · have hit : i < t.size := by omega
            have hc := bget t i hit
            obtain ⟨c, hcv⟩ : ∃ c, t[i] = c := ⟨_, rfl⟩
            have hcn : ((t[i]).toNat : Int) = (c.toNat : Nat) := by rw [hcv]
            rw [hcv] at hc
            have HC := Lib.hid hc
            clear hc hcv
            have hc256 : c.toNat < 256 := c.toNat_lt
            have hmem : c ∈ t.toList := List.mem_of_getElem? HC.out
            have htk : t.toList.take (i + 1) = t.toList.take i ++ [c] := by rw [List.take_add_one, HC.out]; rfl
            have hdl := decN_lt _ hd.out
            rw [List.length_take, bsize, Nat.min_eq_left (by omega)] at hdl
            have hp18 : (10 : Nat) ^ i ≤ 10 ^ 18 := Nat.pow_le_pow_right (by decide) (by omega)
            have hnext := decN_snoc (t.toList.take i) c
            rw [← htk] at hnext
            obtain ⟨v, hv⟩ : ∃ v, decN (t.toList.take i) = v := ⟨_, rfl⟩
            rw [hv] at hdl hnext ⊢
            have hvb : v < 10 ^ 18 := Nat.lt_of_lt_of_le hdl hp18
            have HTK := Lib.hid htk
            have HMEM := Lib.hid hmem
            have HNX := Lib.hid hnext
            clear hv hdl hp18 hnext htk hmem
            by_cases hdig : isDig c
            · have HDG := Lib.hid hdig
              unfold isDig at hdig
              have d1 : decide ((c.toNat : Int) < 48) = false := decide_eq_false (by omega)
              have d2 : decide (57 < (c.toNat : Int)) = false := decide_eq_false (by omega)
              have w1 : IntKind.u64.wrap (10 * (v : Int)) = 10 * (v : Int) := IntWalk.u64_in _ (by omega)
              have w2 : IntKind.u64.wrap (10 * (v : Int) + ((c.toNat : Int) - 48)) = 10 * (v : Int) + ((c.toNat : Int) - 48) := IntWalk.u64_in _ (by omega)
              have w3 : IntKind.u8.wrap ((c.toNat : Int) - 48) = (c.toNat : Int) - 48 := IntWalk.u8_in _ (by omega)
              have w4 : IntKind.u64.wrap ((c.toNat : Int) - 48) = (c.toNat : Int) - 48 := IntWalk.u64_in _ (by omega)
              go_wp2_with fail
              refine ⟨⟨i + 1, by omega, by simp, ?_, ?_, trivial⟩, ?_⟩
              · rw [HNX.out]
                congr 1
                omega
              · refine Lib.hid ?_
                rw [HTK.out]
                intro a ha
                rcases List.mem_append.1 ha with ha | ha
                · exact hd.out a ha
                · rw [List.mem_singleton.1 ha]; exact HDG.out
              · simp [intOf]; omega
            · have HF := Lib.hid (show PEnd w s.toList (.returned (.tuple #[.agg #[.slice none 0 0], .int .i64 3])) (wr.setCell ⟨w.heap.size, 0, none⟩ (.slice none 0 0)) from ⟨_, .inr ⟨fun hk => hdig (hk.2.1 c (by rw [hs.out]; exact List.mem_append_right _ HMEM.out)), rfl, N64.zero _⟩, hbw.out.setCell (p := ⟨w.heap.size, 0, none⟩) (Nat.le_refl _) _⟩)
              have k0 : wr.cell? ⟨w.heap.size, 0, none⟩ = some (.slice none 0 0) := b0.out.cell 0
              have f0 := b0.out.frozen 0
              unfold isDig at hdig
              by_cases h48 : c.toNat < 48
              · have d1 : decide ((c.toNat : Int) < 48) = true := decide_eq_true (by omega)
                clear hdig h48
                go_wp2_with fail
                exact bodyPost_ret (v := .tuple #[.agg #[.slice none 0 0], .int .i64 3]) (by simp [results, Try.results51, go_sem, k0]) rfl HF.out
              · have d1 : decide ((c.toNat : Int) < 48) = false := decide_eq_false (by omega)
                have d2 : decide (57 < (c.toNat : Int)) = true := decide_eq_true (by omega)
                clear hdig h48
                go_wp2_with fail
                exact bodyPost_ret (v := .tuple #[.agg #[.slice none 0 0], .int .i64 3]) (by simp [results, Try.results51, go_sem, k0]) rfl HF.out
          · obtain rfl : i = n := by omega
            obtain ⟨A1, c1, hb1, hn1⟩ := b1.out
            have hlen : (t.toList.take i).length = i := by rw [List.length_take, bsize]; exact Nat.min_eq_left hnt
            have hvd := decN_lt _ hd.out
            rw [hlen] at hvd
            have hv64 : decN (t.toList.take i) < 2 ^ 64 := Nat.lt_of_lt_of_le hvd (Nat.le_trans (Nat.pow_le_pow_right (by decide) hn19) (by decide))
            have hsum : decN pre * 10 ^ 19 + decN (t.toList.take i) = decN (pre ++ t.toList.take i) := by
              rw [decN_append, hlen]
              rcases hm.out with h | h
              · rw [h]; simp [decN]
              · have : i = 19 := by have := HN.out; omega
                rw [this]
            have hpl : pre.length ≤ 100000 := by
              have h3 := bsize s
              rw [hs.out, List.length_append] at h3
              have := HS.out
              omega
            have hw1 := Nat.le_trans (decN_wl pre hp.out) hpl
            have hw2 : wl 64 (decN pre * 10 ^ 19) ≤ 100002 := Nat.le_trans (ten_wl hw1) (by decide)
            have HSUM := Lib.hid hsum
            have HO1 : Hid (∀ W, Calls Try.prog 50 #[.int .u64 10000000000000000000] W (fun e w' => ∃ v, e = .returned v ∧ N64 w' v (10 ^ 19) ∧ Below W.heap.size W w')) := Lib.hid (fun W => of_any (10 ^ 19) (by decide) W)
            obtain ⟨v, hv⟩ : ∃ v, decN (t.toList.take i) = v := ⟨_, rfl⟩
            obtain ⟨x, hx⟩ : ∃ x, decN pre = x := ⟨_, rfl⟩
            rw [hv] at hv64 HSUM ⊢
            rw [hx] at hb1 hn1 HSUM hw1 hw2
            have HO2 := Lib.hid (fun W => of_any v hv64 W)
            have hw3 : wl 64 v ≤ 1 := (wl_le (by decide) v 1).2 (by simpa using hv64)
            have HW1 := Lib.hid (Nat.le_trans hw1 (show 100000 ≤ 1099511627776 by decide))
            have HW2 := Lib.hid (Nat.le_trans hw2 (show 100002 ≤ 1099511627776 by decide))
            have HW3 := Lib.hid (Nat.le_trans hw3 (show 1 ≤ 1099511627776 by decide))
            have HW0 := Lib.hid (show wl 64 (10 ^ 19) ≤ 1099511627776 from Nat.le_trans ((wl_le (k := 64) (by decide) (10 ^ 19) 1).2 (by decide)) (by decide))
            have HMU := Lib.hid (fun vb W h1 h2 => nmul_any (.agg #[.slice A1 (wl 64 x) c1]) vb x (10 ^ 19) W h1 h2 HW1.out HW0.out)
            have HAD := Lib.hid (fun va vb W h1 h2 => nadd_any va vb (x * 10 ^ 19) v W h1 h2 HW2.out HW3.out)
            have k1 : wr.cell? ⟨wc.heap.size, 0, none⟩ = some (.slice A1 (wl 64 x) c1) := hb1.cell 0
            have HB1 := Lib.hid hb1
            have HN1 := Lib.hid hn1
            have i1 : (0 : Int) ≤ (i : Int) := by omega
            have i2 : (i : Int) ≤ (t.size : Int) := by omega
            clear hb1 hn1 hv hx hvd hv64 hsum hw1 hw2 hw3 hpl
            go_wp2_with fail
            go_region_with
              (first
                | (go_at_call 50; (with_reducible refine (HO1.out _).mono ?_); rintro e w5 ⟨v5, rfl, hn5, hb5⟩; have hb5' := Lib.hid (cbt (below_drewN (Below.refl wr.heap.size wr) 1) hb5); have k5 : w5.cell? ⟨wc.heap.size, 0, none⟩ = some (.slice A1 (wl 64 x) c1) := (blk_below HB1.out hb5'.out).cell 0; have HN5 := Lib.hid hn5; clear hn5)
                | (go_at_call 25; (with_reducible refine (HMU.out _ _ (HN1.out.below hb5'.out) HN5.out).mono ?_); rintro e w6 ⟨v6, rfl, hn6, hb6⟩; have hb6' := Lib.hid (cbt hb5'.out hb6); have HN6 := Lib.hid hn6; clear hn6)
                | (go_at_call 50; (with_reducible refine (HO2.out _).mono ?_); rintro e w7 ⟨v7, rfl, hn7, hb7⟩; have hb7' := Lib.hid (cbt hb6'.out hb7); have HN7 := Lib.hid hn7; clear hn7)
                | (go_at_call 24; (with_reducible refine (HAD.out _ _ _ (HN6.out.below hb7) HN7.out).mono ?_); rintro e w8 ⟨v8, rfl, ⟨A8, c8, rfl, hl8, hm8, hd8⟩, hb8⟩; have hb8' := Lib.hid (cbt hb7'.out hb8); have Z8 := Lib.hid (blk_below HB1.out hb8'.out); have K8 : w8.cell? ⟨wc.heap.size, 0, none⟩ = some (.slice A1 (wl 64 x) c1) := Z8.out.cell 0; have F8 := Z8.out.frozen 0; have HD8 := Lib.hid hd8; clear hd8))
            all_goals
              have HFB := Lib.hid (show Box (w8.setCell ⟨wc.heap.size, 0, none⟩ (.slice A8 (wl 64 (x * 10 ^ 19 + v)) c8)) wc.heap.size (decN (pre ++ t.toList.take i)) from by
                rw [← HSUM.out]
                exact ⟨A8, c8, Z8.out.set_ 0 _, N64.put ⟨A8, c8, rfl, hl8, hm8, HD8.out⟩ Z8.out _⟩)
              have HF0 := Lib.hid ((blk_below b0.out hb8'.out).far (p := ⟨wc.heap.size, 0, none⟩) (show w.heap.size ≠ wc.heap.size by omega) (.slice A8 (wl 64 (x * 10 ^ 19 + v)) c8))
              have HFW := Lib.hid ((cbt hbw.out hb8'.out).setCell (p := ⟨wc.heap.size, 0, none⟩) (Nat.le_of_lt hlt0) (.slice A8 (wl 64 (x * 10 ^ 19 + v)) c8))
              have HNS := Lib.hid (bdrop_size t i)
              clear hb5 hb6 hb7 hb8 hl8 hm8 k1 k5 K8 F8
              go_wp2_with fail
              refine ⟨⟨t.extract i t.size, pre ++ t.toList.take i, rfl, ?_, ?_, ?_, HFB, HF0, HFW⟩, ?_⟩
              · refine Lib.hid ?_
                rw [bdrop, List.append_assoc, List.take_append_drop]
                exact hs.out
              · refine Lib.hid ?_
                intro a ha
                rcases List.mem_append.1 ha with ha | ha
                · exact hp.out a ha
                · exact hd.out a ha
              · refine Lib.hid (.inr ?_)
                rw [HNS.out]
                have := HN.out
                omega
              · show (t.extract i t.size).size < t.size
                rw [HNS.out]
                have := HN.out
                omega
theorem nparse_any (s : ByteArray) (w : World) (hsz : s.size ≤ 100000) : Calls Try.prog 51 #[.string s] w (PEnd w s.toList) := by
  by_cases h0 : s.toList = []
  · exact nparse_bad s w (.inl h0)
  · by_cases h1 : 1 < s.size ∧ s.toList.head? = some 48
    · exact nparse_bad s w (.inr h1)
    · exact nparse_good s w hsz h0 h1
end Go.Proofs.Yteikhnmmkanndaa

/- The walks of slices.Grow and slices.Concat at bytes. -/
namespace Go.Proofs.Yteikhnmmkanndaa
open Go.RowKit Go.Proofs.YteikhnmmkanndaaW.PrintWords

theorem wpList_append_run {P : Program} {ops : Array Oper} {rest : List Oper} {o : Oper} {a : Act} {W : World} {Q : Exit → Act → World → Prop} (hgd : o.guard = none) (s x : Operand) (t ti : TypeId)
    (ho : o.op = .call { callee := .builtin .append, args := #[s, x], argTypes := #[t, ti] }) {v u v1 : Value} {w1 : World} (hs : a.eval s = v) (hx : a.eval x = u)
    (hrun : (Builtin.append_ #[t, ti] o.type #[v, u]).run P W = .ok v1 w1) (h : wpList P ops Q rest (a.put o.dst v1) w1) : wpList P ops Q (o :: rest) a W := by
  refine wpList_plain hgd fun K hK => ?_
  unfold Oper.wp execOp
  simp only [ho, resolve, invoke, builtin, Sem.run_bind, Sem.run_pure, Result.andThen_ok, List.map_toArray, List.map_cons, List.map_nil, hs, hx, hrun]
  exact hK _ _ h

set_option maxRecDepth 100000 in
set_option maxHeartbeats 2000000 in
theorem grow_any (n : Nat) (w : World) (hn0 : 0 < n) (hn : n ≤ 1099511627776) :
    Calls Try.prog 132 #[.slice none 0 0, .int .i64 (n : Nat)] w fun e w' => ∃ v, e = .returned v ∧ w'.ownsRow w.heap.size 5 1 v 0 [] ∧ Below w.heap.size w w' := by
  obtain ⟨i0, hi, hz0, hz1, hz2⟩ := info_parts PAll.info5
  obtain ⟨v', w', hrun, hown, hg, _⟩ := run_append_zeros (P := Try.prog) w w.heap.size 22 3 22 5 i0 (.int .u8 0) 1 1 Try.underlying22 (k := .i64) (by kernel_rfl) hi hz0 hz1 hz2 rfl (by decide) (by decide) (.slice none 0 0) 0 []
    ⟨rfl, .inl ⟨rfl, rfl⟩⟩ .i64 n (by
      intro u hu
      unfold Builtin.zeroCells at hu
      simp at hu
      obtain ⟨a, ha, rfl⟩ := hu
      show (#[Value.int .u8 0])[a % 1]!.oneCell' = true
      rw [Nat.mod_one]
      rfl) (by omega) (Nat.le_refl _)
  have hb := (Below.refl w.heap.size w).grown hg (Nat.le_refl _) (fun k e => by cases e)
  rcases hown.2 with ⟨_, h0⟩ | ⟨g, cap, cur, rfl, hbg, hgc, hnc, hcm, hsz, htk⟩
  · omega
  · have HF := Lib.hid (show w'.ownsRow w.heap.size 5 1 (.slice (some ⟨g, 0, none⟩) 0 cap) 0 [] from ⟨rfl, .inr ⟨g, cap, cur, rfl, hbg, hgc, Nat.zero_le _, hcm, hsz, by simp⟩⟩)
    have HB := Lib.hid hb
    have i1 : (0 : Int) < (n : Int) := by omega
    have i2 : ¬ ((n : Int) < 0) := by omega
    have i3 : IntKind.i64.wrap (n : Int) = (n : Int) := IntWalk.i64_in _ (by omega)
    clear hown hg hb hgc htk hsz
    go_enter Try.func132, Try.ntmps132
    go_wp2_with (at_builtin; refine wpList_append_run (by rfl) (.tmp 20) (.tmp 21) 22 3 (by rfl) (by rfl) (by rfl) hrun ?_)
    go_ret
    exact ⟨_, rfl, HF.out, HB.out⟩
/-- slices of bytes, none empty, in a row. -/
def Parts (w : World) (g : Nat) (ls : List (List Int)) : Prop := ∀ i l, ls[i]? = some l → ∃ b c, w.cell? ⟨g, i, none⟩ = some (.slice (some ⟨b, 0, none⟩) l.length c) ∧ b < w.heap.size ∧ 0 < l.length ∧ ∀ j z, l[j]? = some z → w.cell? ⟨b, j, none⟩ = some (.int .u8 z)
theorem Parts.below {w w' : World} {g : Nat} {ls : List (List Int)} (hg : g < w.heap.size) (h : Parts w g ls) (hb : Below w.heap.size w w') : Parts w' g ls := by
  intro i l hl
  obtain ⟨b, c, h1, h2, h3, h4⟩ := h i l hl
  exact ⟨b, c, (hb.cell (p := ⟨g, i, none⟩) hg).trans h1, Nat.lt_of_lt_of_le h2 hb.size, h3, fun j z hz => (hb.cell (p := ⟨b, j, none⟩) h2).trans (h4 j z hz)⟩
theorem take_flat {ls : List (List Int)} {i : Nat} {l : List Int} (h : ls[i]? = some l) : (ls.take (i + 1)).flatten = (ls.take i).flatten ++ l := by
  rw [List.take_add_one, h]
  simp
theorem take_le (ls : List (List Int)) (i : Nat) : (ls.take i).flatten.length ≤ ls.flatten.length := by
  conv => rhs; rw [← List.take_append_drop i ls, List.flatten_append, List.length_append]
  exact Nat.le_add_right _ _

/-- what Concat answers. -/
def ConcatEnd (w : World) (ls : List (List Int)) : Ending → World → Prop := fun e w' => ∃ v, e = .returned v ∧ w'.ownsRow w.heap.size 5 1 v ls.flatten.length (ls.flatten.map (Value.int .u8)) ∧ Below w.heap.size w w'
set_option maxRecDepth 100000 in
set_option maxHeartbeats 2000000 in
theorem concat_any (g k cap : Nat) (ls : List (List Int)) (w : World) (hk : ls.length = k) (hk0 : 0 < ls.flatten.length) (hg : g < w.heap.size) (hp : Parts w g ls) (hkb : k ≤ 1099511627776) (ht : ls.flatten.length ≤ 1099511627776) :
    Calls Try.prog 116 #[.slice (some ⟨g, 0, none⟩) k cap] w (ConcatEnd w ls) := by
  have HG := Lib.hid (fun W => grow_any ls.flatten.length W hk0 ht)
  have HP := Lib.hid hp
  have HK := Lib.hid hk
  have HT := Lib.hid (fun i => take_le ls i)
  obtain ⟨T, hT⟩ : ∃ T, ls.flatten.length = T := ⟨_, rfl⟩
  rw [hT] at HG ht HT hk0
  have HTE := Lib.hid hT
  obtain ⟨i0, hi, hz0, hz1, hz2⟩ := info_parts PAll.info5
  clear hp hT hk
  go_enter Try.func116, Try.ntmps116
  go_wp2_with fail
  go_loopw [3, 11] (fun v3 v11 wr => ∃ i : Nat, i ≤ k ∧ v11 = .int .i64 i ∧ v3 = .int .i64 ((ls.take i).flatten.length : Nat) ∧ wr = w) (fun _ v11 _ => k - (intOf v11).toNat)
  case atStart => exact ⟨0, Nat.zero_le _, rfl, by simp, rfl⟩
  case round =>
    obtain ⟨i, hik, rfl, rfl, rfl⟩ := hrel
    have hle := HT.out i
    rcases Nat.lt_or_ge i k with h | h
    · have hl : ls[i]? = some (ls[i]'(by have := HK.out; omega)) := List.getElem?_eq_getElem _
      obtain ⟨l, hlv⟩ : ∃ l, ls[i]'(by have := HK.out; omega) = l := ⟨_, rfl⟩
      rw [hlv] at hl
      obtain ⟨b, c, h1, _, _, _⟩ := HP.out i l hl
      have hnx := take_flat hl
      have hle2 := HT.out (i + 1)
      have HNX := Lib.hid (show (ls.take (i + 1)).flatten.length = (ls.take i).flatten.length + l.length by rw [hnx, List.length_append])
      rw [HNX.out] at hle2
      obtain ⟨s, hs⟩ : ∃ s, (ls.take i).flatten.length = s := ⟨_, rfl⟩
      rw [hs] at hle hle2 HNX ⊢
      obtain ⟨m, hm⟩ : ∃ m, l.length = m := ⟨_, rfl⟩
      rw [hm] at h1 hle2 HNX
      have w1 : IntKind.i64.wrap ((s : Int) + (m : Int)) = (s : Int) + (m : Int) := IntWalk.i64_in _ (by omega)
      have w2 : ¬ ((s : Int) + (m : Int) < 0) := by omega
      clear hl hlv hnx hs hm
      go_wp2_with fail
      refine ⟨⟨i + 1, by omega, by simp, by rw [HNX.out]; simp, trivial⟩, by simp [intOf]; omega⟩
    · obtain rfl : i = k := by omega
      have hall : ls.take i = ls := List.take_of_length_le (by have := HK.out; omega)
      rw [hall, HTE.out]
      clear hall hle
      go_wp2_with fail
      refine (HG.out _).mono ?_
      rintro e S ⟨v0, rfl, hown0, hb0⟩
      have HO0 := Lib.hid hown0
      have HB0 := Lib.hid hb0
      have HPS := Lib.hid (HP.out.below hg hb0)
      have hgS : g < S.heap.size := Nat.lt_of_lt_of_le hg hb0.size
      obtain ⟨B, hB⟩ : ∃ B, wr.heap.size = B := ⟨_, rfl⟩
      have hBS := hb0.size
      rw [hB] at hown0 hBS
      rw [hB] at HO0 HB0
      clear hown0 hb0
      go_wp2_with fail
      clear HPS hgS hBS
      have HPB := Lib.hid (fun (W : World) (h : Below B wr W) => HP.out.below hg (by rw [hB]; exact h))
      have HEND := Lib.hid (fun (W : World) (v : Value) (h1 : W.ownsRow B 5 1 v T (ls.flatten.map (Value.int .u8))) (h2 : Below B wr W) => (show ConcatEnd wr ls (.returned v) W from ⟨v, rfl, by rw [hB, HTE.out]; exact h1, by rw [hB]; exact h2⟩))
      have HBSZ := Lib.hid (fun (W : World) (h : Below B wr W) => (show B ≤ W.heap.size by rw [← hB]; exact h.size))
      have HBG := Lib.hid (fun (W W' : World) (v : Value) (n : Nat) (xs : List Value) (h : Below B wr W) (ho : W.ownsRow B 5 1 v n xs) (hg : W.grownBy W' v.ownBlock) => (show Below B wr W' from by
        refine h.grown hg (by rw [← hB]; exact h.size) (fun k e => ?_)
        rcases ho.2 with ⟨rfl, _⟩ | ⟨g', cap', cur, rfl, hbg, _⟩
        · cases e
        · cases e; exact hbg))
      go_loopw [6, 27] (fun v6 v27 wx => ∃ j : Nat, j ≤ i ∧ v27 = .int .i64 j ∧ Hid (wx.ownsRow B 5 1 v6 (ls.take j).flatten.length ((ls.take j).flatten.map (Value.int .u8))) ∧ Hid (Below B wr wx)) (fun _ v27 _ => i - (intOf v27).toNat)
      case atStart => exact ⟨0, Nat.zero_le _, rfl, by simpa using HO0, HB0⟩
      case round =>
        obtain ⟨j, hji, rfl, hown, hbw⟩ := hrel
        rcases Nat.lt_or_ge j i with h | h
        · have hl : ls[j]? = some (ls[j]'(by have := HK.out; omega)) := List.getElem?_eq_getElem _
          obtain ⟨l, hlv⟩ : ∃ l, ls[j]'(by have := HK.out; omega) = l := ⟨_, rfl⟩
          rw [hlv] at hl
          obtain ⟨b, c, h1, _, h3, h4⟩ := HPB.out _ hbw.out j l hl
          have hnx := take_flat hl
          have hle2 := HT.out (j + 1)
          have HNX := Lib.hid (show (ls.take (j + 1)).flatten.length = (ls.take j).flatten.length + l.length by rw [hnx, List.length_append])
          rw [HNX.out] at hle2
          have HNX2 := Lib.hid hnx
          have HB := Lib.hid (HBSZ.out _ hbw.out)
          have HX := Lib.hid (show ∀ (W' : World) (v : Value), W'.ownsRow B 5 1 v ((ls.take j).flatten.length + l.length) ((ls.take j).flatten.map (Value.int .u8) ++ l.map (Value.int .u8)) → W'.ownsRow B 5 1 v (ls.take (j + 1)).flatten.length ((ls.take (j + 1)).flatten.map (Value.int .u8)) from by
            intro W' v hv
            rw [HNX.out, HNX2.out, List.map_append]
            exact hv)
          obtain ⟨s, hs⟩ : ∃ s, (ls.take j).flatten.length = s := ⟨_, rfl⟩
          obtain ⟨xs, hxs⟩ : ∃ xs, (ls.take j).flatten.map (Value.int .u8) = xs := ⟨_, rfl⟩
          rw [hs] at hle2 hown HX
          rw [hxs] at hown HX
          have H4 := Lib.hid h4
          clear hl hlv hnx hs hxs h4
          go_wp2_with (at_builtin; refine wpList_append_lies _ (by rfl) (.tmp 31) (.tmp 32) 22 (by rfl) B 5 i0 (.int .u8 0) 1 1 Try.underlying22 hi hz0 hz1 hz2 rfl (by decide) _ s xs (by rfl) hown.out ⟨b, 0, none⟩ l.length c (l.map (Value.int .u8)) (by rfl) ?hl ?hnews ?h1 h3 ?h63 ?hby HB.out _ rfl ?_)
          case hl => simp
          case hnews =>
            intro p u hp
            rw [List.getElem?_map] at hp
            cases hz : l[p]? with
            | none => rw [hz] at hp; cases hp
            | some z =>
              rw [hz] at hp
              cases hp
              rw [addr_add, Nat.zero_add]
              exact H4.out p z hz
          case h1 =>
            intro u hu
            obtain ⟨z, _, rfl⟩ := List.mem_map.1 hu
            rfl
          case h63 => unfold maxLen; omega
          case hby => omega
          · intro g' cap' w1 ho1 hg1 hat hlt
            have HO1 := Lib.hid (HX.out _ _ ho1)
            have HB1 := Lib.hid (HBG.out _ _ _ _ _ hbw.out hown.out hg1)
            clear ho1 hg1 hat
            go_wp2_with fail
            exact ⟨⟨j + 1, by omega, by simp, HO1, HB1⟩, by simp [intOf]; omega⟩
        · obtain rfl : j = i := by omega
          have hall : ls.take j = ls := List.take_of_length_le (by have := HK.out; omega)
          rw [hall] at hown
          have HF := Lib.hid (show wr.ownsRow B 5 1 u6 T (ls.flatten.map (Value.int .u8)) from by rw [← HTE.out]; exact hown.out)
          clear hown hall
          have HZ := Lib.hid (HEND.out _ _ HF.out hbw.out)
          clear HF
          go_wp2_with fail
          go_ret
          exact HZ.out
end Go.Proofs.Yteikhnmmkanndaa

/- The walks of digits and of Text. -/
namespace Go.Proofs.Yteikhnmmkanndaa
open Go.RowKit Go.Proofs.YteikhnmmkanndaaW.PrintWords

set_option maxRecDepth 100000 in
set_option maxHeartbeats 2000000 in
theorem reverse_one (A : Option Addr) (c : Nat) (w : World) : Calls Try.prog 115 #[.slice A 1 c] w fun e w' => e = .returned (.tuple #[]) ∧ w' = w := by
  go_enter Try.func115, Try.ntmps115
  go_wp2_with fail
  go_loopw [2, 3] (fun v2 v3 wr => v2 = .int .i64 0 ∧ v3 = .int .i64 0 ∧ wr = w) (fun _ _ _ => 0)
  case atStart => exact ⟨rfl, rfl, rfl⟩
  case round =>
    obtain ⟨rfl, rfl, rfl⟩ := hrel
    go_wp2_with fail
    first | go_end0 | ((try simp only [Exit.inBlock, Exit.then]); refine bodyPost_ret (results_none rfl _ _ _) rfl ?_)
    exact ⟨rfl, rfl⟩

theorem R_own {w : World} {base : Nat} {ok : Nat → Prop} {v : Value} {xs : List Int} (h : Kd.R (Kd.int .u8) 5 w base ok v xs) : w.ownsRow base 5 1 v xs.length (nums .u8 xs) := by
  obtain ⟨_, inner, ho, hr⟩ := h
  have hlen : inner.length = xs.length := by have := hr.1; rw [show (Kd.int .u8).sz = 1 from rfl, Nat.mul_one] at this; exact this
  have he : inner = nums .u8 xs := by
    apply List.ext_getElem?
    intro j
    unfold nums
    rw [List.getElem?_map]
    rcases Nat.lt_or_ge j xs.length with hj | hj
    · have h1 := hr.2 j xs[j] (List.getElem?_eq_getElem hj)
      have h2 : (inner.drop (j * 1)).take 1 = [.int .u8 xs[j]] := h1
      rw [Nat.mul_one] at h2
      rw [List.getElem?_eq_getElem hj]
      have h3 : ((inner.drop j).take 1)[0]? = some (.int .u8 xs[j]) := by rw [h2]; rfl
      rw [List.getElem?_take, if_pos (by decide), List.getElem?_drop, Nat.add_zero] at h3
      exact h3
    · rw [List.getElem?_eq_none (by omega), List.getElem?_eq_none hj]
      rfl
  rw [he] at ho
  exact ho
theorem info22 : (Try.prog.info? 22).map (fun i => (i.zero, i.size, i.bytes)) = some (some (.slice none 0 0), 1, 24) := by kernel_rfl
/-- what digits answers of x, one digit at least. -/
def nat_digits_f (k x : Nat) (l : List Int) : Prop := PAll.nat_digits.f k (x : Int) 1 = some l ∧ 0 < l.length ∧ l.length ≤ 100
set_option maxRecDepth 100000 in
set_option maxHeartbeats 2000000 in
/-- the text of a number of nineteen digits at most. -/
theorem ntext_one (v : Value) (x : Nat) (l : List Int) (w : World) (h : N64 w v x) (hx : x < 10 ^ 19) (hd : nat_digits_f 100 x l) :
    Calls Try.prog 46 #[v] w fun e w' => e = .returned (.string (strOfNums l)) ∧ Below w.heap.size w w' := by
  have HM := Lib.hid h
  obtain ⟨A, ca, rfl, _, _, _⟩ := h
  have hw1 : wl 64 x ≤ 1099511627776 := Nat.le_trans ((wl_le (k := 64) (by decide) x 1).2 (Nat.lt_of_lt_of_le hx (by decide))) (by decide)
  have HSM : Hid (∀ W v, N64 W v x → Calls Try.prog 95 #[v, .int .u64 10000000000000000000] W fun e w' => ∃ q, e = .returned (.tuple #[q, .int .u64 (x : Nat)]) ∧ N64 w' q 0 ∧ Below W.heap.size W w') := Lib.hid (fun W v hv => by
    have := nsmall_any v x (10 ^ 19) W hv hw1 (by decide) (by decide)
    rw [Nat.mod_eq_of_lt hx, Nat.div_eq_of_lt hx] at this
    exact this)
  have HZ := Lib.hid (fun v W h => zero_yes v W h)
  have HDG := Lib.hid (fun W => PAll.nat_digits.calls 100 (x : Int) 1 l W hd.1)
  have HL := Lib.hid hd.2
  have hb0 := cba (Below.refl _ w) (.cells #[.slice A (wl 64 x) ca] 26)
  have e0 := Blk.new w 26 #[.slice A (wl 64 x) ca]
  have k0 : (w.alloc (.cells #[.slice A (wl 64 x) ca] 26)).cell? ⟨w.heap.size, 0, none⟩ = some (.slice A (wl 64 x) ca) := e0.cell 0
  clear hx hd hw1
  go_enter Try.func46, Try.ntmps46
  go_wp2_with fail
  have e1 := Blk.new (w.alloc (.cells #[.slice A (wl 64 x) ca] 26)) 26 #[.slice A (wl 64 x) ca]
  have hb1 := cba hb0 (.cells #[.slice A (wl 64 x) ca] 26)
  simp only [World.size_alloc] at e1
  obtain ⟨S, hS⟩ : ∃ S, (w.alloc (.cells #[.slice A (wl 64 x) ca] 26)).alloc (.cells #[.slice A (wl 64 x) ca] 26) = S := ⟨_, rfl⟩
  rw [hS] at e1 hb1 ⊢
  clear hS e0 k0 hb0
  have E1 := Lib.hid e1
  have HB1 := Lib.hid hb1
  clear e1 hb1
  go_loopw [3, 4] (fun v3 v4 wr => v3 = .slice none 0 0 ∧ v4 = .pointer (some ⟨w.heap.size + 1, 0, none⟩) ∧ wr = S) (fun _ _ _ => 0)
  case atStart => exact ⟨rfl, rfl, rfl⟩
  case round =>
    obtain ⟨rfl, rfl, rfl⟩ := hrel
    have k1 : wr.cell? ⟨w.heap.size + 1, 0, none⟩ = some (.slice A (wl 64 x) ca) := E1.out.cell 0
    go_wp2_with fail
    refine (HSM.out _ _ (HM.out.below HB1.out)).mono ?_
    rintro e w2 ⟨q, rfl, hq, hb2⟩
    obtain ⟨Q, cq, rfl, hq1, hq2, hq3⟩ := hq
    have HQ := Lib.hid (show N64 w2 (.agg #[.slice Q (wl 64 0) cq]) 0 from ⟨Q, cq, rfl, hq1, hq2, hq3⟩)
    have HB2 := Lib.hid (cbt HB1.out hb2)
    have e2 := Blk.new w2 26 #[.slice Q (wl 64 0) cq]
    have k2 : (w2.alloc (.cells #[.slice Q (wl 64 0) cq] 26)).cell? ⟨w2.heap.size, 0, none⟩ = some (.slice Q (wl 64 0) cq) := e2.cell 0
    clear hq1 hq2 hq3 hb2 k1 e2
    go_wp2_with fail
    refine (HZ.out _ _ (HQ.out.below (cba (Below.refl _ w2) _))).mono ?_
    rintro e w3 ⟨rfl, hb3⟩
    have HB3 := Lib.hid (cbt (cba HB2.out _) hb3)
    clear hb3 k2
    go_wp2_with fail
    refine (HDG.out _).mono ?_
    rintro e w4 ⟨vd, rfl, hR, hb4⟩
    have hO := R_own hR
    have HB4 := Lib.hid (cbt HB3.out hb4)
    obtain ⟨b, cd, rfl, hbb, hcell⟩ : ∃ b c, vd = .slice (some ⟨b, 0, none⟩) l.length c ∧ b < w4.heap.size ∧ ∀ j z, l[j]? = some z → w4.cell? ⟨b, j, none⟩ = some (.int .u8 z) := by
      rcases hO.2 with ⟨_, h0⟩ | ⟨g, cap, cur, rfl, _⟩
      · have := HL.out.1; omega
      · have hl := fun i (hi : i < l.length * 1) => hO.cellAt i hi
        refine ⟨g, cap, rfl, own_lt hO g rfl, fun j z hz => ?_⟩
        have hj : j < l.length := by
          rcases Nat.lt_or_ge j l.length with h | h
          · exact h
          · rw [List.getElem?_eq_none h] at hz; cases hz
        have := hl j (by omega)
        rw [this]
        unfold nums
        rw [List.getElem?_map, hz]
        rfl
    have HC := Lib.hid hcell
    clear hR hO hb4 hcell
    obtain ⟨i0, hi, hz0, hz1, hz2⟩ := info_parts info22
    go_wp2_with (at_builtin; refine wpList_append_lies _ (by rfl) (.tmp 15) (.tmp 18) 143 (by rfl) w.heap.size 22 i0 (.slice none 0 0) 1 24 Try.underlying143 hi hz0 hz1 hz2 rfl (by decide) _ 0 [] (by rfl) (own_nil _ _ _ _) ⟨w4.heap.size, 0, none⟩ 1 1 [.slice (some ⟨b, 0, none⟩) l.length cd] (by rfl) ?hl ?hnews ?h1 (by decide) ?h63 ?hby ?hbase (w4.heap.size + 1) ?hH ?_)
    case hl => rfl
    case hnews =>
      intro p u hp
      match p, hp with
      | 0, hp =>
        cases hp
        exact (Blk.new w4 22 #[.slice (some ⟨b, 0, none⟩) l.length cd]).cell 0
    case h1 =>
      intro u hu
      rw [List.mem_singleton.1 hu]
      rfl
    case h63 => decide
    case hby => decide
    case hbase => exact Nat.le_trans HB4.out.size (by simp)
    case hH => simp
    · intro g cap w5 hown hgrow hat hlt
      have hc0 := hown.cellAt 0 (by decide)
      have hgB : w.heap.size ≤ g := own_base hown g rfl
      have hg4 : g = w4.heap.size + 1 := by
        rcases hat with h | h
        · cases h
        · exact h
      have hb5 : Below w4.heap.size w4 w5 := (cba (Below.refl _ w4) _).grown hgrow (by simp) (fun k e => by cases e)
      have HP := Lib.hid (show Parts w5 g [l] from by
        intro i l' hl'
        match i, hl' with
        | 0, hl' =>
          cases hl'
          exact ⟨b, cd, hc0, Nat.lt_of_lt_of_le hbb hb5.size, HL.out.1, fun j z hz => (hb5.cell (p := ⟨b, j, none⟩) hbb).trans (HC.out j z hz)⟩)
      have HB5 := Lib.hid (cbt HB4.out hb5)
      have HLT := Lib.hid hlt
      clear hown hgrow hat hc0 hg4 hb5
      go_wp2_with fail
      refine (reverse_one _ _ _).mono ?_
      rintro e w6 ⟨rfl, rfl⟩
      go_wp2_with fail
      refine (concat_any g 1 cap [l] w6 rfl (by simpa using HL.out.1) HLT.out HP.out (by decide) (by have := HL.out.2; simp; omega)).mono ?_
      rintro e w7 ⟨vs, rfl, hs, hb7⟩
      have hconv := own_string (P := Try.prog) (src := 22) (dst := 9) (e := 5) (xs := l) Try.underlying22 (by kernel_rfl) (by kernel_rfl) (by simpa [nums] using hs)
      have HB7 := Lib.hid (cbt HB5.out hb7)
      clear hs hb7
      go_wp2_with fail
      go_ret
      exact ⟨rfl, HB7.out⟩
end Go.Proofs.Yteikhnmmkanndaa

/- The walk of live. -/
namespace Go.Proofs.Yteikhnmmkanndaa
open Go.RowKit Go.Proofs.YteikhnmmkanndaaW.PrintWords

def liveS : ByteArray := ⟨#[49, 56, 52, 52, 54, 55, 52, 52, 48, 55, 51, 55, 48, 57, 53, 53, 49, 54, 49, 54]⟩
theorem live_parse (W : World) : Calls Try.prog 51 #[.string ⟨#[49, 56, 52, 52, 54, 55, 52, 52, 48, 55, 51, 55, 48, 57, 53, 53, 49, 54, 49, 54]⟩] W fun e w' => ∃ v, e = .returned (.tuple #[v, .int .i64 0]) ∧ N64 w' v 18446744073709551616 ∧ Below W.heap.size W w' := by
  have h := nparse_any liveS W (by decide)
  have hl : liveS.toList = [49, 56, 52, 52, 54, 55, 52, 52, 48, 55, 51, 55, 48, 57, 53, 53, 49, 54, 49, 54] := by rw [ByteArray.toList_eq]; rfl
  have hok : okText liveS.toList := by
    rw [hl]
    refine ⟨by decide, ?_, by decide⟩
    intro c hc
    unfold isDig
    simp only [List.mem_cons, List.not_mem_nil, or_false] at hc
    rcases hc with rfl | rfl | rfl | rfl | rfl | rfl | rfl | rfl | rfl | rfl | rfl | rfl | rfl | rfl | rfl | rfl | rfl | rfl | rfl | rfl <;> decide
  refine h.mono ?_
  rintro e w' ⟨v, h1, h2⟩
  rcases h1 with ⟨_, he, hn⟩ | ⟨hno, _, _⟩
  · refine ⟨v, he, ?_, h2⟩
    rw [hl] at hn
    exact hn
  · exact absurd hok hno
theorem live_q : nat_digits_f 100 1844674407370955161 [49, 56, 52, 52, 54, 55, 52, 52, 48, 55, 51, 55, 48, 57, 53, 53, 49, 54, 49] := ⟨by kernel_rfl, by decide, by decide⟩
theorem live_6 : nat_digits_f 100 6 [54] := ⟨by kernel_rfl, by decide, by decide⟩
theorem live_tq (v : Value) (W : World) (h : N64 W v 1844674407370955161) : Calls Try.prog 46 #[v] W fun e w' => e = .returned (.string ⟨#[49, 56, 52, 52, 54, 55, 52, 52, 48, 55, 51, 55, 48, 57, 53, 53, 49, 54, 49]⟩) ∧ Below W.heap.size W w' :=
  (ntext_one v _ _ W h (by decide) live_q).mono (fun _ _ h => h)
theorem live_t6 (v : Value) (W : World) (h : N64 W v 6) : Calls Try.prog 46 #[v] W fun e w' => e = .returned (.string ⟨#[54]⟩) ∧ Below W.heap.size W w' :=
  (ntext_one v _ _ W h (by decide) live_6).mono (fun _ _ h => h)
def LiveOut (w : World) (g1 : Nat) (v3 v4 v5 : Value) (W : World) : Prop := ∃ g3 g4, v3 = .pointer (some ⟨g3, 0, none⟩) ∧ v4 = .pointer (some ⟨g4, 0, none⟩) ∧ v5 = .int .i64 0 ∧ Box W g1 18446744073709551616 ∧ Box W g3 1844674407370955161 ∧ Box W g4 6 ∧ Below w.heap.size w W

/-- the two boxes filled. -/
theorem two_boxes {w S W : World} {g1 g3 g4 x q r n6 n7 c6 c7 : Nat} {A6 A7 : Option Addr} (hne : g3 ≠ g4) (h3 : Blk W g3 26 #[.slice none 0 0]) (h4 : Blk W g4 26 #[.slice none 0 0]) (hb : Below S.heap.size S W) (hS : Below w.heap.size w S) (h1 : Box S g1 x)
    (hq : N64 W (.agg #[.slice A6 n6 c6]) q) (hr : N64 W (.agg #[.slice A7 n7 c7]) r) (e6 : n6 = wl 64 q) (e7 : n7 = wl 64 r) (ge3 : S.heap.size ≤ g3) (ge4 : S.heap.size ≤ g4) :
    Box ((W.setCell ⟨g3, 0, none⟩ (.slice A6 n6 c6)).setCell ⟨g4, 0, none⟩ (.slice A7 n7 c7)) g1 x ∧ Box ((W.setCell ⟨g3, 0, none⟩ (.slice A6 n6 c6)).setCell ⟨g4, 0, none⟩ (.slice A7 n7 c7)) g3 q ∧
    Box ((W.setCell ⟨g3, 0, none⟩ (.slice A6 n6 c6)).setCell ⟨g4, 0, none⟩ (.slice A7 n7 c7)) g4 r ∧ Below w.heap.size w ((W.setCell ⟨g3, 0, none⟩ (.slice A6 n6 c6)).setCell ⟨g4, 0, none⟩ (.slice A7 n7 c7)) := by
  subst e6 e7
  have hbb := (hb.setCell (p := ⟨g3, 0, none⟩) ge3 (.slice A6 (wl 64 q) c6)).setCell (p := ⟨g4, 0, none⟩) ge4 (.slice A7 (wl 64 r) c7)
  have h4' := h4.far (p := ⟨g3, 0, none⟩) (fun h => hne h.symm) (.slice A6 (wl 64 q) c6)
  refine ⟨h1.below hbb, ⟨A6, c6, (h3.set_ 0 _).far (p := ⟨g4, 0, none⟩) hne _, (hq.put h3 _).put h4' _⟩, ⟨A7, c7, h4'.set_ 0 _, (hr.put h3 _).put h4' _⟩, cbt hS hbb⟩

/-- both boxes new. -/
theorem new_boxes {w S W : World} {g1 x q r n6 n7 c6 c7 : Nat} {A6 A7 : Option Addr} (hb : Below S.heap.size S W) (hS : Below w.heap.size w S) (h1 : Box S g1 x)
    (hq : N64 W (.agg #[.slice A6 n6 c6]) q) (hr : N64 W (.agg #[.slice A7 n7 c7]) r) (e6 : n6 = wl 64 q) (e7 : n7 = wl 64 r) :
    Box ((W.alloc (.cells #[.slice A6 n6 c6] 26)).alloc (.cells #[.slice A7 n7 c7] 26)) g1 x ∧ Box ((W.alloc (.cells #[.slice A6 n6 c6] 26)).alloc (.cells #[.slice A7 n7 c7] 26)) W.heap.size q ∧
    Box ((W.alloc (.cells #[.slice A6 n6 c6] 26)).alloc (.cells #[.slice A7 n7 c7] 26)) (W.heap.size + 1) r ∧ Below w.heap.size w ((W.alloc (.cells #[.slice A6 n6 c6] 26)).alloc (.cells #[.slice A7 n7 c7] 26)) := by
  subst e6 e7
  have hbb := cba (cba hb (.cells #[.slice A6 (wl 64 q) c6] 26)) (.cells #[.slice A7 (wl 64 r) c7] 26)
  have hw := cba (cba (Below.refl _ W) (.cells #[.slice A6 (wl 64 q) c6] 26)) (.cells #[.slice A7 (wl 64 r) c7] 26)
  have e2 := Blk.new (W.alloc (.cells #[.slice A6 (wl 64 q) c6] 26)) 26 #[.slice A7 (wl 64 r) c7]
  simp only [World.size_alloc] at e2
  exact ⟨h1.below hbb, ⟨A6, c6, (Blk.new W 26 _).alloc _, hq.below hw⟩, ⟨A7, c7, e2, hr.below hw⟩, cbt hS hbb⟩
/-- one box that was there, one new. -/
theorem old_new_boxes {w S W : World} {g1 g3 x q r n6 n7 c6 c7 : Nat} {A6 A7 : Option Addr} (h3 : Blk W g3 26 #[.slice none 0 0]) (ge3 : S.heap.size ≤ g3) (hb : Below S.heap.size S W) (hS : Below w.heap.size w S) (h1 : Box S g1 x)
    (hq : N64 W (.agg #[.slice A6 n6 c6]) q) (hr : N64 W (.agg #[.slice A7 n7 c7]) r) (e6 : n6 = wl 64 q) (e7 : n7 = wl 64 r) :
    Box ((W.setCell ⟨g3, 0, none⟩ (.slice A6 n6 c6)).alloc (.cells #[.slice A7 n7 c7] 26)) g1 x ∧ Box ((W.setCell ⟨g3, 0, none⟩ (.slice A6 n6 c6)).alloc (.cells #[.slice A7 n7 c7] 26)) g3 q ∧
    Box ((W.setCell ⟨g3, 0, none⟩ (.slice A6 n6 c6)).alloc (.cells #[.slice A7 n7 c7] 26)) W.heap.size r ∧ Below w.heap.size w ((W.setCell ⟨g3, 0, none⟩ (.slice A6 n6 c6)).alloc (.cells #[.slice A7 n7 c7] 26)) := by
  subst e6 e7
  have hbb := cba (hb.setCell (p := ⟨g3, 0, none⟩) ge3 (.slice A6 (wl 64 q) c6)) (.cells #[.slice A7 (wl 64 r) c7] 26)
  have hw := cba (Below.refl _ (W.setCell ⟨g3, 0, none⟩ (.slice A6 (wl 64 q) c6))) (.cells #[.slice A7 (wl 64 r) c7] 26)
  have e2 := Blk.new (W.setCell ⟨g3, 0, none⟩ (.slice A6 (wl 64 q) c6)) 26 #[.slice A7 (wl 64 r) c7]
  have hsz : (W.setCell ⟨g3, 0, none⟩ (.slice A6 (wl 64 q) c6)).heap.size = W.heap.size := by simp
  rw [hsz] at e2
  exact ⟨h1.below hbb, ⟨A6, c6, (h3.set_ 0 _).alloc _, (hq.put h3 _).below hw⟩, ⟨A7, c7, e2, (hr.put h3 _).below hw⟩, cbt hS hbb⟩
theorem LiveOut.of {w W : World} {g1 g3 g4 : Nat} (h : Box W g1 18446744073709551616 ∧ Box W g3 1844674407370955161 ∧ Box W g4 6 ∧ Below w.heap.size w W) : LiveOut w g1 (.pointer (some ⟨g3, 0, none⟩)) (.pointer (some ⟨g4, 0, none⟩)) (.int .i64 0) W := ⟨g3, g4, rfl, rfl, rfl, h⟩
theorem LiveOut.swap {w W : World} {g1 g3 g4 : Nat} (h : Box W g1 18446744073709551616 ∧ Box W g4 6 ∧ Box W g3 1844674407370955161 ∧ Below w.heap.size w W) : LiveOut w g1 (.pointer (some ⟨g3, 0, none⟩)) (.pointer (some ⟨g4, 0, none⟩)) (.int .i64 0) W := ⟨g3, g4, rfl, rfl, rfl, h.1, h.2.2.1, h.2.1, h.2.2.2⟩

set_option maxRecDepth 100000 in
set_option maxHeartbeats 2000000 in
theorem live_any (w : World) : Calls Try.prog 20 #[] w fun e w' => e = .returned (.bool true) ∧ Below w.heap.size w w' := by
  go_enter Try.func20, Try.ntmps20
  go_wp2_with fail
  refine (live_parse _).mono ?_
  rintro e w1 ⟨v1, rfl, hv1, hb1⟩
  obtain ⟨A1, c1, rfl, h1, h2, h3⟩ := hv1
  have hn1 : N64 w1 (.agg #[.slice A1 (wl 64 18446744073709551616) c1]) 18446744073709551616 := ⟨A1, c1, rfl, h1, h2, h3⟩
  have e1 := Blk.new w1 26 #[.slice A1 (wl 64 18446744073709551616) c1]
  have hS := cba hb1 (.cells #[.slice A1 (wl 64 18446744073709551616) c1] 26)
  have hN := hn1.below (cba (Below.refl _ w1) (.cells #[.slice A1 (wl 64 18446744073709551616) c1] 26))
  go_upto_region 2 with (fail)
  obtain ⟨n1, hn1e⟩ : ∃ n, wl 64 18446744073709551616 = n := ⟨_, rfl⟩
  have B1 := Lib.hid (show Box _ w1.heap.size 18446744073709551616 from ⟨A1, c1, e1, hN⟩)
  rw [hn1e] at e1 hS hN B1 ⊢
  obtain ⟨S, hSE⟩ : ∃ S, w1.alloc (.cells #[.slice A1 n1 c1] 26) = S := ⟨_, rfl⟩
  rw [hSE] at e1 hS hN B1 ⊢
  obtain ⟨g1, hg1⟩ : ∃ g, w1.heap.size = g := ⟨_, rfl⟩
  simp only [hg1] at e1 B1 ⊢
  have E1 := Lib.hid e1
  have HS := Lib.hid hS
  have HN := Lib.hid hN
  have HDV := Lib.hid (fun (W : World) (v : Value) (h1 : Below S.heap.size S W) (h2 : N64 W v 10) => ndiv_any (.agg #[.slice A1 n1 c1]) v 18446744073709551616 10 W (hN.below h1) h2 (Nat.le_trans ((wl_le (k := 64) (by decide) 18446744073709551616 2).2 (by decide)) (by decide)) (by decide))
  have HOF : Hid (∀ W, Calls Try.prog 50 #[.int .u64 10] W (fun e w' => ∃ v, e = .returned v ∧ N64 w' v 10 ∧ Below W.heap.size W w')) := Lib.hid (fun W => of_any 10 (by decide) W)
  have hgl := e1.lt
  have hc1 : S.cell? ⟨g1, 0, none⟩ = some (.slice A1 n1 c1) := e1.cell 0
  have HC1 := Lib.hid hc1
  clear hn1e hn1 h1 h2 h3 hb1 hSE hg1 e1 hS hN hc1
  have NA := Lib.hid (Blk.new S 26 #[.slice none 0 0])
  have NA2 := Lib.hid ((Blk.new S 26 #[.slice none 0 0]).alloc (.cells #[.slice none 0 0] 26))
  have nb2 := Blk.new (S.alloc (.cells #[.slice none 0 0] 26)) 26 #[.slice none 0 0]
  simp only [World.size_alloc] at nb2
  have NB2 := Lib.hid nb2
  clear nb2
  go_cut [3, 4, 5] (fun v3 v4 v5 wx => LiveOut w g1 v3 v4 v5 wx)
  case first =>
    go_region_held3 (fun w' => w'.cell? ⟨g1, 0, none⟩ = some (.slice A1 n1 c1))
      ((refine (Below.cell (B := S.heap.size) (p := ⟨g1, 0, none⟩) ?_ hgl).trans HC1.out; repeat (with_reducible (first | exact hb6.out | exact hb5.out | exact Below.refl _ _ | refine Below.setCell (p := ⟨_, 0, none⟩) ?_ (by simp only []; omega) _ | refine cba ?_ _ | refine Below.drew ?_))))
      (first
        | (go_at_call 50; (with_reducible refine (HOF.out _).mono ?_); rintro e w5 ⟨v5, rfl, hn5, hb5'⟩; have hb5 := Lib.hid (cbt (a := S) (by repeat (with_reducible (first | exact Below.refl _ _ | refine cba ?_ _ | refine Below.drew ?_))) hb5'); have hz5 := hb5.out.size; have HN5 := Lib.hid hn5; (try (have zA := blk_below (t := 26) (g := S.heap.size) (cs := #[.slice none 0 0]) (by first | exact NA.out | exact NA2.out) hb5'; have cA : w5.cell? ⟨S.heap.size, 0, none⟩ = some (.slice none 0 0) := zA.cell 0; have fA := zA.frozen 0; have oA := Nat.ne_of_lt zA.lt; have pA := (Nat.ne_of_lt zA.lt).symm; have ZA := Lib.hid zA; clear zA)); (try (have zB := blk_below (t := 26) (g := S.heap.size + 1) (cs := #[.slice none 0 0]) (by exact NB2.out) hb5'; have cB : w5.cell? ⟨S.heap.size + 1, 0, none⟩ = some (.slice none 0 0) := zB.cell 0; have fB := zB.frozen 0; have oB := Nat.ne_of_lt zB.lt; have pB := (Nat.ne_of_lt zB.lt).symm; have ZB := Lib.hid zB; clear zB)); clear hn5 hb5'; have NC := Lib.hid (Blk.new w5 26 #[.slice none 0 0]); have NC2 := Lib.hid ((Blk.new w5 26 #[.slice none 0 0]).alloc (.cells #[.slice none 0 0] 26)); have nd2 := Blk.new (w5.alloc (.cells #[.slice none 0 0] 26)) 26 #[.slice none 0 0]; simp only [World.size_alloc] at nd2; have ND2 := Lib.hid nd2; clear nd2)
        | (go_at_call 23; (with_reducible refine (HDV.out _ _ ?_ ?_).mono ?_); (repeat (with_reducible (first | exact hb5.out | refine cba ?_ _ | refine Below.drew ?_))); (refine HN5.out.below ?_; repeat (with_reducible (first | exact Below.refl _ _ | refine cba ?_ _ | refine Below.drew ?_))); rintro e w6 ⟨vq, vr, rfl, ⟨A6, c6, rfl, hl6, hm6, hd6⟩, ⟨A7, c7, rfl, hl7, hm7, hd7⟩, hb6'⟩; have hb6 := Lib.hid (cbt (a := S) (by repeat (with_reducible (first | exact hb5.out | refine cba ?_ _ | refine Below.drew ?_))) hb6'); have hz6 := hb6.out.size; have HD6 := Lib.hid hd6; have HD7 := Lib.hid hd7; (try (have yA := blk_below (by first | exact ZA.out | exact ZA.out.alloc _ | exact (ZA.out.alloc _).alloc _) hb6'; have dA : w6.cell? ⟨S.heap.size, 0, none⟩ = some (.slice none 0 0) := yA.cell 0; have gA := yA.frozen 0; have lA := yA.lt; have mA := Nat.ne_of_lt yA.lt; have rA := (Nat.ne_of_lt yA.lt).symm; have YA := Lib.hid yA; clear yA)); (try (have yB := blk_below (by first | exact ZB.out | exact ZB.out.alloc _ | exact (ZB.out.alloc _).alloc _) hb6'; have dB : w6.cell? ⟨S.heap.size + 1, 0, none⟩ = some (.slice none 0 0) := yB.cell 0; have gB := yB.frozen 0; have lB := yB.lt; have mB := Nat.ne_of_lt yB.lt; have rB := (Nat.ne_of_lt yB.lt).symm; have YB := Lib.hid yB; clear yB)); (try (have yC := blk_below (t := 26) (g := w5.heap.size) (cs := #[.slice none 0 0]) (by first | exact NC.out | exact NC2.out) hb6'; have dC : w6.cell? ⟨w5.heap.size, 0, none⟩ = some (.slice none 0 0) := yC.cell 0; have gC := yC.frozen 0; have lC := yC.lt; have mC := Nat.ne_of_lt yC.lt; have rC := (Nat.ne_of_lt yC.lt).symm; have YC := Lib.hid yC; clear yC)); (try (have yD := blk_below (t := 26) (g := w5.heap.size + 1) (cs := #[.slice none 0 0]) (by exact ND2.out) hb6'; have dD : w6.cell? ⟨w5.heap.size + 1, 0, none⟩ = some (.slice none 0 0) := yD.cell 0; have gD := yD.frozen 0; have lD := yD.lt; have mD := Nat.ne_of_lt yD.lt; have rD := (Nat.ne_of_lt yD.lt).symm; have YD := Lib.hid yD; clear yD)); clear hd6 hd7))
    all_goals
      have hq6 : N64 w6 (.agg #[.slice A6 (wl 64 1844674407370955161) c6]) 1844674407370955161 := ⟨A6, c6, rfl, hl6, hm6, HD6.out⟩
      have hr7 : N64 w6 (.agg #[.slice A7 (wl 64 6) c7]) 6 := ⟨A7, c7, rfl, hl7, hm7, HD7.out⟩
      go_wp2_with fail
      go_meet
      first
        | with_reducible exact LiveOut.of (new_boxes hb6.out HS.out B1.out hq6 hr7 rfl rfl)
        | with_reducible exact LiveOut.swap (new_boxes hb6.out HS.out B1.out hr7 hq6 rfl rfl)
        | with_reducible exact LiveOut.of (old_new_boxes YA.out (by omega) hb6.out HS.out B1.out hq6 hr7 rfl rfl)
        | with_reducible exact LiveOut.of (old_new_boxes YC.out (by omega) hb6.out HS.out B1.out hq6 hr7 rfl rfl)
        | with_reducible exact LiveOut.swap (old_new_boxes YA.out (by omega) hb6.out HS.out B1.out hr7 hq6 rfl rfl)
        | with_reducible exact LiveOut.swap (old_new_boxes YC.out (by omega) hb6.out HS.out B1.out hr7 hq6 rfl rfl)
        | with_reducible exact LiveOut.of (two_boxes (by omega) YA.out YB.out hb6.out HS.out B1.out hq6 hr7 rfl rfl (by omega) (by omega))
        | with_reducible exact LiveOut.of (two_boxes (by omega) YB.out YA.out hb6.out HS.out B1.out hq6 hr7 rfl rfl (by omega) (by omega))
        | with_reducible exact LiveOut.of (two_boxes (by omega) YA.out YC.out hb6.out HS.out B1.out hq6 hr7 rfl rfl (by omega) (by omega))
        | with_reducible exact LiveOut.of (two_boxes (by omega) YC.out YA.out hb6.out HS.out B1.out hq6 hr7 rfl rfl (by omega) (by omega))
        | with_reducible exact LiveOut.of (two_boxes (by omega) YC.out YD.out hb6.out HS.out B1.out hq6 hr7 rfl rfl (by omega) (by omega))
        | with_reducible exact LiveOut.of (two_boxes (by omega) YD.out YC.out hb6.out HS.out B1.out hq6 hr7 rfl rfl (by omega) (by omega))
  case rest =>
    obtain ⟨g3, g4, rfl, rfl, rfl, b1, b3, b4, hbw⟩ := hcut
    have HBW := Lib.hid hbw
    obtain ⟨A, c, hA, hnA⟩ := b1
    obtain ⟨B, d, hB, hnB⟩ := b3
    obtain ⟨C, f, hC, hnC⟩ := b4
    have KA := Lib.hid hA
    have KB := Lib.hid hB
    have KC := Lib.hid hC
    have NA' := Lib.hid hnA
    have NB' := Lib.hid hnB
    have NC' := Lib.hid hnC
    have HBT : Hid (∀ W v, N64 W v 18446744073709551616 → Calls Try.prog 48 #[v] W (fun e w' => e = .returned (.int .i64 65) ∧ Below W.heap.size W w')) := Lib.hid (fun W v h => bits_any v 18446744073709551616 W h (Nat.le_trans ((wl_le (k := 64) (by decide) 18446744073709551616 2).2 (by decide)) (by decide)))
    have HO12 : Hid (∀ W, Calls Try.prog 50 #[.int .u64 12] W (fun e w' => ∃ v, e = .returned v ∧ N64 w' v 12 ∧ Below W.heap.size W w')) := Lib.hid (fun W => of_any 12 (by decide) W)
    have HO18 : Hid (∀ W, Calls Try.prog 50 #[.int .u64 18] W (fun e w' => ∃ v, e = .returned v ∧ N64 w' v 18 ∧ Below W.heap.size W w')) := Lib.hid (fun W => of_any 18 (by decide) W)
    have HGC : Hid (∀ W v u, N64 W v 12 → N64 W u 18 → Calls Try.prog 53 #[v, u] W (fun e w' => ∃ v, e = .returned v ∧ N64 w' v 6 ∧ Below W.heap.size W w')) := Lib.hid (fun W v u h1 h2 => ngcd_any v u 12 18 W h1 h2 (Nat.le_trans ((wl_le (k := 64) (by decide) 12 1).2 (by decide)) (by decide)) (Nat.le_trans ((wl_le (k := 64) (by decide) 18 1).2 (by decide)) (by decide)))
    obtain ⟨nA, hnAe⟩ : ∃ n, wl 64 18446744073709551616 = n := ⟨_, rfl⟩
    obtain ⟨nB, hnBe⟩ : ∃ n, wl 64 1844674407370955161 = n := ⟨_, rfl⟩
    obtain ⟨nC, hnCe⟩ : ∃ n, wl 64 6 = n := ⟨_, rfl⟩
    rw [hnAe] at hA KA NA'
    rw [hnBe] at hB KB NB'
    rw [hnCe] at hC KC NC'
    have k1 : wc.cell? ⟨g1, 0, none⟩ = some (.slice A nA c) := hA.cell 0
    clear hA hB hC hnA hnB hnC hbw hnAe hnBe hnCe hgl
    go_wp2_with fail
    refine (HBT.out _ _ NA'.out).mono ?_
    rintro e w1 ⟨rfl, hb1⟩
    have HB1 := Lib.hid hb1
    have k3 : w1.cell? ⟨g3, 0, none⟩ = some (.slice B nB d) := (blk_below KB.out hb1).cell 0
    clear k1 hb1
    go_wp2_with fail
    refine (live_tq _ _ (NB'.out.below HB1.out)).mono ?_
    rintro e w2 ⟨rfl, hb2⟩
    have HB2 := Lib.hid (cbt HB1.out hb2)
    have k4 : w2.cell? ⟨g4, 0, none⟩ = some (.slice C nC f) := (blk_below KC.out HB2.out).cell 0
    clear k3 hb2
    go_wp2_with fail
    refine (live_t6 _ _ (NC'.out.below HB2.out)).mono ?_
    rintro e w3 ⟨rfl, hb3⟩
    have HB3 := Lib.hid (cbt HB2.out hb3)
    clear k4 hb3
    go_wp2_with fail
    refine (HO12.out _).mono ?_
    rintro e w4 ⟨v12, rfl, hn12, hb4⟩
    have HB4 := Lib.hid (cbt HB3.out hb4)
    have N12 := Lib.hid hn12
    clear hn12 hb4
    go_wp2_with fail
    refine (HO18.out _).mono ?_
    rintro e w5 ⟨v18, rfl, hn18, hb5⟩
    have HB5 := Lib.hid (cbt HB4.out hb5)
    have N12' := Lib.hid (N12.out.below hb5)
    have N18 := Lib.hid hn18
    clear hn18 hb5
    go_wp2_with fail
    refine (HGC.out _ _ _ N12'.out N18.out).mono ?_
    rintro e w6 ⟨vg, rfl, hng, hb6⟩
    have HB6 := Lib.hid (cbt HB5.out hb6)
    have NG := Lib.hid hng
    clear hng hb6
    go_wp2_with fail
    refine (live_t6 _ _ NG.out).mono ?_
    rintro e w7 ⟨rfl, hb7⟩
    have HB7 := Lib.hid (cbt HBW.out (cbt HB6.out hb7))
    clear hb7
    go_wp2_with fail
    go_ret
    exact ⟨rfl, HB7.out⟩
end Go.Proofs.Yteikhnmmkanndaa

/- Arguments opened: bytes, as the walks' words say them. -/
namespace Go.Proofs.Yteikhnmmkanndaa
open Go.ChangeShapes Go.WideShapes Go.RowKit Go.Proofs.YteikhnmmkanndaaW.PrintWords

section
variable {H : Type} {enc : TypeId × Value → H} {w : World} {base : Nat} {spare : Nat → Bool} {held : Bool}
/-- an argument that is a slice of bytes. -/
theorem open_bytes_at {fuel : Nat} {A : Option Addr} {len cap : Nat} {x : DataW H × List MemPlace} (h : DataW.trod enc Try.prog w base spare held fuel 22 [.slice A len cap] = some x) :
    ∃ l : List Int, l.length = len ∧ ByS w (.slice A len cap) l ∧ Bys l := by
  rcases open_ints Try.underlying22 (e := 5) (k := .u8) (by kernel_rfl) (by kernel_rfl) h with ⟨hcs, _⟩ | ⟨a, l, c, zs, hcs, hx, hl, hm, hz, _, hcell, hwz⟩
  · simp at hcs
    obtain ⟨rfl, rfl, rfl⟩ := hcs
    exact ⟨[], rfl, Kd.V_nil _ _ _ _ _, fun x hx => absurd hx (by simp)⟩
  · simp at hcs
    obtain ⟨rfl, rfl, rfl⟩ := hcs
    have hz' : len ≤ zs.length := by rw [hz]; split <;> omega
    have hlen : (zs.take len).length = len := by rw [List.length_take, Nat.min_eq_left hz']
    refine ⟨zs.take len, hlen, ?_, ?_⟩
    · refine ⟨some a, cap, by rw [hlen], by rw [hlen]; exact hl, ?_⟩
      intro W' hW
      refine Kd.C_of_reads (d := 0) ⟨rfl, ?_, fun h0 => ⟨a, rfl, fun j hj => ?_⟩⟩
      · rw [hlen]; exact Nat.le_trans hl hm
      · rw [hlen] at hj
        have hc := hcell j (by omega)
        have hb : (a.add j).block = a.block := by cases j <;> rfl
        have hlt : a.block < w.heap.size := by
          have := block_lt_of_cell hc
          rw [hb] at this
          exact this
        rw [World.cell?_of_block (w := w) (by rw [hb]; exact hW a.block trivial hlt), hc]
        simp [List.getD_eq_getElem?_getD, hj]
    · intro z hz1
      have := hwz z (List.mem_of_mem_take hz1)
      unfold Lit.wf at this
      rw [Bool.and_eq_true, decide_eq_true_iff, decide_eq_true_iff] at this
      have hmin : IntKind.u8.min = 0 := by decide
      have hmax : IntKind.u8.max = 255 := by decide
      rw [hmin, hmax] at this
      omega
end
end Go.Proofs.Yteikhnmmkanndaa
