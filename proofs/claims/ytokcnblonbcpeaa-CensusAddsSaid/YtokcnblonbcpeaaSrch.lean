/- The walks of the reference's Rises and of sort.Search by the closure of behind. -/
import Derived.Test.YtokcnblonbcpeaaCmp
namespace Go.Proofs.Ytokcnblonbcpeaa
open Go.RowKit

theorem IntsAt.drewN {w : World} {A : Option Addr} {g : List Int} (h : IntsAt w A g) (n : Nat) : IntsAt (w.drewN n) A g := h
theorem quiet_drew {P : Program} {f : FuncId} {args : Array Value} {w : World} {n : Nat} {v : Value}
    (h : Calls P f args (w.drewN n) fun e w' => e = .returned v ∧ Drew (w.drewN n) w') : Calls P f args (w.drewN n) fun e w'' => e = .returned v ∧ ∃ m, w'' = w.drewN m :=
  h.mono fun _ _ ⟨he, hm⟩ => ⟨he, by
    obtain ⟨m, rfl⟩ := hm
    exact ⟨n + m, World.drewN_drewN _ _ _⟩⟩
theorem rises_step (L : List Cnt) (k : Nat) (hk : k + 1 < L.length) : risesB (L.drop k) = (decide (cmpL L[k].g L[k + 1].g < 0) && risesB (L.drop (k + 1))) := by
  rw [List.drop_eq_getElem_cons (show k < L.length by omega), List.drop_eq_getElem_cons hk, risesB, ← List.drop_eq_getElem_cons hk]
theorem rises_end (L : List Cnt) (k : Nat) (hk : L.length ≤ k + 1) : risesB (L.drop k) = true := by
  by_cases h : k < L.length
  · rw [List.drop_eq_getElem_cons h, List.drop_of_length_le hk, risesB]
  · rw [List.drop_of_length_le (by omega), risesB]
set_option maxHeartbeats 1000000 in
theorem rises_any (A : Option Addr) (L : List Cnt) (cap : Nat) (w : World) (hn : L.length ≤ 1099511627776) (hc : CntsAt w A L) :
    Calls Try.prog 23 #[.slice A L.length cap] w fun e w' => e = .returned (.bool (risesB L)) ∧ Below w.heap.size w w' := by
  go_enter Try.func23, Try.ntmps23
  go_wp2
  go_loopw [3] (fun v3 wr => ∃ k : Nat, v3 = .int .i64 ((k : Int) + 1) ∧ k ≤ L.length ∧ Hid (risesB L = risesB (L.drop k)) ∧ Below w.heap.size w wr) (fun v3 _ => L.length + 1 - (intOf v3).toNat)
  case atStart => exact ⟨0, by go_num, Nat.zero_le _, Lib.hid rfl, Below.refl _ _⟩
  case round =>
    obtain ⟨k, rfl, hk, hr, hbr⟩ := hrel
    by_cases hlt : k + 1 < L.length
    · obtain ⟨b, o, v, rfl, hbl, hc0, hc1, hv, hr0, hr1⟩ := hc k (by omega)
      obtain ⟨b', o', v', hA', hbl', hc0', hc1', hv', hr0', hr1'⟩ := hc (k + 1) hlt
      injection hA' with hA'
      injection hA' with hA1 hA2 _
      subst hA1
      subst hA2
      have g0 : wr.cell? ⟨b, o + k * 2, none⟩ = some v := (hbr.cell (p := ⟨b, o + k * 2, none⟩) hbl).trans hc0
      have g1 : wr.cell? ⟨b, o + (k + 1) * 2, none⟩ = some v' := (hbr.cell (p := ⟨b, o + (k + 1) * 2, none⟩) hbl).trans hc0'
      have hvr := hv.below hbr
      have hvr' := hv'.below hbr
      have HS := Lib.hid (rises_step L k hlt)
      clear hc hc0 hc1 hc0' hc1' hv hv'
      obtain ⟨A1, cap1, rfl, hl1, hm1, hA1⟩ := hvr
      obtain ⟨A2, cap2, rfl, hl2, hm2, hA2⟩ := hvr'
      unfold maxLen at hm1 hm2
      generalize L[k].g = x at *
      generalize L[k + 1].g = y at *
      have i0 : (0 : Int) ≤ (k : Int) := by omega
      have i1 : (k : Int) + 1 < (L.length : Int) := by omega
      have i2 : (k : Int) < (L.length : Int) := by omega
      have i3 : (0 : Int) ≤ (k : Int) + 1 := by omega
      have i4 : ((k : Int) + 1).toNat = k + 1 := by omega
      have i5 : IntKind.i64.wrap (k : Int) = (k : Int) := by rw [IntKind.wrap_i64]; omega
      have i6 : IntKind.i64.wrap ((k : Int) + 1 - 1) = (k : Int) := by rw [IntKind.wrap_i64]; omega
      go_wp2
      by_cases hx : cmpL x y < 0
      · have HF := Lib.hid (show risesB L = risesB (L.drop (k + 1)) by rw [hr.out, HS.out, decide_eq_true hx, Bool.true_and])
        have hx' : ¬ (0 : Int) ≤ cmpL x y := by omega
        go_quiet ((go_at_call 26; exact quiet_drew (rcompare_any A1 A2 x y cap1 cap2 _ (by omega) (hA1.drewN _) (hA2.drewN _))))
        go_wp2
        go_roundw
        case rel => exact ⟨k + 1, by go_num, by omega, HF, below_drewN hbr _⟩
        case measure => simp [intOf]; omega
      · have HF := Lib.hid (show risesB L = false by rw [hr.out, HS.out, decide_eq_false hx, Bool.false_and])
        have hx' : (0 : Int) ≤ cmpL x y := by omega
        clear hx
        go_quiet ((go_at_call 26; exact quiet_drew (rcompare_any A1 A2 x y cap1 cap2 _ (by omega) (hA1.drewN _) (hA2.drewN _))))
        go_wp2
        go_ret
        exact ⟨by rw [HF.out]; rfl, below_drewN hbr _⟩
    · have HF := Lib.hid (show risesB L = true by rw [hr.out, rises_end L k (by omega)])
      go_wp2
      go_ret
      exact ⟨by rw [HF.out]; rfl, hbr⟩

/-- is the n-gram at i greater than h? the closure that is searched by. -/
def gtB (L : List Cnt) (h : List Int) (i : Nat) : Bool := match L[i]? with
  | some x => decide (0 < cmpL x.g h)
  | none => true
set_option maxHeartbeats 1000000 in
theorem clo_any (A B : Option Addr) (L : List Cnt) (h : List Int) (cap caph : Nat) (b1 b2 : Nat) (i : Nat) (w : World) (hi : i < L.length) (hc : CntsAt w A L) (hh : IntsAt w B h)
    (c1 : w.cell? ⟨b1, 0, none⟩ = some (.slice A L.length cap)) (c2 : w.cell? ⟨b2, 0, none⟩ = some (.slice B h.length caph)) :
    Calls Try.prog 37 #[.int .i64 (i : Int), .pointer (some ⟨b1, 0, none⟩), .pointer (some ⟨b2, 0, none⟩)] w fun e w' => e = .returned (.bool (gtB L h i)) ∧ Drew w w' := by
  obtain ⟨b, o, v, rfl, hbl, hc0, hc1, hv, hr0, hr1⟩ := hc i hi
  obtain ⟨A1, cap1, rfl, hl1, hm1, hA1⟩ := hv
  unfold maxLen at hm1
  have HG := Lib.hid (show gtB L h i = decide (0 < cmpL L[i].g h) by unfold gtB; rw [List.getElem?_eq_getElem hi])
  clear hc hc1
  generalize L[i].g = x at *
  have i0 : (0 : Int) ≤ (i : Int) := by omega
  have i1 : (i : Int) < (L.length : Int) := by omega
  go_enter Try.func37, Try.ntmps37
  go_wp2
  go_quiet ((go_at_call 38; exact Calls.quiet_of_same ((gcompare_any A1 B x h cap1 caph _ (by omega) (hA1.drewN _) (hh.drewN _)).mono (fun _ _ ⟨he, hw⟩ => ⟨he, hw.symm⟩))))
  go_wp2
  go_ret
  exact ⟨by rw [HG.out]; rfl, ⟨_, rfl⟩⟩
theorem clo_int (A B : Option Addr) (L : List Cnt) (h : List Int) (cap caph : Nat) (b1 b2 : Nat) (m : Int) (w : World) (h0 : 0 ≤ m) (hi : m < (L.length : Int)) (hc : CntsAt w A L) (hh : IntsAt w B h)
    (c1 : w.cell? ⟨b1, 0, none⟩ = some (.slice A L.length cap)) (c2 : w.cell? ⟨b2, 0, none⟩ = some (.slice B h.length caph)) :
    Calls Try.prog 37 #[.int .i64 m, .pointer (some ⟨b1, 0, none⟩), .pointer (some ⟨b2, 0, none⟩)] w fun e w' => e = .returned (.bool (gtB L h m.toNat)) ∧ Drew w w' := by
  obtain ⟨n, rfl⟩ := Int.eq_ofNat_of_zero_le h0
  exact clo_any A B L h cap caph b1 b2 n w (by omega) hc hh c1 c2
theorem Drew.trans {a b c : World} (h : Drew a b) (k : Drew b c) : Drew a c := by
  obtain ⟨m, rfl⟩ := k
  exact h.more m
theorem IntsAt.drew_ {w w' : World} {A : Option Addr} {g : List Int} (h : IntsAt w A g) (hd : Drew w w') : IntsAt w' A g := by
  obtain ⟨m, rfl⟩ := hd
  exact h
theorem CntsAt.drew_ {w w' : World} {A : Option Addr} {L : List Cnt} (h : CntsAt w A L) (hd : Drew w w') : CntsAt w' A L := by
  obtain ⟨m, rfl⟩ := hd
  exact h
set_option maxHeartbeats 1000000 in
theorem search_any (A B : Option Addr) (L : List Cnt) (h : List Int) (cap caph : Nat) (b1 b2 : Nat) (w : World) (hn : L.length ≤ 1099511627776) (hc : CntsAt w A L) (hh : IntsAt w B h)
    (c1 : w.cell? ⟨b1, 0, none⟩ = some (.slice A L.length cap)) (c2 : w.cell? ⟨b2, 0, none⟩ = some (.slice B h.length caph))
    (hm : ∀ i j, i ≤ j → gtB L h i = true → gtB L h j = true) :
    Calls Try.prog 36 #[.int .i64 (L.length : Int), .func (.func 37) #[] #[.pointer (some ⟨b1, 0, none⟩), .pointer (some ⟨b2, 0, none⟩)]] w fun e w' => ∃ k : Nat, e = .returned (.int .i64 (k : Int)) ∧ k ≤ L.length ∧ (∀ i, i < k → gtB L h i = false) ∧ (∀ i, k ≤ i → gtB L h i = true) ∧ Drew w w' := by
  have HM := Lib.hid hm
  have HC := Lib.hid hc
  have HH := Lib.hid hh
  clear hm hc hh
  go_enter Try.func36, Try.ntmps36
  go_wp2
  go_loopw [5, 6] (fun v5 v6 wr => ∃ i j : Nat, v5 = .int .i64 (i : Int) ∧ v6 = .int .i64 (j : Int) ∧ i ≤ j ∧ j ≤ L.length ∧ Hid (∀ q, q < i → gtB L h q = false) ∧ Hid (∀ q, j ≤ q → gtB L h q = true) ∧ Drew w wr) (fun v5 v6 _ => (intOf v6 - intOf v5).toNat)
  case atStart => exact ⟨0, L.length, rfl, rfl, Nat.zero_le _, Nat.le_refl _, Lib.hid (fun q hq => absurd hq (by omega)), Lib.hid (fun q hq => by unfold gtB; rw [List.getElem?_eq_none hq]), Drew.refl _⟩
  case round =>
    obtain ⟨i, j, rfl, rfl, hij, hj, hlo, hhi, hbr⟩ := hrel
    by_cases hlt : i < j
    · have k1 := (hbr.cell ⟨b1, 0, none⟩).trans c1
      have k2 := (hbr.cell ⟨b2, 0, none⟩).trans c2
      obtain ⟨m, hmm⟩ : ∃ m : Nat, m = (i + j) / 2 := ⟨_, rfl⟩
      have hm1 : i ≤ m := by omega
      have hm2 : m < j := by omega
      have HE := Lib.hid (show ((i : Int) + (j : Int)) / 2 = (m : Int) by omega)
      clear hmm
      go_wp2_with fail
      rw [HE.out]
      refine (clo_any A B L h cap caph b1 b2 m _ (by omega) (HC.out.drew_ hbr) (HH.out.drew_ hbr) k1 k2).mono ?_
      rintro e w1 ⟨rfl, hd1⟩
      cases hg : gtB L h m
      · have HL := Lib.hid (show ∀ q, q < m + 1 → gtB L h q = false by
          intro q hq
          cases hgq : gtB L h q
          · rfl
          · rw [HM.out q m (by omega) hgq] at hg
            exact absurd hg (by simp))
        clear hg
        go_wp2
        go_roundw
        case rel => exact ⟨m + 1, j, by go_num, rfl, by omega, hj, HL, hhi, hbr.trans hd1⟩
        case measure => simp [intOf]; omega
      · have HL := Lib.hid (show ∀ q, m ≤ q → gtB L h q = true from fun q hq => HM.out m q hq hg)
        clear hg
        go_wp2
        go_roundw
        case rel => exact ⟨i, m, rfl, by go_num, hm1, by omega, hlo, HL, hbr.trans hd1⟩
        case measure => simp [intOf]; omega
    · have hji : j ≤ i := by omega
      have hq : ∀ q, i ≤ q → gtB L h q = true := fun q hq => hhi.out q (by omega)
      have HQ := Lib.hid hq
      have hil : i ≤ L.length := by omega
      clear hq
      go_wp2
      go_ret
      exact ⟨i, rfl, hil, hlo.out, HQ.out, hbr⟩
end Go.Proofs.Ytokcnblonbcpeaa
