/- The walk of the iterator that behind hands back: it goes over the n-grams behind a context, in their order. -/
import Derived.RangeFuncNested
import Derived.RangeFuncBound
import Derived.RangeFuncCalls
import Derived.RangeFuncLeaves
import Derived.Shelf.Abstract
import Derived.Shelf.RegionOpen
import Derived.TacticsInMore
import Derived.LoopNIn
import Derived.LoopIn
import Derived.Test.YtokcnblonbcpeaaSrch
import Derived.Test.YtokcnblonbcpeaaRAft
namespace Go.Proofs.Ytokcnblonbcpeaa
open Go.RowKit Go.Shelf

attribute [local go_sem] Oper.semAt_some

/-- the n-grams L lie at A, their slices' values being vs. -/
def CntsV (w : World) (A : Option Addr) (L : List Cnt) (vs : Nat → Value) : Prop :=
  ∀ i (h : i < L.length), ∃ b o, A = some ⟨b, o, none⟩ ∧ b < w.heap.size ∧ w.cell? ⟨b, o + i * 2, none⟩ = some (vs i) ∧ w.cell? ⟨b, o + i * 2 + 1, none⟩ = some (.int .i64 L[i].n) ∧ IsInts w (vs i) L[i].g ∧ -9223372036854775808 ≤ L[i].n ∧ L[i].n ≤ 9223372036854775807
theorem CntsAt.vals {w : World} {A : Option Addr} {L : List Cnt} (h : CntsAt w A L) : ∃ vs, CntsV w A L vs := by
  have h' : ∀ i : Nat, ∃ v : Value, ∀ hi : i < L.length, ∃ b o, A = some ⟨b, o, none⟩ ∧ b < w.heap.size ∧ w.cell? ⟨b, o + i * 2, none⟩ = some v ∧ w.cell? ⟨b, o + i * 2 + 1, none⟩ = some (.int .i64 L[i].n) ∧ IsInts w v L[i].g ∧ -9223372036854775808 ≤ L[i].n ∧ L[i].n ≤ 9223372036854775807 := by
    intro i
    by_cases hi : i < L.length
    · obtain ⟨b, o, v, h1, h2, h3, h4, h5⟩ := h i hi
      exact ⟨v, fun _ => ⟨b, o, h1, h2, h3, h4, h5⟩⟩
    · exact ⟨.nilFunc, fun h => absurd h hi⟩
  exact ⟨fun i => Classical.choose (h' i), fun i hi => Classical.choose_spec (h' i) hi⟩
theorem CntsV.cnts {w : World} {A : Option Addr} {L : List Cnt} {vs : Nat → Value} (h : CntsV w A L vs) : CntsAt w A L := by
  intro i hi
  obtain ⟨b, o, h1, h2, h3, h4, h5⟩ := h i hi
  exact ⟨b, o, vs i, h1, h2, h3, h4, h5⟩

/-- cells of other blocks than c hold what they held. -/
def Stays (c : Nat) (w w' : World) : Prop := w.heap.size ≤ w'.heap.size ∧ ∀ (p : Addr) (v : Value), p.block ≠ c → w.cell? p = some v → w'.cell? p = some v
theorem Stays.refl (c : Nat) (w : World) : Stays c w w := ⟨Nat.le_refl _, fun _ _ _ h => h⟩
theorem Stays.trans {c : Nat} {a b d : World} (h : Stays c a b) (k : Stays c b d) : Stays c a d := ⟨Nat.le_trans h.1 k.1, fun p v hp hv => k.2 p v hp (h.2 p v hp hv)⟩
theorem Stays.of_below {c : Nat} {a b : World} (h : Below a.heap.size a b) : Stays c a b :=
  ⟨h.size, fun _ _ _ hv => (h.cell (block_lt_of_cell hv)).trans hv⟩
theorem Stays.of_grown {c : Nat} {a b : World} (h : a.grownBy b (some c)) : Stays c a b :=
  ⟨h.size, fun p _ hp hv => (World.cell?_of_block (h.block p.block (block_lt_of_cell hv) (fun e => hp (by injection e)))).trans hv⟩
theorem IntsAt.stays {c : Nat} {w w' : World} {A : Option Addr} {g : List Int} (h : IntsAt w A g) (hs : Stays c w w') (hc : ∀ b o, A = some ⟨b, o, none⟩ → 0 < g.length → b ≠ c) : IntsAt w' A g := by
  intro i hi
  obtain ⟨b, o, hA, hlt, hcell⟩ := h i hi
  exact ⟨b, o, hA, Nat.lt_of_lt_of_le hlt hs.1, hs.2 _ _ (hc b o hA (by omega)) hcell⟩

/-- the rounds that are gone over: those that begin with h. -/
theorem takeWhile_take {α : Type} (p : α → Bool) (l : List α) (q : Nat) (hq : q ≤ l.length) (h1 : ∀ i (hi : i < l.length), i < q → p l[i] = true) (h2 : q < l.length → ∀ hi : q < l.length, p l[q] = false) : l.takeWhile p = l.take q := by
  induction l generalizing q with
  | nil => simp
  | cons x l ih =>
    cases q with
    | zero =>
      have := h2 (by simp) (by simp)
      rw [List.getElem_cons_zero] at this
      simp [this]
    | succ q =>
      have h0 := h1 0 (by simp) (by omega)
      rw [List.getElem_cons_zero] at h0
      rw [List.takeWhile_cons, h0, List.take_succ_cons]
      simp only [if_true]
      rw [ih q (by simpa using hq) (fun i hi hiq => by have := h1 (i + 1) (by simpa using hi) (by omega); rwa [List.getElem_cons_succ] at this) (fun hl hi => by have := h2 (by simpa using hl) (by simpa using hi); rwa [List.getElem_cons_succ] at this)]

theorem gt_mono (L : List Cnt) (h : List Int) (hs : Sorted L) : ∀ i j, i ≤ j → gtB L h i = true → gtB L h j = true := by
  intro i j hij hi
  by_cases hj : j < L.length
  · have hil : i < L.length := by omega
    by_cases he : i = j
    · subst he; exact hi
    · unfold gtB at hi ⊢
      rw [List.getElem?_eq_getElem hil] at hi
      rw [List.getElem?_eq_getElem hj]
      simp only [decide_eq_true_iff] at hi ⊢
      have h1 := (List.pairwise_iff_getElem.1 hs) i j hil hj (by omega)
      have h2 : cmpL h L[i].g < 0 := by rw [cmpL_anti]; omega
      have h3 := cmpL_trans h2 h1
      rw [cmpL_anti] at h3
      omega
  · unfold gtB
    rw [List.getElem?_eq_none (by omega)]

set_option maxRecDepth 100000 in
set_option maxHeartbeats 2000000 in
theorem iter_in (n : Nat) (l c : Nat) (A B : Option Addr) (L : List Cnt) (h : List Int) (cap caph : Nat) (vs : Nat → Value) (b1 b2 : Nat) (w0 W : World) (hs : Sorted L) (hn : L.length ≤ 1000) (hhn : h.length ≤ 1000) (hcap : L.length ≤ cap)
    (hc : CntsV w0 A L vs) (hh : IntsAt w0 B h) (c1 : w0.cell? ⟨b1, 0, none⟩ = some (.slice A L.length cap)) (c2 : w0.cell? ⟨b2, 0, none⟩ = some (.slice B h.length caph)) (hW : Below w0.heap.size w0 W)
    (hb2 : b2 ≠ c) (hA : ∀ b o, A = some ⟨b, o, none⟩ → 0 < L.length → b ≠ c) (hB : ∀ b o, B = some ⟨b, o, none⟩ → 0 < h.length → b ≠ c) (hV : ∀ i b o n cp, i < L.length → vs i = .slice (some ⟨b, o, none⟩) n cp → 0 < n → b ≠ c)
    (J Jx : List { i : Nat // i < L.length } → World → Prop) (hJ : AbidesFrom W.heap.size J)
    (hY : ∀ pre x W1, J pre W1 → pre.length < L.length → YieldAt Fence.wide (n - 1) Try.prog l #[.agg #[vs x.1, .int .i64 (L[x.1]'x.2).n]] W1 fun e W' =>
      (e = .returned (.bool true) ∧ J (pre ++ [x]) W' ∧ Stays c W1 W') ∨ (e = .returned (.bool false) ∧ Jx (pre ++ [x]) W'))
    (h0 : J [] W) :
    CallsIn Fence.wide n Try.prog 35 #[.func (.yield l) #[] #[], .pointer (some ⟨b1, 0, none⟩), .pointer (some ⟨b2, 0, none⟩)] W fun e W' => (∃ v, e = .returned v) ∧
      ((∃ xs : List { i : Nat // i < L.length }, xs.map (fun x => L[x.1]'x.2) = after L h ∧ J xs W') ∨ (∃ pre : List { i : Nat // i < L.length }, True ∧ Jx pre W')) := by
  refine callsIn_wide.2 ?_
  have k1 : W.cell? ⟨b1, 0, none⟩ = some (.slice A L.length cap) := (hW.cell (block_lt_of_cell c1)).trans c1
  have k2 : W.cell? ⟨b2, 0, none⟩ = some (.slice B h.length caph) := (hW.cell (block_lt_of_cell c2)).trans c2
  have hcW : CntsAt W A L := hc.cnts.below hW
  have hhW : IntsAt W B h := hh.below hW
  have HY := Lib.hid hY
  have HJ := Lib.hid hJ
  have HV := Lib.hid hV
  have HC := Lib.hid hc
  have HH := Lib.hid hh
  have HA := Lib.hid hA
  have HB := Lib.hid hB
  clear hY hJ hV hc hh hA hB
  go_enter Try.func35, Try.ntmps35
  go_wp2_with fail
  refine (search_any A B L h cap caph b1 b2 _ (by omega) hcW hhW k1 k2 (gt_mono L h hs)).mono ?_
  rintro e w1 ⟨k, rfl, hk, hlo, hhi, hd⟩
  have hlo' := Lib.hid hlo
  have hhi' := Lib.hid hhi
  clear hlo hhi hcW hhW
  have k1' : w1.cell? ⟨b1, 0, none⟩ = some (.slice A L.length cap) := (hd.cell _).trans k1
  by_cases hkl : k < L.length
  · obtain ⟨b, o, rfl, hbl, _⟩ := HC.out k hkl
    have hkc : ¬ cap = k := by omega
    have hkc' : k < cap := by omega
    go_wp2_with fail
    obtain ⟨m, hm⟩ : ∃ m, L.length - k = m := ⟨_, rfl⟩
    rw [hm]
    have HM := Lib.hid hm
    have hmk : k + m ≤ 1000 := by omega
    clear hm
    have hst : Stays c w0 w1 := (Stays.of_below hW).trans (Stays.of_below hd.below)
    have hj1 : J [] w1 := by
      obtain ⟨mm, rfl⟩ := hd
      exact HJ.out _ _ _ none h0 ⟨rfl, rfl, rfl, Nat.le_refl _, fun i _ _ => rfl⟩ (fun r e => by cases e)
    have hb0 : W.heap.size ≤ w1.heap.size := hd.below.size
    go_loopw [15] (fun v15 wr => ∃ (q : Nat) (pr : List { i : Nat // i < L.length }), q ≤ m ∧ v15 = .int .i64 (q : Int) ∧ J pr wr ∧ Hid (pr.map (fun x => L[x.1]'x.2) = ((L.drop k).take q).filter (behB h)) ∧ pr.length ≤ q ∧
        Hid (∀ i (hi : i < (L.drop k).length), i < q → pre h (L.drop k)[i].g = true) ∧ Stays c w0 wr) (fun v15 _ => m - (intOf v15).toNat)
    case atStart => exact ⟨0, [], Nat.zero_le _, rfl, hj1, Lib.hid rfl, Nat.le_refl _, Lib.hid (fun i _ hi => absurd hi (by omega)), hst⟩
    case round =>
      obtain ⟨q, pr, hq, rfl, hjr, hpr, hpl, hall, hstr⟩ := hrel
      by_cases hlt : q < m
      · have hkq : k + q < L.length := by have := HM.out; omega
        obtain ⟨b', o', hA', hbl', hc0, hc1, hv, hr0, hr1⟩ := HC.out (k + q) hkq
        injection hA' with hA'
        injection hA' with hA1 hA2 _
        subst hA1
        subst hA2
        have hbc := HA.out _ _ rfl (by omega)
        have g0 := hstr.2 ⟨b, o + (k + q) * 2, none⟩ _ hbc hc0
        have g1 := hstr.2 ⟨b, o + (k + q) * 2 + 1, none⟩ _ hbc hc1
        have e0 := hstr.2 ⟨b2, 0, none⟩ _ hb2 c2
        have hb2lt : b2 < wr.heap.size := block_lt_of_cell e0
        have hD : (L.drop k)[q]'(by rw [List.length_drop]; omega) = L[k + q] := by rw [List.getElem_drop]
        have HD := Lib.hid hD
        clear hD hc0 hc1
        have HAddr := Lib.hid (show o + (k + q) * 2 = o + k * 2 + q * 2 by omega)
        rw [HAddr.out] at g0 g1
        have hv' := hv
        have HVV := Lib.hid (HV.out (k + q))
        obtain ⟨A1, cap1, hvs, hl1, hm1, hA1⟩ := hv
        rw [hvs] at g0
        unfold maxLen at hm1
        have HVS := Lib.hid hvs
        have hA1r : IntsAt wr A1 L[k + q].g := hA1.stays hstr (fun b'' o'' e h0 => by subst e; exact HV.out _ _ _ _ _ hkq hvs h0)
        have hBr : IntsAt wr B h := HH.out.stays hstr HB.out
        clear hvs hv' hA1 HVV
        obtain ⟨x, hx⟩ : ∃ x, L[k + q] = x := ⟨_, rfl⟩
        rw [hx] at g0 g1 HD hr0 hr1 hl1 hA1r
        have HX := Lib.hid hx
        clear hx
        have hjx : ∀ (o : Obj) (nn : Nat), J pr ((wr.alloc o).drewN nn) := fun o nn => HJ.out _ _ _ none hjr ⟨rfl, rfl, rfl, by simp, fun i hi _ => Below.heap_alloc wr o i hi⟩ (fun r e => by cases e)
        have HJX := Lib.hid hjx
        clear hjx
        have hend : pre h x.g = false → pr.map (fun x => L[x.1]'x.2) = after L h := fun hf => by
          rw [hpr.out, after_eq L h k hs (fun i hi hik => by
            have := hlo'.out i hik
            unfold gtB at this
            rw [List.getElem?_eq_getElem hi] at this
            simp at this
            exact this) (fun i hi hik => by
            have := hhi'.out i hik
            unfold gtB at this
            rw [List.getElem?_eq_getElem hi] at this
            simpa using this)]
          rw [takeWhile_take (fun y : Cnt => pre h y.g) (L.drop k) q (by rw [List.length_drop]; omega) hall.out (fun _ hi => by rw [HD.out]; exact hf)]
        have HEND := Lib.hid hend
        clear hend
        have HFT := Lib.hid (show ((L.drop k).take (q + 1)).filter (behB h) = if behB h x = true then ((L.drop k).take q).filter (behB h) ++ [x] else ((L.drop k).take q).filter (behB h) by
          have := filter_take (L.drop k) (behB h) q (by rw [List.length_drop]; omega)
          rw [HD.out] at this
          exact this)
        by_cases hsh : x.g.length < h.length
        · have HF := Lib.hid (HEND.out (by
            unfold pre
            rw [decide_eq_false_iff_not]
            intro e
            have := congrArg List.length e
            rw [List.length_take] at this
            omega))
          have hb1' : decide ((x.g.length : Int) < (h.length : Int)) = true := by rw [decide_eq_true_iff]; omega
          have hsh' : x.g.length < h.length := hsh
          go_wp2_with fail
          go_quiet (fail)
          go_wp2
          refine bodyPost_ret (results_none rfl _ _ _) rfl ?_
          exact ⟨⟨_, rfl⟩, .inl ⟨pr, HF.out, HJX.out _ _⟩⟩
        · have hsh' : h.length ≤ x.g.length := by omega
          have hb1' : decide (x.g.length < h.length) = false := by rw [decide_eq_false_iff_not]; omega
          have htl : (x.g.take h.length).length = h.length := by rw [List.length_take]; omega
          have hce : ∀ (o : Obj) (nn : Nat), Calls Try.prog 39 #[.slice A1 h.length cap1, .slice B h.length caph] ((wr.alloc o).drewN nn) fun e w' => e = .returned (.bool (pre h x.g)) ∧ Drew ((wr.alloc o).drewN nn) w' := fun o nn => by
            have := sequal_any A1 B (x.g.take h.length) h cap1 caph ((wr.alloc o).drewN nn) (by omega) (by omega) (((hA1r.take h.length).below (cba (Below.refl _ _) o)).drewN nn) ((hBr.below (cba (Below.refl _ _) o)).drewN nn)
            rw [htl] at this
            exact this
          clear hsh htl
          have hlenb : (h.length : Int) ≤ (x.g.length : Int) := by omega
          have hcapb : (h.length : Int) ≤ (cap1 : Int) := by omega
          have hz0 : (0 : Int) ≤ (h.length : Int) := by omega
          cases hpe : pre h x.g
          · have HF := Lib.hid (HEND.out hpe)
            rw [hpe] at hce
            have HCE := Lib.hid hce
            have HPE := Lib.hid hpe
            clear hpe hce
            go_wp2_with fail
            go_quiet ((go_at_call 39; exact quiet_drew (HCE.out _ _)))
            go_wp2
            refine bodyPost_ret (results_none rfl _ _ _) rfl ?_
            exact ⟨⟨_, rfl⟩, .inl ⟨pr, HF.out, HJX.out _ _⟩⟩
          · rw [hpe] at hce
            have HCE := Lib.hid hce
            have HPE := Lib.hid hpe
            have HALL := Lib.hid (show ∀ i (hi : i < (L.drop k).length), i < q + 1 → pre h (L.drop k)[i].g = true from fun i hi hiq => by
              by_cases he : i = q
              · subst he; rw [HD.out]; exact hpe
              · exact hall.out i hi (by omega))
            clear hpe hce
            have hyq := HY.out pr ⟨k + q, hkq⟩
            have HYQ := Lib.hid hyq
            clear hyq
            go_wp2_with fail
            go_quiet ((go_at_call 39; exact quiet_drew (HCE.out _ _)))
            obtain ⟨fn, tmps, assign, body, hy, hR⟩ := HYQ.out ((wr.alloc (Obj.cells #[Value.slice A1 x.g.length cap1, Value.int IntKind.i64 x.n] 52)).drewN nq) (HJX.out _ _) (by omega)
            simp only [HVS.out, HX.out] at hy
            have HRR := Lib.hid hR
            clear hR
            by_cases hln : x.g.length = h.length + 1
            · have hlq : ((x.g.length : Int) == (h.length : Int) + 1) = true := by rw [beq_iff_eq]; omega
              have HLN := Lib.hid hln
              clear hln
              go_upto_region 5 with (fail)
              refine (wpIn_wide (n := n)).1 ?_
              gi_wp2
              refine ⟨fun hd => absurd hd (by simp [Fence.wide]), HRR.out.mono ?_⟩
              rintro e W3 (⟨rfl, hJ3, hk3⟩ | ⟨rfl, hJx3⟩)
              · gi_wp2
                go_wp2
                go_roundw
                case rel =>
                  refine ⟨q + 1, pr ++ [⟨k + q, hkq⟩], by omega, by go_num, hJ3, Lib.hid ?_, by simp; omega, HALL, (hstr.trans (Stays.of_below (below_drewN (cba (Below.refl _ _) _) nq))).trans hk3⟩
                  rw [List.map_append, hpr.out, HFT.out, if_pos]
                  · simp [HX.out]
                  · unfold behB
                    rw [HPE.out, decide_eq_true HLN.out]
                    rfl
                case measure => simp [intOf]; omega
              · gi_wp2
                go_wp2
                refine bodyPost_ret (results_none rfl _ _ _) rfl ?_
                exact ⟨⟨_, rfl⟩, .inr ⟨_, trivial, hJx3⟩⟩
            · have hlq : ((x.g.length : Int) == (h.length : Int) + 1) = false := by rw [beq_eq_false_iff_ne]; omega
              have HLN := Lib.hid hln
              clear hln
              go_wp2
              go_roundw
              case rel =>
                refine ⟨q + 1, pr, by omega, by go_num, HJX.out _ _, Lib.hid ?_, by omega, HALL, hstr.trans (Stays.of_below (below_drewN (cba (Below.refl _ _) _) nq))⟩
                rw [hpr.out, HFT.out, if_neg]
                unfold behB
                rw [decide_eq_false HLN.out]
                simp
              case measure => simp [intOf]; omega
      · have HEND := Lib.hid (show pr.map (fun x => L[x.1]'x.2) = after L h by
          have hqm : q = (L.drop k).length := by rw [List.length_drop]; have := HM.out; omega
          rw [hpr.out, after_eq L h k hs (fun i hi hik => by
            have := hlo'.out i hik
            unfold gtB at this
            rw [List.getElem?_eq_getElem hi] at this
            simp at this
            exact this) (fun i hi hik => by
            have := hhi'.out i hik
            unfold gtB at this
            rw [List.getElem?_eq_getElem hi] at this
            simpa using this)]
          rw [takeWhile_take (fun y : Cnt => pre h y.g) (L.drop k) q (by omega) hall.out (fun hl _ => by omega)])
        go_wp2
        go_end0
        exact ⟨⟨_, rfl⟩, .inl ⟨pr, HEND.out, hjr⟩⟩
  · have hkk : k = L.length := by omega
    have HEND := Lib.hid (show after L h = [] by
      rw [after_eq L h k hs (fun i hi hik => by
        have := hlo'.out i hik
        unfold gtB at this
        rw [List.getElem?_eq_getElem hi] at this
        simp at this
        exact this) (fun i hi hik => by omega), List.drop_of_length_le (by omega)]
      rfl)
    have hj1 : J [] w1 := by
      obtain ⟨mm, rfl⟩ := hd
      exact HJ.out _ _ _ none h0 ⟨rfl, rfl, rfl, Nat.le_refl _, fun i _ _ => rfl⟩ (fun r e => by cases e)
    go_wp2_with fail
    all_goals
      go_loopw [15] (fun v15 wr => v15 = .int .i64 0 ∧ wr = w1) (fun _ _ => 0)
      case atStart => exact ⟨rfl, rfl⟩
      case round =>
        obtain ⟨rfl, rfl⟩ := hrel
        go_wp2
        go_end0
        exact ⟨⟨_, rfl⟩, .inl ⟨[], HEND.out.symm, hj1⟩⟩
end Go.Proofs.Ytokcnblonbcpeaa
