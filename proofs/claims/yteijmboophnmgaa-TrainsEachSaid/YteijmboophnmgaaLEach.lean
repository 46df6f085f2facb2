/- The walk of flonglaw04.TrainsEach. -/
import Derived.Test.YteijmboophnmgaaLess
import Derived.Deep.CutBlock
namespace Go.Proofs.Yteijmboophnmgaa
open Go.RowKit

attribute [local go_sem] Holds.drew Holds.alloc Holds.drewN WB.holds

theorem bestOf_known {h : House} (hv : Valid h) : fewestOf h = ((lateOf h (bestOf h (-1))).length : Int) ∧ planOf h = bestOf h (-1) := by
  unfold fewestOf planOf
  rw [valid_iff.2 hv]
  exact ⟨rfl, rfl⟩
theorem withoutOf_known {h : House} (hv : Valid h) {m : Int} (hm : within m 0 ((h.ms.length : Int) - 1) = true) : withoutOf h m = bestOf h m := by
  unfold withoutOf
  rw [valid_iff.2 hv, hm]; rfl

/-- What the law asks of the plan of a machine's stop. -/
structure StopFacts (h : House) (plan : List (List Int)) (k : Nat) : Prop where
  pl : isPlan h (bestOf h (k : Int)) = true
  at_ : At (bestOf h (k : Int)) k []
  le : (lateOf h (bestOf h (-1))).length ≤ (lateOf h (bestOf h (k : Int))).length
  own : ∀ l, At plan k l → l = [] → (lateOf h (bestOf h (k : Int))).length ≤ (lateOf h plan).length ∧ ((lateOf h plan).length = (lateOf h (bestOf h (k : Int))).length → lessP plan (bestOf h (k : Int)) = false)
theorem stopFacts {h : House} (hv : Valid h) {plan : List (List Int)} (hp : isPlan h plan = true) {k : Nat} (hk : k < h.ms.length) : StopFacts h plan k := by
  obtain ⟨h1, h2⟩ := bestOf_plan hv (k : Int)
  have hl : (bestOf h (k : Int)).length = h.ms.length := (isPlan_iff.1 h1).1
  refine ⟨h1, ?_, bestOf_stop hv _, ?_⟩
  · obtain ⟨x, hx⟩ := At.mk (xs := bestOf h (k : Int)) (k := k) (by omega)
    have := h2 k rfl
    rw [hx.getD] at this
    rw [← this]; exact hx
  · rintro l hl rfl
    have hi : Idle plan (k : Int) := fun i hi => by
      obtain rfl : i = k := by omega
      exact hl.getD _
    exact ⟨bestOf_le hv hp hi, fun e => bestOf_least hv hp hi e⟩
theorem keyFacts {h : House} (hv : Valid h) : ∃ j : Nat, j < h.ms.length ∧ keyOf h = (j : Int) ∧ ∀ k : Nat, k < h.ms.length → (lateOf h (bestOf h (k : Int))).length ≤ (lateOf h (bestOf h (j : Int))).length ∧ ((lateOf h (bestOf h (k : Int))).length = (lateOf h (bestOf h (j : Int))).length → j ≤ k) := by
  obtain ⟨h1, h2⟩ := keyTo_max h h.ms.length
  obtain ⟨j, hj, e1, e2⟩ := h2 (by have := hv.m1; omega)
  refine ⟨j, hj, e1, fun k hk => ?_⟩
  have := h1 k hk
  rw [e1, e2] at this
  unfold lateN at this
  exact ⟨by omega, fun e => by have := this.2 (by omega); omega⟩

set_option maxRecDepth 100000 in
set_option maxHeartbeats 16000000 in
theorem trainsEach_any (vm vb vt vp : Value) (h : House) (plan : List (List Int)) (mach : Int) (H : Snap) (w : World) (hw : Holds H w) (hh : Hou H vm vb vt h) (hp : Sl H vp plan) :
    Calls Try.prog 14 #[houV vm vb vt h, vp, .int .i64 mach] w (PostV w (.bool true)) := by
  obtain ⟨ap, cp, rfl, _, _⟩ := hp.form
  obtain ⟨at', ct, rfl, _, _⟩ := hh.t.form
  cases hr : readyB h
  · go_enter Try.func14, Try.ntmps14
    go_wp2_with (first
      | (have hgd := x2; clear hgd; go_at_call 16; refine (works_any H1 _ x2.holds).mono ?_; rintro e w3 ⟨rfl, hb3⟩; have x3 := x2.step (hb3.mono x2.below.size) (x2.holds.below hb3))
      | (have hgd := hx; clear hgd; go_at_call 15; refine (ready_any _ _ _ _ H1 _ hw1 (hh.mono hle)).mono ?_; rintro e w2 ⟨rfl, hb2⟩; rw [hr]; have x2 := hx.step (hb2.mono hx.below.size) (hw1.below hb2))
      | (refine wpList_boxF rfl _ rfl (Ext.refl hw) ?_; intro B w1 H1 hle hx hB hBw; obtain ⟨hc0, hc1, hc2, hc3⟩ := cellsHou hB; clear hB hw; have hw1 := hx.holds))
    go_ret
    exact ⟨rfl, x3.below⟩
  · cases hl : long plan
    · have hls : plan.length ≤ 40 ∧ ∀ l ∈ plan, l.length ≤ 40 := by
        unfold long at hl
        simp only [Bool.or_eq_false_iff, decide_eq_false_iff_not, List.any_eq_false, decide_eq_true_eq] at hl
        exact ⟨by omega, fun l hm => by have := hl.2 l hm; omega⟩
      have hsz : plan.flatten.length ≤ 1000000 := by
        have key : ∀ (p : List (List Int)), (∀ l ∈ p, l.length ≤ 40) → p.flatten.length ≤ 40 * p.length := by
          intro p
          induction p with
          | nil => intro _; simp
          | cons l p ih => intro hm; have h1 := ih (fun x hx => hm x (by simp [hx])); have h2 := hm l (by simp); simp only [List.flatten_cons, List.length_append, List.length_cons]; omega
        have := key plan hls.2
        omega
      have hpl0 : plan.length ≤ 1000000 := by omega
      have hs2 : ∀ l ∈ plan, l.length ≤ 1000000 := fun l hm => by have := hls.2 l hm; omega
      have hv := readyB_valid hr
      cases hpl : isPlan h plan
      · go_enter Try.func14, Try.ntmps14
        go_wp2_with (first
          | (have hgd := x4; clear hgd; go_at_call 16; refine (works_any H1 _ x4.holds).mono ?_; rintro e w5 ⟨rfl, hb5⟩; have x5 := x4.step (hb5.mono x4.below.size) (x4.holds.below hb5))
          | (have hgd := x3; clear hgd; go_at_call 61; refine (isPlan4_any _ _ _ _ _ _ H1 _ x3.holds (hh.mono hle) (hp.mono hle) hsz).mono ?_; rintro e w4 ⟨rfl, hb4⟩; rw [hpl]; have x4 := x3.step (hb4.mono x3.below.size) (x3.holds.below hb4))
          | (have hgd := x2; clear hgd; go_at_call 46; refine (long_any _ _ H1 _ x2.holds (hp.mono hle)).mono ?_; rintro e w3 ⟨rfl, hb3⟩; rw [hl]; have x3 := x2.step (hb3.mono x2.below.size) (x2.holds.below hb3); have hw3 := x3.holds)
          | (have hgd := hx; clear hgd; go_at_call 15; refine (ready_any _ _ _ _ H1 _ hw1 (hh.mono hle)).mono ?_; rintro e w2 ⟨rfl, hb2⟩; rw [hr]; have x2 := hx.step (hb2.mono hx.below.size) (hw1.below hb2); have hw2 := x2.holds)
          | (refine wpList_boxF rfl _ rfl (Ext.refl hw) ?_; intro B w1 H1 hle hx hB hBw; obtain ⟨hc0, hc1, hc2, hc3⟩ := cellsHou hB; clear hB hw; have hw1 := hx.holds))
        go_ret
        exact ⟨rfl, x5.below⟩
      · have hlate : lateA h plan = lateOf h plan := by unfold lateA; rw [valid_iff.2 hv, hpl]; rfl
        have hle0 : errA (valid h) (isPlan h plan) = 0 := by rw [valid_iff.2 hv, hpl]; rfl
        have he0 : errT (valid h) = 0 := by rw [valid_iff.2 hv]; rfl
        obtain ⟨hk1, hk2⟩ := bestOf_known hv
        obtain ⟨hpb, hib⟩ := bestOf_plan hv (-1)
        have hf1 : (lateOf h (bestOf h (-1))).length ≤ (lateOf h plan).length := bestOf_le hv hpl (fun i hi => by omega)
        have hf2 := bestOf_least hv hpl (c := -1) (fun i hi => by omega)
        unfold lateN at hf2
        have hf3 : (lateOf h plan).length ≤ h.ts.length := lateList_len h _ _
        have hlenP : plan.length = (bestOf h (-1)).length := by rw [(isPlan_iff.1 hpl).1, (isPlan_iff.1 hpb).1]
        have hstop : ∀ k : Nat, k < h.ms.length → isPlan h (bestOf h (k : Int)) = true ∧ At (bestOf h (k : Int)) k [] ∧ (lateOf h (bestOf h (-1))).length ≤ (lateOf h (bestOf h (k : Int))).length ∧
            ∀ l, At plan k l → l = [] → (lateOf h (bestOf h (k : Int))).length ≤ (lateOf h plan).length ∧ ((lateOf h plan).length = (lateOf h (bestOf h (k : Int))).length → lessP plan (bestOf h (k : Int)) = false) := fun k hk =>
          ⟨(stopFacts hv hpl hk).pl, (stopFacts hv hpl hk).at_, (stopFacts hv hpl hk).le, (stopFacts hv hpl hk).own⟩
        have hkey := keyFacts hv
        have cF : ∀ (H' : Snap) (w : World), Holds H' w → SLe H H' → Calls Try.prog 34 #[houV vm vb (.slice at' h.ts.length ct) h] w (PostV w (.int .i64 ((lateOf h (bestOf h (-1))).length : Int))) := fun H' w hw k => by
          rw [← hk1]; exact fewestL_any _ _ _ _ hv H' w hw (hh.mono k)
        have cL : ∀ (vq : Value) (H' : Snap) (w : World), Holds H' w → SLe H H' → Sl H' vq plan → Calls Try.prog 38 #[houV vm vb (.slice at' h.ts.length ct) h, vq] w (Post w H' fun v H' => ∃ u, v = .tuple #[u, .int .i64 0] ∧ Sl H' u (lateOf h plan)) := fun vq H' w hw k hq => by
          rw [← hlate, ← hle0]; exact lateA_any _ _ _ _ _ _ H' w hw (hh.mono k) hq
        have cP : ∀ (H' : Snap) (w : World), Holds H' w → SLe H H' → Calls Try.prog 57 #[houV vm vb (.slice at' h.ts.length ct) h] w (Post w H' fun v H' => ∃ u, v = .tuple #[u, .int .i64 0] ∧ Sl H' u (bestOf h (-1))) := fun H' w hw k => by
          rw [← hk2, ← he0]; exact planT_any _ _ _ _ H' w hw (hh.mono k)
        replace hlate := Lib.hid hlate
        replace hle0 := Lib.hid hle0
        replace hk1 := Lib.hid hk1
        replace hk2 := Lib.hid hk2
        replace hstop := Lib.hid hstop
        replace hkey := Lib.hid hkey
        replace hf2 := Lib.hid hf2
        replace hlenP := Lib.hid hlenP
        replace cF := Lib.hid cF
        replace cL := Lib.hid cL
        replace cP := Lib.hid cP
        replace hs2 := Lib.hid hs2
        replace hls := Lib.hid hls
        go_enter Try.func14, Try.ntmps14
        go_upto_region 4 with (first
          | (have hgd := x4; clear hgd; go_at_call 34; refine (cF.out H1 _ x4.holds hle).mono ?_; rintro e w5 ⟨rfl, hb5⟩; have x5 := x4.step (hb5.mono x4.below.size) (x4.holds.below hb5); have hw5 := x5.holds)
          | (have hgd := x3; clear hgd; go_at_call 61; refine (isPlan4_any _ _ _ _ _ _ H1 _ x3.holds (hh.mono hle) (hp.mono hle) hsz).mono ?_; rintro e w4 ⟨rfl, hb4⟩; rw [hpl]; have x4 := x3.step (hb4.mono x3.below.size) (x3.holds.below hb4); have hw4 := x4.holds)
          | (have hgd := x2; clear hgd; go_at_call 46; refine (long_any _ _ H1 _ x2.holds (hp.mono hle)).mono ?_; rintro e w3 ⟨rfl, hb3⟩; rw [hl]; have x3 := x2.step (hb3.mono x2.below.size) (x2.holds.below hb3); have hw3 := x3.holds)
          | (have hgd := hx; clear hgd; go_at_call 15; refine (ready_any _ _ _ _ H1 _ hw1 (hh.mono hle)).mono ?_; rintro e w2 ⟨rfl, hb2⟩; rw [hr]; have x2 := hx.step (hb2.mono hx.below.size) (hw1.below hb2); have hw2 := x2.holds)
          | (refine wpList_boxF rfl _ rfl (Ext.refl hw) ?_; intro B w1 H1 hle hx hB hBw; obtain ⟨hc0, hc1, hc2, hc3⟩ := cellsHou hB; clear hB hw; have hw1 := hx.holds))
        clear x2 x3 x4 hw1 hw2 hw3 hw4 hb2 hb3 hb4 hb5 hx
        generalize hown : lateOf h plan = own at *
        generalize hLP : lateOf h (bestOf h (-1)) = LP at *
        go_cut [8, 9] (fun u e wc => e = .int .i64 0 ∧ ∃ H8, Ext w H wc H8 ∧ SLe H1 H8 ∧ Sl H8 u own)
        case first =>
          go_region_held3 (fun w' => Holds H1 w' ∧ Ext w H w' H1) (first | assumption | exact ⟨by assumption, by assumption⟩ | (go_split_ands; exact ⟨Holds.drew (by assumption), Ext.drew (by assumption)⟩)) (first
            | (have hgd := y6; clear hgd; go_split_ands; go_at_call 38; refine (cL.out _ H6 _ y6.holds (hle.trans l6) s6).mono ?_; rintro e w7 ⟨v7, H7, rfl, y7, u7, rfl, s7⟩; obtain ⟨a7, c7, rfl, _, _⟩ := s7.form; have hk7 : Holds H1 w7 := hk6.below y7.below; have x7 : Ext w H w7 H1 := x6.step (y7.below.mono x6.below.size) hk7; have q7 : Ext w H w7 H7 := q6.trans y7; have l7 : SLe H1 H7 := l6.trans (y7.le y6.holds))
            | (go_split_ands; go_at_call 47; refine (copyP_any _ _ H1 _ (by assumption) (hp.mono hle) hpl0 hs2.out).mono ?_; rintro e w6 ⟨v6, H6, rfl, y6, s6⟩; obtain ⟨a6, c6, rfl, _, _⟩ := s6.form; have hk6 : Holds H1 w6 := y6.old (by assumption); have x6 : Ext w H w6 H1 := (by assumption : Ext w H _ H1).step (y6.below.mono (by assumption : Ext w H _ H1).below.size) hk6; have q6 : Ext w H w6 H6 := (by assumption : Ext w H _ H1).trans y6; have l6 := y6.le (by assumption : Holds H1 _)))
          all_goals
            go_wp2_with fail
            go_meet
            exact ⟨rfl, H7, q7, l7, s7⟩
        case rest =>
          obtain ⟨rfl, H8, x8, l8, s8⟩ := hcut
          obtain ⟨a8, c8, rfl, _, _⟩ := s8.form
          replace hc0 := lift l8 hc0
          replace hc1 := lift l8 hc1
          replace hc2 := lift l8 hc2
          replace hc3 := lift l8 hc3
          have hw8 := x8.holds
          replace hle := hle.trans l8
          have hszP : (bestOf h (-1)).flatten.length ≤ 1000000 := by have := isPlan_len hpb; have := hv.b5; omega
          clear x5 hw5 l8 hib
          go_upto_region 6 with (first
            | (have hgd := x8; clear hgd; go_at_call 57; refine (cP.out H8 _ x8.holds hle).mono ?_; rintro e w9 ⟨v9, H9, rfl, y9, u9, rfl, s9⟩; obtain ⟨a9, c9, rfl, _, _⟩ := s9.form; have x9 := x8.trans y9; have l9 := y9.le x8.holds; have hw9 := x9.holds; replace hc0 := lift l9 hc0; replace hc1 := lift l9 hc1; replace hc2 := lift l9 hc2; replace hc3 := lift l9 hc3))
          generalize bestOf h (-1) = P at *
          replace hle := hle.trans l9
          have hf1I : ¬ ((own.length : Int) < (LP.length : Int)) := by omega
          have hf1N : ¬ (own.length < LP.length) := by omega
          have hf3I : ¬ ((h.ts.length : Int) < (own.length : Int)) := by omega
          have hf3N : ¬ (h.ts.length < own.length) := by omega
          clear x8 hw8
          go_cut [102] (fun b wc => b = .bool false ∧ ∃ H10, Ext w H wc H10 ∧ SLe H9 H10)
          case first =>
            have hhm := hh.mono hle
            have hpm := hp.mono hle
            cases e1 : ((own.length : Int) == (LP.length : Int))
            · go_wp2_with (first
                | (have hgd := x11; clear hgd; go_at_call 63; refine (lateOf4_any _ _ _ _ _ _ H9 _ x11.holds hhm s9 hv hpb).mono ?_; rintro e w12 ⟨v12, H12, rfl, y12, s12⟩; obtain ⟨a12, c12, rfl, _, _⟩ := s12.form; have x12 := x11.trans y12; have l12 := y12.le x11.holds; have hw12 := x12.holds; rw [hLP] at s12 ⊢)
                | (have hgd := x10; clear hgd; go_at_call 61; refine (isPlan4_any _ _ _ _ _ _ H9 _ x10.holds hhm s9 hszP).mono ?_; rintro e w11 ⟨rfl, hb11⟩; rw [hpb]; have x11 := x10.step (hb11.mono x10.below.size) (x10.holds.below hb11); have hw11 := x11.holds)
                | (have hgd := x9; clear hgd; go_at_call 62; refine (short_any _ _ _ _ _ _ hpb H9 _ x9.holds hhm s9).mono ?_; rintro e w10 ⟨rfl, hb10⟩; have x10 := x9.step (hb10.mono x9.below.size) (x9.holds.below hb10); have hw10 := x10.holds))
              go_meet
              exact ⟨rfl, H12, x12, l12⟩
            · have hls1 : lessP plan P = false := hf2.out (by have := beq_iff_eq.1 e1; omega)
              go_wp2_with (first
                | (have hgd := x12; clear hgd; go_at_call 64; refine (less_any _ _ _ _ hlenP.out H12 _ x12.holds (hpm.mono l12) (s9.mono l12)).mono ?_; rintro e w13 ⟨rfl, hb13⟩; rw [hls1]; have x13 := x12.step (hb13.mono x12.below.size) (x12.holds.below hb13); have hw13 := x13.holds)
                | (have hgd := x11; clear hgd; go_at_call 63; refine (lateOf4_any _ _ _ _ _ _ H9 _ x11.holds hhm s9 hv hpb).mono ?_; rintro e w12 ⟨v12, H12, rfl, y12, s12⟩; obtain ⟨a12, c12, rfl, _, _⟩ := s12.form; have x12 := x11.trans y12; have l12 := y12.le x11.holds; have hw12 := x12.holds; rw [hLP] at s12 ⊢)
                | (have hgd := x10; clear hgd; go_at_call 61; refine (isPlan4_any _ _ _ _ _ _ H9 _ x10.holds hhm s9 hszP).mono ?_; rintro e w11 ⟨rfl, hb11⟩; rw [hpb]; have x11 := x10.step (hb11.mono x10.below.size) (x10.holds.below hb11); have hw11 := x11.holds)
                | (have hgd := x9; clear hgd; go_at_call 62; refine (short_any _ _ _ _ _ _ hpb H9 _ x9.holds hhm s9).mono ?_; rintro e w10 ⟨rfl, hb10⟩; have x10 := x9.step (hb10.mono x9.below.size) (x9.holds.below hb10); have hw10 := x10.holds))
              go_meet
              exact ⟨rfl, H12, x13, l12⟩
          case rest =>
            obtain ⟨rfl, H10, x10, l10⟩ := hcut
            replace hc0 := lift l10 hc0
            replace hc1 := lift l10 hc1
            replace hc2 := lift l10 hc2
            replace hc3 := lift l10 hc3
            have hw10 := x10.holds
            replace hle := hle.trans l10
            have hhm := hh.mono hle
            have hpm := hp.mono hle
            replace s8 := (s8.mono l9).mono l10
            clear x9 hw9 s9 l9 l10 hpb hszP hf2 hlenP hf1I hf1N hf3I hf3N cP cL cF hLP
            cases hm : within mach 0 ((h.ms.length : Int) - 1)
            · go_wp2_with (first
                | (have hgd := x11; clear hgd; go_at_call 16; refine (works_any H10 _ x11.holds).mono ?_; rintro e w12 ⟨rfl, hb12⟩; have x12 := x11.step (hb12.mono x11.below.size) (x11.holds.below hb12); have hw12 := x12.holds)
                | (have hgd := x10; clear hgd; go_at_call 65; refine (isMachine4_any _ _ _ _ _ H10 _ x10.holds hhm).mono ?_; rintro e w11 ⟨rfl, hb11⟩; rw [hm]; have x11 := x10.step (hb11.mono x10.below.size) (x10.holds.below hb11); have hw11 := x11.holds))
              go_ret
              exact ⟨rfl, x12.below⟩
            · have hmb := within_iff.1 hm
              obtain ⟨k, rfl⟩ := Int.eq_ofNat_of_zero_le hmb.1
              have hkl : k < h.ms.length := by omega
              obtain ⟨hq1, hq2, hq3, hq4⟩ := hstop.out k hkl
              have hwo := withoutOf_known hv hm
              have heA : errA (valid h) (within (k : Int) 0 ((h.ms.length : Int) - 1)) = 0 := by rw [hm, valid_iff.2 hv]; rfl
              have cW : ∀ (H' : Snap) (w : World), Holds H' w → SLe H H' → Calls Try.prog 59 #[houV vm vb (.slice at' h.ts.length ct) h, .int .i64 (k : Int)] w (Post w H' fun v H' => ∃ u, v = .tuple #[u, .int .i64 0] ∧ Sl H' u (bestOf h (k : Int))) := fun H' w hw k => by
                rw [← hwo, ← heA]; exact withoutT_any _ _ _ _ _ H' w hw (hh.mono k)
              have hszQ : (bestOf h (k : Int)).flatten.length ≤ 1000000 := by have := isPlan_len hq1; have := hv.b5; omega
              have hlenQ : plan.length = (bestOf h (k : Int)).length := by rw [(isPlan_iff.1 hpl).1, (isPlan_iff.1 hq1).1]
              obtain ⟨j, hj, hjk, hkf⟩ := hkey.out
              obtain ⟨hz1, hz2⟩ := hkf k hkl
              obtain ⟨hr1, _, _, _⟩ := hstop.out j hj
              have hmj : within (j : Int) 0 ((h.ms.length : Int) - 1) = true := within_iff.2 (by omega)
              have hwoj := withoutOf_known hv hmj
              have heJ : errA (valid h) (within (j : Int) 0 ((h.ms.length : Int) - 1)) = 0 := by rw [hmj, valid_iff.2 hv]; rfl
              have cWj : ∀ (H' : Snap) (w : World), Holds H' w → SLe H H' → Calls Try.prog 59 #[houV vm vb (.slice at' h.ts.length ct) h, .int .i64 (j : Int)] w (Post w H' fun v H' => ∃ u, v = .tuple #[u, .int .i64 0] ∧ Sl H' u (bestOf h (j : Int))) := fun H' w hw k => by
                rw [← hwoj, ← heJ]; exact withoutT_any _ _ _ _ _ H' w hw (hh.mono k)
              have cK : ∀ (H' : Snap) (w : World), Holds H' w → SLe H H' → Calls Try.prog 43 #[houV vm vb (.slice at' h.ts.length ct) h] w (PostV w (.tuple #[.int .i64 (j : Int), .int .i64 0])) := fun H' w hw k => by
                have := keyT_any _ _ _ _ H' w hw (hh.mono k)
                rw [valid_iff.2 hv, if_pos rfl, hjk] at this
                exact this
              have hszR : (bestOf h (j : Int)).flatten.length ≤ 1000000 := by have := isPlan_len hr1; have := hv.b5; omega
              obtain ⟨lp, hlp⟩ := At.mk (xs := plan) (k := k) (by rw [(isPlan_iff.1 hpl).1]; exact hkl)
              have hown2 := hq4 lp hlp
              have hqa : (k : Int) < ((bestOf h (k : Int)).length : Int) := by have := hq2.lt; omega
              have hqp : (k : Int) < (plan.length : Int) := by have := hlp.lt; omega
              have hk0 : 0 ≤ (k : Int) := by omega
              clear hq4 hkf hwo heA hwoj heJ hjk hkey hstop
              generalize hLQ : lateOf h (bestOf h (k : Int)) = LQ at *
              generalize hLR : lateOf h (bestOf h (j : Int)) = LR at *
              generalize bestOf h (k : Int) = Q at *
              generalize bestOf h (j : Int) = Rr at *
              replace cW := Lib.hid cW
              replace cWj := Lib.hid cWj
              replace cK := Lib.hid cK
              replace hown2 := Lib.hid hown2
              replace hlenQ := Lib.hid hlenQ
              have hz1I : (LQ.length : Int) ≤ (LR.length : Int) := by omega
              replace hz2 := Lib.hid hz2
              have hq3I : ¬ ((LQ.length : Int) < (LP.length : Int)) := by omega
              have hq3N : ¬ (LQ.length < LP.length) := by omega
              go_upto_region 11 with (first
                | (have hgd := x11; clear hgd; go_at_call 59; refine (cW.out H10 _ x11.holds hle).mono ?_; rintro e w12 ⟨v12, H12, rfl, y12, u12, rfl, s12⟩; obtain ⟨a12, c12, rfl, _, _⟩ := s12.form; have x12 := x11.trans y12; have l12 := y12.le x11.holds; have hw12 := x12.holds; replace hc0 := lift l12 hc0; replace hc1 := lift l12 hc1; replace hc2 := lift l12 hc2; replace hc3 := lift l12 hc3)
                | (have hgd := x10; clear hgd; go_at_call 65; refine (isMachine4_any _ _ _ _ _ H10 _ x10.holds hhm).mono ?_; rintro e w11 ⟨rfl, hb11⟩; rw [hm]; have x11 := x10.step (hb11.mono x10.below.size) (x10.holds.below hb11); have hw11 := x11.holds))
              obtain ⟨bq, oq, cq, uq, he, huq, hrq⟩ := s12.list hq2
              cases he
              obtain ⟨aq, cq', rfl, _, _⟩ := huq.form
              replace hle := hle.trans l12
              replace hhm := hh.mono hle
              go_upto_region 14 with (first
                | (have hgd := x14; clear hgd; go_at_call 63; refine (lateOf4_any _ _ _ _ _ _ H12 _ x14.holds hhm s12 hv hq1).mono ?_; rintro e w15 ⟨v15, H15, rfl, y15, s15⟩; obtain ⟨a15, c15, rfl, _, _⟩ := s15.form; have x15 := x14.trans y15; have l15 := y15.le x14.holds; have hw15 := x15.holds; rw [hLQ] at s15 ⊢; replace hc0 := lift l15 hc0; replace hc1 := lift l15 hc1; replace hc2 := lift l15 hc2; replace hc3 := lift l15 hc3)
                | (have hgd := x13; clear hgd; go_at_call 61; refine (isPlan4_any _ _ _ _ _ _ H12 _ x13.holds hhm s12 hszQ).mono ?_; rintro e w14 ⟨rfl, hb14⟩; rw [hq1]; have x14 := x13.step (hb14.mono x13.below.size) (x13.holds.below hb14); have hw14 := x14.holds)
                | (have hgd := x12; clear hgd; go_at_call 62; refine (short_any _ _ _ _ _ _ hq1 H12 _ x12.holds hhm s12).mono ?_; rintro e w13 ⟨rfl, hb13⟩; have x13 := x12.step (hb13.mono x12.below.size) (x12.holds.below hb13); have hw13 := x13.holds))
              replace hle := hle.trans l15
              replace s8 := (s8.mono l12).mono l15
              replace s12 := s12.mono l15
              clear x10 x12 x13 x14 hw10 hw12 hw13 hw14 hb11 hb13 hb14
              obtain ⟨bp, op, cpp, up, he, hup, hrp⟩ := (hp.mono hle).list hlp
              cases he
              obtain ⟨alp, clp, rfl, _, _⟩ := hup.form
              go_cut [167] (fun b wc => b = .bool false ∧ Ext w H wc H15)
              case first =>
                cases e2 : ((lp.length : Int) == 0)
                · go_wp2_with fail
                  go_meet
                  exact ⟨rfl, x15⟩
                · have hlpn : lp = [] := List.eq_nil_of_length_eq_zero (by have := beq_iff_eq.1 e2; omega)
                  obtain ⟨ho1, ho2⟩ := hown2.out hlpn
                  have ho1I : ¬ ((own.length : Int) < (LQ.length : Int)) := by omega
                  have ho1N : ¬ (own.length < LQ.length) := by omega
                  replace hlpn := Lib.hid hlpn
                  replace ho2 := Lib.hid ho2
                  cases e3 : ((own.length : Int) == (LQ.length : Int))
                  · go_wp2_with fail
                    go_meet
                    exact ⟨rfl, x15⟩
                  · have hls2 : lessP plan Q = false := ho2.out (by have := beq_iff_eq.1 e3; omega)
                    go_wp2_with (first
                      | (have hgd := x15; clear hgd; go_at_call 64; refine (less_any _ _ _ _ hlenQ.out H15 _ x15.holds (hp.mono hle) s12).mono ?_; rintro e w16 ⟨rfl, hb16⟩; rw [hls2]; have x16 := x15.step (hb16.mono x15.below.size) (x15.holds.below hb16); have hw16 := x16.holds))
                    go_meet
                    exact ⟨rfl, x16⟩
              case rest =>
                obtain ⟨rfl, x16⟩ := hcut
                have hw16 := x16.holds
                replace hhm := hh.mono hle
                clear x15 hw15 hown2 hlenQ
                have hkj : (LQ.length : Int) < (LR.length : Int) ∨ (j : Int) ≤ (k : Int) := by
                  rcases Nat.lt_or_ge LQ.length LR.length with h1 | h1
                  · exact .inl (by omega)
                  · exact .inr (by have := hz2.out (by omega); omega)
                clear hz2
                rcases hkj with hkj | hkj
                all_goals
                  go_wp2_with (first
                    | (have hgd := x22; clear hgd; go_at_call 16; refine (works_any H22 _ x22.holds).mono ?_; rintro e w23 ⟨rfl, hb23⟩; have x23 := x22.step (hb23.mono x22.below.size) (x22.holds.below hb23); have hw23 := x23.holds)
                    | (have hgd := x21; clear hgd; go_at_call 63; refine (lateOf4_any _ _ _ _ _ _ H19 _ x21.holds hhm2 s19 hv hr1).mono ?_; rintro e w22 ⟨v22, H22, rfl, y22, s22⟩; obtain ⟨a22, c22, rfl, _, _⟩ := s22.form; have x22 := x21.trans y22; have l22 := y22.le x21.holds; have hw22 := x22.holds; rw [hLR] at s22 ⊢)
                    | (have hgd := x20; clear hgd; go_at_call 61; refine (isPlan4_any _ _ _ _ _ _ H19 _ x20.holds hhm2 s19 hszR).mono ?_; rintro e w21 ⟨rfl, hb21⟩; rw [hr1]; have x21 := x20.step (hb21.mono x20.below.size) (x20.holds.below hb21); have hw21 := x21.holds)
                    | (have hgd := x19; clear hgd; go_at_call 62; refine (short_any _ _ _ _ _ _ hr1 H19 _ x19.holds hhm2 s19).mono ?_; rintro e w20 ⟨rfl, hb20⟩; have x20 := x19.step (hb20.mono x19.below.size) (x19.holds.below hb20); have hw20 := x20.holds)
                    | (have hgd := x18; clear hgd; go_at_call 59; refine (cWj.out H15 _ x18.holds hle).mono ?_; rintro e w19 ⟨v19, H19, rfl, y19, u19, rfl, s19⟩; obtain ⟨a19, c19, rfl, _, _⟩ := s19.form; have x19 := x18.trans y19; have l19 := y19.le x18.holds; have hw19 := x19.holds; replace hc0 := lift l19 hc0; replace hc1 := lift l19 hc1; replace hc2 := lift l19 hc2; replace hc3 := lift l19 hc3; have hhm2 := hhm.mono l19)
                    | (have hgd := x17; clear hgd; go_at_call 65; refine (isMachine4_any _ _ _ _ _ H15 _ x17.holds hhm).mono ?_; rintro e w18 ⟨rfl, hb18⟩; rw [hmj]; have x18 := x17.step (hb18.mono x17.below.size) (x17.holds.below hb18); have hw18 := x18.holds)
                    | (have hgd := x16; clear hgd; go_at_call 43; refine (cK.out H15 _ x16.holds hle).mono ?_; rintro e w17 ⟨rfl, hb17⟩; have x17 := x16.step (hb17.mono x16.below.size) (x16.holds.below hb17); have hw17 := x17.holds))
                  all_goals first
                    | (exfalso; omega)
                    | (go_ret; exact ⟨rfl, x23.below⟩)
    · go_enter Try.func14, Try.ntmps14
      go_wp2_with (first
        | (have hgd := x3; clear hgd; go_at_call 16; refine (works_any H1 _ x3.holds).mono ?_; rintro e w4 ⟨rfl, hb4⟩; have x4 := x3.step (hb4.mono x3.below.size) (x3.holds.below hb4))
        | (have hgd := x2; clear hgd; go_at_call 46; refine (long_any _ _ H1 _ x2.holds (hp.mono hle)).mono ?_; rintro e w3 ⟨rfl, hb3⟩; rw [hl]; have x3 := x2.step (hb3.mono x2.below.size) (x2.holds.below hb3); have hw3 := x3.holds)
        | (have hgd := hx; clear hgd; go_at_call 15; refine (ready_any _ _ _ _ H1 _ hw1 (hh.mono hle)).mono ?_; rintro e w2 ⟨rfl, hb2⟩; rw [hr]; have x2 := hx.step (hb2.mono hx.below.size) (hw1.below hb2); have hw2 := x2.holds)
        | (refine wpList_boxF rfl _ rfl (Ext.refl hw) ?_; intro B w1 H1 hle hx hB hBw; obtain ⟨hc0, hc1, hc2, hc3⟩ := cellsHou hB; clear hB hw; have hw1 := hx.holds))
      go_ret
      exact ⟨rfl, x4.below⟩

end Go.Proofs.Yteijmboophnmgaa
