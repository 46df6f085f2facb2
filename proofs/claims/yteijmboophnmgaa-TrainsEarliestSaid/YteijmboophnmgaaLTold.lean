/- The walk of flonglaw04.TrainsTold. -/
import Derived.Test.YteijmboophnmgaaHelp
import Derived.Test.YteijmboophnmgaaLater
namespace Go.Proofs.Yteijmboophnmgaa
open Go.RowKit

attribute [local go_sem] Holds.drew Holds.alloc Holds.drewN WB.holds

theorem readyB_valid {h : House} (hr : readyB h = true) : Valid h := by
  unfold readyB at hr
  rw [Bool.and_eq_true] at hr
  exact valid_iff.1 hr.2

set_option maxRecDepth 100000 in
set_option maxHeartbeats 8000000 in
theorem trainsTold_any (vm vb vt vl : Value) (h : House) (l : List Int) (H : Snap) (w : World) (hw : Holds H w) (hh : Hou H vm vb vt h) (hl : Sl H vl l) :
    Calls Try.prog 3 #[houV vm vb vt h, vl] w (PostV w (.bool true)) := by
  obtain ⟨al, cl, rfl, _, _⟩ := hl.form
  obtain ⟨at', ct, rfl, _, _⟩ := hh.t.form
  cases hr : readyB h
  · go_enter Try.func3, Try.ntmps3
    go_wp2_with (first
      | (have hgd := x2; clear hgd; go_at_call 16; refine (works_any H1 _ x2.holds).mono ?_; rintro e w3 ⟨rfl, hb3⟩; have x3 := x2.step (hb3.mono x2.below.size) (x2.holds.below hb3))
      | (have hgd := hx; clear hgd; go_at_call 15; refine (ready_any _ _ _ _ H1 _ hw1 (hh.mono hle)).mono ?_; rintro e w2 ⟨rfl, hb2⟩; rw [hr]; have x2 := hx.step (hb2.mono hx.below.size) (hw1.below hb2); have hw2 := x2.holds)
      | (refine wpList_boxF rfl _ rfl (Ext.refl hw) ?_; intro B w1 H1 hle hx hB hBw; obtain ⟨hc0, hc1, hc2, hc3⟩ := cellsHou hB; clear hB hw; have hw1 := hx.holds))
    go_ret
    exact ⟨rfl, x3.below⟩
  · cases hg : decide (40 < (l.length : Int))
    · have hv := readyB_valid hr
      have hl40 : l.length ≤ 40 := by have := of_decide_eq_false hg; omega
      have hb5 := hv.b5
      have hrk := ranked_rising hv.t4 _ (toldOf_ranked hv).1
      have htn := toldOf_nil hv
      have hts := (toldOf_ranked hv).2.1
      have htm := @toldOf_min h hv l
      have hv2 := less_valid hv (toldOf h)
      have hs2 := less_sure hv (toldOf h)
      have hv3 := less_valid hv l
      have hs3 := less_sure hv l
      have htold := fun vm vb vt H w hw hh => toldL_any vm vb vt h hv H w hw hh
      obtain ⟨tl, htl⟩ : ∃ tl, Hid (tl = toldOf h) := ⟨_, rfl⟩
      simp only [← htl.out] at hrk htn hts htm hv2 hs2 htold
      rw [hts] at hs2
      have hsure2 := fun vm vb vt H w hw hh => sureL_any vm vb vt (lessH h tl) hv2 H w hw hh
      rw [hs2] at hsure2
      have hn0 : sureB h [] = ((tl.length : Int) == 0) := by
        rw [Bool.eq_iff_iff, beq_iff_eq, ← htn, ← List.length_eq_zero_iff]; omega
      replace htold := Lib.hid htold
      replace hsure2 := Lib.hid hsure2
      replace htm := Lib.hid htm
      replace hs3 := Lib.hid hs3
      have hbx : h.bs.length ≤ 1000000 := by omega
      cases hz : ((tl.length : Int) == 0)
      all_goals
        rw [hz] at hn0
        go_enter Try.func3, Try.ntmps3
        go_upto_region 10 with (first
          | (have hgd := x5; clear hgd; go_at_call 18; refine (hsure2.out _ _ _ H5 _ x5.holds hh5).mono ?_; rintro e w6 ⟨rfl, hb6⟩; have x6 := x5.step (hb6.mono x5.below.size) (x5.holds.below hb6))
          | (have hgd := x4; clear hgd; go_at_call 19; refine (without_any _ _ _ _ h tl hbx H3 _ x4.holds ((hh.mono hle).mono l3) s3).mono ?_; rintro e w5 ⟨v5, H5, rfl, y5, um, ub, ut, rfl, hh5⟩; have x5 := x4.trans y5; have l5 := y5.le x4.holds; have e0 := lift l5 hd0; have e1 := lift l5 hd1; have e2 := lift l5 hd2; have e3 := lift l5 hd3; have hw5 := x5.holds)
          | (have hgd := x3; clear hgd; go_at_call 18; refine (sureL_any _ _ _ h hv H3 _ x3.holds ((hh.mono hle).mono l3)).mono ?_; rintro e w4 ⟨rfl, hb4⟩; rw [hn0]; have x4 := x3.step (hb4.mono x3.below.size) (x3.holds.below hb4); have hw4 := x4.holds)
          | (have hgd := x2; clear hgd; go_at_call 17; go_must (refine (htold.out _ _ _ H1 _ x2.holds (hh.mono hle)).mono ?_); rintro e w3 ⟨v3, H3, rfl, y3, u3, rfl, s3⟩; obtain ⟨a3, c3, rfl, _, _⟩ := s3.form; have x3 := x2.trans y3; have l3 := y3.le x2.holds; have hd0 := lift l3 hc0; have hd1 := lift l3 hc1; have hd2 := lift l3 hc2; have hd3 := lift l3 hc3; have hw3 := x3.holds)
          | (have hgd := hx; clear hgd; go_at_call 15; refine (ready_any _ _ _ _ H1 _ hw1 (hh.mono hle)).mono ?_; rintro e w2 ⟨rfl, hb2⟩; rw [hr]; have x2 := hx.step (hb2.mono hx.below.size) (hw1.below hb2); have hw2 := x2.holds)
          | (refine wpList_boxF rfl _ rfl (Ext.refl hw) ?_; intro B w1 H1 hle hx hB hBw; obtain ⟨hc0, hc1, hc2, hc3⟩ := cellsHou hB; clear hB hw; have hw1 := hx.holds))
        have hlm := ((hl.mono hle).mono l3).mono l5
        have hsm := s3.mono l5
        have hhm := ((hh.mono hle).mono l3).mono l5
        clear hc0 hc1 hc2 hc3 hd0 hd1 hd2 hd3 hl s3 hh hh5 x2 x3 x4 x5 y3 y5 hx hw1 hb2 hb4 hb6 hw2 hw3 hw4 hw5 hsure2 htold hle l3 l5
        have hw6 := x6.holds
        have hrs : ∀ (H' : Snap) (w : World), Holds H' w → SLe H5 H' → Calls Try.prog 20 #[.slice al l.length cl, .int .i64 0, .int .i64 ((h.ts.length : Int) - 1)] w (PostV w (.bool (rising 0 ((h.ts.length : Int) - 1) l))) := fun H' w hw k => rising_any _ _ _ _ H' w hw (hlm.mono k)
        replace hrs := Lib.hid hrs
        cases hri : rising 0 ((h.ts.length : Int) - 1) l
        · go_wp2_with (first
            | (have hgd := x7; clear hgd; go_at_call 16; refine (works_any H5 _ x7.holds).mono ?_; rintro e w8 ⟨rfl, hb8⟩; have x8 := x7.step (hb8.mono x7.below.size) (x7.holds.below hb8))
            | (go_at_call 20; refine (hrs.out H5 _ hw6 (SLe.refl _)).mono ?_; rintro e w7 ⟨rfl, hb7⟩; rw [hri]; have x7 := x6.step (hb7.mono x6.below.size) (x6.holds.below hb7); have hw7 := x7.holds))
          go_ret
          exact ⟨rfl, x8.below⟩
        · have hearl : ∀ (H' : Snap) (w : World), Holds H' w → SLe H5 H' → Calls Try.prog 21 #[.slice al l.length cl, .slice a3 tl.length c3] w (PostV w (.bool (earlier l tl))) := fun H' w hw k => earlier_any _ _ _ _ H' w hw (hlm.mono k) (hsm.mono k)
          replace hearl := Lib.hid hearl
          cases her : earlier l tl
          all_goals
            go_wp2_with (first
              | (have hgd := x10; clear hgd; go_at_call 16; refine (works_any H9 _ x10.holds).mono ?_; rintro e w11 ⟨rfl, hb11⟩; have x11 := x10.step (hb11.mono x10.below.size) (x10.holds.below hb11))
              | (have hgd := x9; clear hgd; go_at_call 18; refine (sureL_any _ _ _ (lessH h l) hv3 H9 _ x9.holds hh9).mono ?_; rintro e w10 ⟨rfl, hb10⟩; have hc : sureB (lessH h l) [] = false := (by rw [hs3.out]; first | exact htm.out hri (.inl (by omega)) | exact htm.out hri (.inr ⟨by omega, her⟩)); rw [hc]; have x10 := x9.step (hb10.mono x9.below.size) (x9.holds.below hb10); have hw10 := x10.holds)
              | (go_at_call 19; refine (without_any _ _ _ _ h l hbx H5 _ x7.holds hhm hlm).mono ?_; rintro e w9 ⟨v9, H9, rfl, y9, um2, ub2, ut2, rfl, hh9⟩; have x9 := x7.trans y9)
              | (go_at_call 16; refine (works_any H5 _ x7.holds).mono ?_; rintro e w8 ⟨rfl, hb8⟩; have x8 := x7.step (hb8.mono x7.below.size) (x7.holds.below hb8))
              | (go_at_call 21; refine (hearl.out H5 _ hw7 (SLe.refl _)).mono ?_; rintro e w7' ⟨rfl, hb7'⟩; rw [her]; replace x7 := x7.step (hb7'.mono x7.below.size) (x7.holds.below hb7'); replace hw7 := x7.holds)
              | (go_at_call 20; refine (hrs.out H5 _ hw6 (SLe.refl _)).mono ?_; rintro e w7 ⟨rfl, hb7⟩; rw [hri]; have x7 := x6.step (hb7.mono x6.below.size) (x6.holds.below hb7); have hw7 := x7.holds))
            all_goals first
              | (exfalso; omega)
              | (go_ret; first | exact ⟨rfl, x11.below⟩ | exact ⟨rfl, x8.below⟩)
    · go_enter Try.func3, Try.ntmps3
      go_wp2_with (first
        | (have hgd := x2; clear hgd; go_at_call 16; refine (works_any H1 _ x2.holds).mono ?_; rintro e w3 ⟨rfl, hb3⟩; have x3 := x2.step (hb3.mono x2.below.size) (x2.holds.below hb3))
        | (have hgd := hx; clear hgd; go_at_call 15; refine (ready_any _ _ _ _ H1 _ hw1 (hh.mono hle)).mono ?_; rintro e w2 ⟨rfl, hb2⟩; rw [hr]; have x2 := hx.step (hb2.mono hx.below.size) (hw1.below hb2); have hw2 := x2.holds)
        | (refine wpList_boxF rfl _ rfl (Ext.refl hw) ?_; intro B w1 H1 hle hx hB hBw; obtain ⟨hc0, hc1, hc2, hc3⟩ := cellsHou hB; clear hB hw; have hw1 := hx.holds))
      go_ret
      exact ⟨rfl, x3.below⟩

end Go.Proofs.Yteijmboophnmgaa
