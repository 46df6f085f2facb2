/- The walk of flonglaw04.TrainsWaits. -/
import Derived.Test.YteijmboophnmgaaHelp
import Derived.Test.YteijmboophnmgaaLater
import Derived.Test.YteijmboophnmgaaLWait
import Derived.Test.YteijmboophnmgaaLTold
namespace Go.Proofs.Yteijmboophnmgaa
open Go.RowKit

attribute [local go_sem] Holds.drew Holds.alloc Holds.drewN WB.holds

theorem waitVal_in {h : House} (hv : Valid h) {t : Nat} (ht : t < h.ts.length) : waitVal h t = (if 99 - h.ts.getD t 0 < waitRaw h t then 0 else waitRaw h t) ∧ waitErr h t = (if 99 - h.ts.getD t 0 < waitRaw h t then 3 else 0) := by
  have hw : within (t : Int) 0 ((h.ts.length : Int) - 1) = true := within_iff.2 (by omega)
  unfold waitVal waitErr
  rw [valid_iff.2 hv, hw]
  simp

set_option maxRecDepth 100000 in
set_option maxHeartbeats 8000000 in
theorem trainsWaits_any (vm vb vt : Value) (h : House) (tr : Int) (H : Snap) (w : World) (hw : Holds H w) (hh : Hou H vm vb vt h) (hI : I64 tr) :
    Calls Try.prog 4 #[houV vm vb vt h, .int .i64 tr] w (PostV w (.bool true)) := by
  obtain ⟨at', ct, rfl, _, _⟩ := hh.t.form
  cases hr : readyB h
  · go_enter Try.func4, Try.ntmps4
    go_wp2_with (first
      | (have hgd := x2; clear hgd; go_at_call 16; refine (works_any H1 _ x2.holds).mono ?_; rintro e w3 ⟨rfl, hb3⟩; have x3 := x2.step (hb3.mono x2.below.size) (x2.holds.below hb3))
      | (have hgd := hx; clear hgd; go_at_call 15; refine (ready_any _ _ _ _ H1 _ hw1 (hh.mono hle)).mono ?_; rintro e w2 ⟨rfl, hb2⟩; rw [hr]; have x2 := hx.step (hb2.mono hx.below.size) (hw1.below hb2))
      | (refine wpList_boxF rfl _ rfl (Ext.refl hw) ?_; intro B w1 H1 hle hx hB hBw; obtain ⟨hc0, hc1, hc2, hc3⟩ := cellsHou hB; clear hB hw; have hw1 := hx.holds))
    go_ret
    exact ⟨rfl, x3.below⟩
  · cases hg : within tr 0 ((h.ts.length : Int) - 1)
    · go_enter Try.func4, Try.ntmps4
      go_wp2_with (first
        | (have hgd := x3; clear hgd; go_at_call 16; refine (works_any H1 _ x3.holds).mono ?_; rintro e w4 ⟨rfl, hb4⟩; have x4 := x3.step (hb4.mono x3.below.size) (x3.holds.below hb4))
        | (have hgd := x2; clear hgd; go_at_call 22; refine (isTrain4_any _ _ _ _ _ H1 _ x2.holds (hh.mono hle)).mono ?_; rintro e w3 ⟨rfl, hb3⟩; rw [hg]; have x3 := x2.step (hb3.mono x2.below.size) (x2.holds.below hb3))
        | (have hgd := hx; clear hgd; go_at_call 15; refine (ready_any _ _ _ _ H1 _ hw1 (hh.mono hle)).mono ?_; rintro e w2 ⟨rfl, hb2⟩; rw [hr]; have x2 := hx.step (hb2.mono hx.below.size) (hw1.below hb2); have hw2 := x2.holds)
        | (refine wpList_boxF rfl _ rfl (Ext.refl hw) ?_; intro B w1 H1 hle hx hB hBw; obtain ⟨hc0, hc1, hc2, hc3⟩ := cellsHou hB; clear hB hw; have hw1 := hx.holds))
      go_ret
      exact ⟨rfl, x4.below⟩
    · have hv := readyB_valid hr
      have hgb := within_iff.1 hg
      obtain ⟨t, rfl⟩ := Int.eq_ofNat_of_zero_le hgb.1
      have ht : t < h.ts.length := by omega
      obtain ⟨d, hd⟩ := At.mk ht
      have hdb := ts_bd hv hd
      have hts := fun n h0 hn => @wait_sure h hv t ht n h0 hn
      have hval := fun n h0 hn => @later_valid h hv t n h0 hn ht
      have htz := later_zero hv ht
      have hr0 := waitRaw_nonneg h t
      obtain ⟨hv1, hv2⟩ := waitVal_in hv ht
      rw [hd.getD] at hts hval hv1 hv2
      obtain ⟨tbk, tof, tc, hev, hdc, hdcell⟩ := hh.t.int hd
      cases hev
      have hlater : ∀ n : Int, 0 ≤ n → n ≤ 99 - d → ∀ (H' : Snap) (w : World), Holds H' w → SLe H H' → Calls Try.prog 24 #[houV vm vb (.slice (some ⟨tbk, tof, none⟩) h.ts.length ct) h, .int .i64 t, .int .i64 n] w (PostH w H' (laterH h t n)) := fun n h0 hn H' w hw k =>
        later_any _ _ _ h t n ht (by rw [hd.getD]; omega) H' w hw (hh.mono k)
      have hwait : ∀ (H' : Snap) (w : World), Holds H' w → SLe H H' → Calls Try.prog 23 #[houV vm vb (.slice (some ⟨tbk, tof, none⟩) h.ts.length ct) h, .int .i64 t] w (PostV w (.tuple #[.int .i64 (waitVal h t), .int .i64 (waitErr h t)])) := fun H' w hw k => waitP_any _ _ _ _ _ hI H' w hw (hh.mono k)
      rw [hv1, hv2] at hwait
      have hsure : ∀ (H' : Snap) (w : World), Holds H' w → SLe H H' → Calls Try.prog 18 #[houV vm vb (.slice (some ⟨tbk, tof, none⟩) h.ts.length ct) h] w (PostV w (.tuple #[.bool (sureB h []), .bool true])) := fun H' w hw k => sureL_any _ _ _ h hv H' w hw (hh.mono k)
      have hsl : ∀ n : Int, 0 ≤ n → n ≤ 99 - d → ∀ (b : Bool), sureB (laterH h t n) [] = b → ∀ (um ub ut : Value) (H' : Snap) (w : World), Holds H' w → Hou H' um ub ut (laterH h t n) → Calls Try.prog 18 #[houV um ub ut (laterH h t n)] w (PostV w (.tuple #[.bool b, .bool true])) := fun n h0 hn b e um ub ut H' w hw k => by
        rw [← e]; exact sureL_any _ _ _ _ (hval n h0 hn) H' w hw k
      have htI : 0 ≤ (t : Int) ∧ (t : Int) < (h.ts.length : Int) := by omega
      by_cases hlt : 99 - d < waitRaw h t
      · rw [if_pos hlt, if_pos hlt] at hwait
        have hs0 : sureB h [] = false := by
          rw [Bool.eq_false_iff]; intro c; have := htz.1 c; omega
        have hlast : sureB (laterH h t (99 - d)) [] = false := by
          rw [Bool.eq_false_iff]; intro c; have := (hts (99 - d) (by omega) (by omega)).1 c; omega
        rw [hs0] at hsure
        have hl1 := hlater (99 - d) (by omega) (by omega)
        have hs1 := hsl (99 - d) (by omega) (by omega) false hlast
        clear hlater hsl hts hval htz hv1 hv2
        replace hl1 := Lib.hid hl1
        replace hs1 := Lib.hid hs1
        replace hsure := Lib.hid hsure
        replace hwait := Lib.hid hwait
        go_enter Try.func4, Try.ntmps4
        go_upto_region 8 with (first
          | (have hgd := x4; clear hgd; go_at_call 18; refine (hsure.out H1 _ x4.holds hle).mono ?_; rintro e w5 ⟨rfl, hb5⟩; have x5 := x4.step (hb5.mono x4.below.size) (x4.holds.below hb5); have hw5 := x5.holds)
          | (have hgd := x3; clear hgd; go_at_call 23; refine (hwait.out H1 _ x3.holds hle).mono ?_; rintro e w4 ⟨rfl, hb4⟩; have x4 := x3.step (hb4.mono x3.below.size) (x3.holds.below hb4); have hw4 := x4.holds)
          | (have hgd := x2; clear hgd; go_at_call 22; refine (isTrain4_any _ _ _ _ _ H1 _ x2.holds (hh.mono hle)).mono ?_; rintro e w3 ⟨rfl, hb3⟩; rw [hg]; have x3 := x2.step (hb3.mono x2.below.size) (x2.holds.below hb3); have hw3 := x3.holds)
          | (have hgd := hx; clear hgd; go_at_call 15; refine (ready_any _ _ _ _ H1 _ hw1 (hh.mono hle)).mono ?_; rintro e w2 ⟨rfl, hb2⟩; rw [hr]; have x2 := hx.step (hb2.mono hx.below.size) (hw1.below hb2); have hw2 := x2.holds)
          | (refine wpList_boxF rfl _ rfl (Ext.refl hw) ?_; intro B w1 H1 hle hx hB hBw; obtain ⟨hc0, hc1, hc2, hc3⟩ := cellsHou hB; clear hB hw; have hw1 := hx.holds))
        replace hdcell := lift hle hdcell
        clear x2 x3 x4 hw1 hw2 hw3 hw4 hb2 hb3 hb4 hb5 hx
        obtain ⟨hti0, hti1⟩ := htI
        have hwrp : IntKind.i64.wrap (99 - d) = 99 - d := by rw [IntKind.wrap_i64]; omega
        go_region_held3 (fun w' => Holds H1 w' ∧ Ext w H w' H1) (first | assumption | exact ⟨by assumption, by assumption⟩ | (go_split_ands; exact ⟨Holds.drew (by assumption), Ext.drew (by assumption)⟩)) (first
          | (have hgd := y6; clear hgd; go_split_ands; go_at_call 18; refine (hs1.out _ _ _ H6 _ y6.holds hh6).mono ?_; rintro e w7 ⟨rfl, hb7⟩; have hk1 : Holds H1 w7 := hwk6.below hb7; have hk2 : Ext w H w7 H1 := x6.step (hb7.mono x6.below.size) hk1)
          | (go_split_ands; go_at_call 24; refine (hl1.out H1 _ (by assumption) hle).mono ?_; rintro e w6 ⟨v6, H6, rfl, y6, um, ub, ut, rfl, hh6⟩; have hwk6 : Holds H1 w6 := y6.old (by assumption); have x6 : Ext w H w6 H1 := (by assumption : Ext w H _ H1).step (y6.below.mono (by assumption : Ext w H _ H1).below.size) hwk6))
        all_goals
          go_wp2_with (go_at_call 16; refine (works_any H1 _ hk2.holds).mono ?_; rintro e w8 ⟨rfl, hb8⟩; have x8 := hk2.step (hb8.mono hk2.below.size) (hk2.holds.below hb8))
          go_ret
          exact ⟨rfl, x8.below⟩
      · rw [if_neg hlt, if_neg hlt] at hwait
        have hz0 : sureB h [] = (waitRaw h t == 0) := by
          rw [Bool.eq_iff_iff, htz, beq_iff_eq]; omega
        have hyes : sureB (laterH h t (waitRaw h t)) [] = true := (hts _ hr0 (by omega)).2 (Int.le_refl _)
        have hl1 := hlater (waitRaw h t) hr0 (by omega)
        have hs1 := hsl (waitRaw h t) hr0 (by omega) true hyes
        have hl2 := fun h1 => hlater (waitRaw h t - 1) h1 (by omega)
        have hs2 := fun h1 h2 => hsl (waitRaw h t - 1) h1 (by omega) false h2
        have hno : 0 ≤ waitRaw h t - 1 → sureB (laterH h t (waitRaw h t - 1)) [] = false := fun h1 => by
          rw [Bool.eq_false_iff]; intro c; have := (hts _ h1 (by omega)).1 c; omega
        have hwi : within (waitRaw h t) 0 (99 - d) = true := within_iff.2 (by omega)
        rw [hz0] at hsure
        clear hlater hsl hts hval htz hv1 hv2 hz0
        generalize waitRaw h t = n at *
        have hn : 0 ≤ n ∧ n ≤ 99 := by omega
        cases hz : (n == 0)
        · have hn1 : 1 ≤ n := by have := beq_eq_false_iff_ne.1 hz; omega
          replace hl2 := hl2 (by omega)
          replace hs2 := hs2 (by omega) (hno (by omega))
          have hnz : (n != 0) = true := by simp; omega
          clear hno hyes
          rw [hz] at hsure
          replace hl1 := Lib.hid hl1
          replace hs1 := Lib.hid hs1
          replace hl2 := Lib.hid hl2
          replace hs2 := Lib.hid hs2
          replace hsure := Lib.hid hsure
          replace hwait := Lib.hid hwait
          go_enter Try.func4, Try.ntmps4
          go_wp2_with (first
            | (have hgd := x10; clear hgd; go_at_call 16; refine (works_any H9 _ x10.holds).mono ?_; rintro e w11 ⟨rfl, hb11⟩; have x11 := x10.step (hb11.mono x10.below.size) (x10.holds.below hb11))
            | (have hgd := x9; clear hgd; go_at_call 18; refine (hs2.out _ _ _ H9 _ x9.holds hh9).mono ?_; rintro e w10 ⟨rfl, hb10⟩; have x10 := x9.step (hb10.mono x9.below.size) (x9.holds.below hb10); have hw10 := x10.holds)
            | (have hgd := x8; clear hgd; go_at_call 24; refine (hl2.out H7 _ x8.holds (hle.trans l7)).mono ?_; rintro e w9 ⟨v9, H9, rfl, y9, um', ub', ut', rfl, hh9⟩; have x9 := x8.trans y9; have hw9 := x9.holds)
            | (have hgd := x7; clear hgd; go_at_call 18; refine (hs1.out _ _ _ H7 _ x7.holds hh7).mono ?_; rintro e w8 ⟨rfl, hb8⟩; have x8 := x7.step (hb8.mono x7.below.size) (x7.holds.below hb8); have hw8 := x8.holds)
            | (have hgd := x6; clear hgd; go_at_call 24; refine (hl1.out H1 _ x6.holds hle).mono ?_; rintro e w7 ⟨v7, H7, rfl, y7, um, ub, ut, rfl, hh7⟩; have x7 := x6.trans y7; have l7 := y7.le x6.holds; have hw7 := x7.holds; have hd0 := lift l7 hc0; have hd1 := lift l7 hc1; have hd2 := lift l7 hc2; have hd3 := lift l7 hc3)
            | (have hgd := x5; clear hgd; go_at_call 25; refine (within_any _ _ _ _).mono ?_; rintro e w6 ⟨rfl, rfl⟩; rw [hwi]; have x6 := x5)
            | (have hgd := x4; clear hgd; go_at_call 18; refine (hsure.out H1 _ x4.holds hle).mono ?_; rintro e w5 ⟨rfl, hb5⟩; have x5 := x4.step (hb5.mono x4.below.size) (x4.holds.below hb5); have hw5 := x5.holds; replace hdcell := lift hle hdcell)
            | (have hgd := x3; clear hgd; go_at_call 23; refine (hwait.out H1 _ x3.holds hle).mono ?_; rintro e w4 ⟨rfl, hb4⟩; have x4 := x3.step (hb4.mono x3.below.size) (x3.holds.below hb4); have hw4 := x4.holds)
            | (have hgd := x2; clear hgd; go_at_call 22; refine (isTrain4_any _ _ _ _ _ H1 _ x2.holds (hh.mono hle)).mono ?_; rintro e w3 ⟨rfl, hb3⟩; rw [hg]; have x3 := x2.step (hb3.mono x2.below.size) (x2.holds.below hb3); have hw3 := x3.holds)
            | (have hgd := hx; clear hgd; go_at_call 15; refine (ready_any _ _ _ _ H1 _ hw1 (hh.mono hle)).mono ?_; rintro e w2 ⟨rfl, hb2⟩; rw [hr]; have x2 := hx.step (hb2.mono hx.below.size) (hw1.below hb2); have hw2 := x2.holds)
            | (refine wpList_boxF rfl _ rfl (Ext.refl hw) ?_; intro B w1 H1 hle hx hB hBw; obtain ⟨hc0, hc1, hc2, hc3⟩ := cellsHou hB; clear hB hw; have hw1 := hx.holds))
          go_ret
          exact ⟨rfl, x11.below⟩
        · have hn1 : n = 0 := beq_iff_eq.1 hz
          subst hn1
          rw [hz] at hsure
          clear hno hyes hl2 hs2
          replace hl1 := Lib.hid hl1
          replace hs1 := Lib.hid hs1
          replace hsure := Lib.hid hsure
          replace hwait := Lib.hid hwait
          go_enter Try.func4, Try.ntmps4
          go_wp2_with (first
            | (have hgd := x8; clear hgd; go_at_call 16; refine (works_any H7 _ x8.holds).mono ?_; rintro e w11 ⟨rfl, hb11⟩; have x11 := x8.step (hb11.mono x8.below.size) (x8.holds.below hb11))
            | (have hgd := x7; clear hgd; go_at_call 18; refine (hs1.out _ _ _ H7 _ x7.holds hh7).mono ?_; rintro e w8 ⟨rfl, hb8⟩; have x8 := x7.step (hb8.mono x7.below.size) (x7.holds.below hb8); have hw8 := x8.holds)
            | (have hgd := x6; clear hgd; go_at_call 24; refine (hl1.out H1 _ x6.holds hle).mono ?_; rintro e w7 ⟨v7, H7, rfl, y7, um, ub, ut, rfl, hh7⟩; have x7 := x6.trans y7; have l7 := y7.le x6.holds; have hw7 := x7.holds; have hd0 := lift l7 hc0; have hd1 := lift l7 hc1; have hd2 := lift l7 hc2; have hd3 := lift l7 hc3)
            | (have hgd := x5; clear hgd; go_at_call 25; refine (within_any _ _ _ _).mono ?_; rintro e w6 ⟨rfl, rfl⟩; rw [hwi]; have x6 := x5)
            | (have hgd := x4; clear hgd; go_at_call 18; refine (hsure.out H1 _ x4.holds hle).mono ?_; rintro e w5 ⟨rfl, hb5⟩; have x5 := x4.step (hb5.mono x4.below.size) (x4.holds.below hb5); have hw5 := x5.holds; replace hdcell := lift hle hdcell)
            | (have hgd := x3; clear hgd; go_at_call 23; refine (hwait.out H1 _ x3.holds hle).mono ?_; rintro e w4 ⟨rfl, hb4⟩; have x4 := x3.step (hb4.mono x3.below.size) (x3.holds.below hb4); have hw4 := x4.holds)
            | (have hgd := x2; clear hgd; go_at_call 22; refine (isTrain4_any _ _ _ _ _ H1 _ x2.holds (hh.mono hle)).mono ?_; rintro e w3 ⟨rfl, hb3⟩; rw [hg]; have x3 := x2.step (hb3.mono x2.below.size) (x2.holds.below hb3); have hw3 := x3.holds)
            | (have hgd := hx; clear hgd; go_at_call 15; refine (ready_any _ _ _ _ H1 _ hw1 (hh.mono hle)).mono ?_; rintro e w2 ⟨rfl, hb2⟩; rw [hr]; have x2 := hx.step (hb2.mono hx.below.size) (hw1.below hb2); have hw2 := x2.holds)
            | (refine wpList_boxF rfl _ rfl (Ext.refl hw) ?_; intro B w1 H1 hle hx hB hBw; obtain ⟨hc0, hc1, hc2, hc3⟩ := cellsHou hB; clear hB hw; have hw1 := hx.holds))
          go_ret
          exact ⟨rfl, x11.below⟩

end Go.Proofs.Yteijmboophnmgaa
