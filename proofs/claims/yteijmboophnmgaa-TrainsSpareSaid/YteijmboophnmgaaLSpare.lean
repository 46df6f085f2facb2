/- The walk of flonglaw04.TrainsSpare. -/
import Derived.Test.YteijmboophnmgaaHelp
import Derived.Test.YteijmboophnmgaaBehind
import Derived.Test.YteijmboophnmgaaLWait
import Derived.Test.YteijmboophnmgaaLTold
namespace Go.Proofs.Yteijmboophnmgaa
open Go.RowKit

attribute [local go_sem] Holds.drew Holds.alloc Holds.drewN WB.holds

/-- What the law asks of the house in which all machines are ready later by n. -/
def behindOk (h : House) (n : Int) (b : Bool) : Prop := valid (behindH h n) = true → sureB (behindH h n) [] = b

set_option maxRecDepth 100000 in
set_option maxHeartbeats 8000000 in
theorem trainsSpare_any (vm vb vt : Value) (h : House) (H : Snap) (w : World) (hw : Holds H w) (hh : Hou H vm vb vt h) :
    Calls Try.prog 5 #[houV vm vb vt h] w (PostV w (.bool true)) := by
  cases hr : readyB h
  · go_enter Try.func5, Try.ntmps5
    go_wp2_with (first
      | (have hgd := x2; clear hgd; go_at_call 16; refine (works_any H1 _ x2.holds).mono ?_; rintro e w3 ⟨rfl, hb3⟩; have x3 := x2.step (hb3.mono x2.below.size) (x2.holds.below hb3))
      | (have hgd := hx; clear hgd; go_at_call 15; refine (ready_any _ _ _ _ H1 _ hw1 (hh.mono hle)).mono ?_; rintro e w2 ⟨rfl, hb2⟩; rw [hr]; have x2 := hx.step (hb2.mono hx.below.size) (hw1.below hb2))
      | (refine wpList_boxF rfl _ rfl (Ext.refl hw) ?_; intro B w1 H1 hle hx hB hBw; obtain ⟨hc0, hc1, hc2, hc3⟩ := cellsHou hB; clear hB hw; have hw1 := hx.holds))
    go_ret
    exact ⟨rfl, x3.below⟩
  · have hv := readyB_valid hr
    have hspare : ∀ (H' : Snap) (w : World), Holds H' w → SLe H H' → Calls Try.prog 26 #[houV vm vb vt h] w (PostV w (.tuple #[.int .i64 (spareVal h), .int .i64 (spareErr h)])) := fun H' w hw k => spareP_any _ _ _ _ H' w hw (hh.mono k)
    have hsure : ∀ (H' : Snap) (w : World), Holds H' w → SLe H H' → Calls Try.prog 18 #[houV vm vb vt h] w (PostV w (.tuple #[.bool (sureB h []), .bool true])) := fun H' w hw k => sureL_any _ _ _ h hv H' w hw (hh.mono k)
    have hss := sure_spare hv
    have h99 := spareRaw_le99 h
    by_cases hlt : spareRaw h < 0
    · have hs0 : sureB h [] = false := by
        rw [Bool.eq_false_iff]; intro c; have := hss.1 c; omega
      have e1 : spareVal h = 0 ∧ spareErr h = 3 := by
        unfold spareVal spareErr
        rw [valid_iff.2 hv, if_pos rfl, if_pos rfl, if_pos hlt, if_pos hlt]; exact ⟨rfl, rfl⟩
      rw [hs0] at hsure
      rw [e1.1, e1.2] at hspare
      replace hsure := Lib.hid hsure
      replace hspare := Lib.hid hspare
      clear hss
      go_enter Try.func5, Try.ntmps5
      go_wp2_with (first
        | (have hgd := x4; clear hgd; go_at_call 16; refine (works_any H1 _ x4.holds).mono ?_; rintro e w5 ⟨rfl, hb5⟩; have x5 := x4.step (hb5.mono x4.below.size) (x4.holds.below hb5))
        | (have hgd := x3; clear hgd; go_at_call 18; refine (hsure.out H1 _ x3.holds hle).mono ?_; rintro e w4 ⟨rfl, hb4⟩; have x4 := x3.step (hb4.mono x3.below.size) (x3.holds.below hb4); have hw4 := x4.holds)
        | (have hgd := x2; clear hgd; go_at_call 26; refine (hspare.out H1 _ x2.holds hle).mono ?_; rintro e w3 ⟨rfl, hb3⟩; have x3 := x2.step (hb3.mono x2.below.size) (x2.holds.below hb3); have hw3 := x3.holds)
        | (have hgd := hx; clear hgd; go_at_call 15; refine (ready_any _ _ _ _ H1 _ hw1 (hh.mono hle)).mono ?_; rintro e w2 ⟨rfl, hb2⟩; rw [hr]; have x2 := hx.step (hb2.mono hx.below.size) (hw1.below hb2); have hw2 := x2.holds)
        | (refine wpList_boxF rfl _ rfl (Ext.refl hw) ?_; intro B w1 H1 hle hx hB hBw; obtain ⟨hc0, hc1, hc2, hc3⟩ := cellsHou hB; clear hB hw; have hw1 := hx.holds))
      go_ret
      exact ⟨rfl, x5.below⟩
    · have hs0 : sureB h [] = true := hss.2 (by omega)
      have e1 : spareVal h = spareRaw h ∧ spareErr h = 0 := by
        unfold spareVal spareErr
        rw [valid_iff.2 hv, if_pos rfl, if_pos rfl, if_neg hlt, if_neg hlt]; exact ⟨rfl, rfl⟩
      rw [hs0] at hsure
      rw [e1.1, e1.2] at hspare
      have hBd1 : sureB (behindH h (spareRaw h)) [] = true ∨ valid (behindH h (spareRaw h)) = false := by
        cases hvb : valid (behindH h (spareRaw h))
        · exact .inr rfl
        · exact .inl ((spare_sure hv (by omega) h99 (valid_iff.1 hvb)).2 (Int.le_refl _))
      have hBd2 : spareRaw h < 99 → sureB (behindH h (spareRaw h + 1)) [] = false ∨ valid (behindH h (spareRaw h + 1)) = false := fun h1 => by
        cases hvb : valid (behindH h (spareRaw h + 1))
        · exact .inr rfl
        · refine .inl ?_
          rw [Bool.eq_false_iff]; intro c
          have := (spare_sure hv (by omega) (by omega) (valid_iff.1 hvb)).1 c
          omega
      have hbe : ∀ n : Int, 0 ≤ n → n ≤ 100 → ∀ (H' : Snap) (w : World), Holds H' w → SLe H H' → Calls Try.prog 27 #[houV vm vb vt h, .int .i64 n] w (Post w H' fun v H' => ∃ um ub ut, v = .tuple #[houV um ub ut (behindH h n), .bool (valid (behindH h n))] ∧ Hou H' um ub ut (behindH h n)) := fun n h0 h1 H' w hw k => behind_any _ _ _ h n hv (by omega) H' w hw (hh.mono k)
      have hsb : ∀ (n : Int), valid (behindH h n) = true → ∀ (um ub ut : Value) (H' : Snap) (w : World), Holds H' w → Hou H' um ub ut (behindH h n) → Calls Try.prog 18 #[houV um ub ut (behindH h n)] w (PostV w (.tuple #[.bool (sureB (behindH h n) []), .bool true])) := fun n e um ub ut H' w hw k => sureL_any _ _ _ _ (valid_iff.1 e) H' w hw k
      generalize spareRaw h = n at *
      have hn : 0 ≤ n := by omega
      have hB1 := hbe n hn (by omega)
      have hB2 := hbe (n + 1) (by omega) (by omega)
      have hS1 := hsb n
      have hS2 := hsb (n + 1)
      clear hbe hsb hss
      replace hB1 := Lib.hid hB1
      replace hB2 := Lib.hid hB2
      replace hS1 := Lib.hid hS1
      replace hS2 := Lib.hid hS2
      replace hBd1 := Lib.hid hBd1
      replace hBd2 := Lib.hid hBd2
      replace hsure := Lib.hid hsure
      replace hspare := Lib.hid hspare
      go_enter Try.func5, Try.ntmps5
      go_upto_region 9 with (first
        | (have hgd := x3; clear hgd; go_at_call 18; refine (hsure.out H1 _ x3.holds hle).mono ?_; rintro e w4 ⟨rfl, hb4⟩; have x4 := x3.step (hb4.mono x3.below.size) (x3.holds.below hb4); have hw4 := x4.holds)
        | (have hgd := x2; clear hgd; go_at_call 26; refine (hspare.out H1 _ x2.holds hle).mono ?_; rintro e w3 ⟨rfl, hb3⟩; have x3 := x2.step (hb3.mono x2.below.size) (x2.holds.below hb3); have hw3 := x3.holds)
        | (have hgd := hx; clear hgd; go_at_call 15; refine (ready_any _ _ _ _ H1 _ hw1 (hh.mono hle)).mono ?_; rintro e w2 ⟨rfl, hb2⟩; rw [hr]; have x2 := hx.step (hb2.mono hx.below.size) (hw1.below hb2); have hw2 := x2.holds)
        | (refine wpList_boxF rfl _ rfl (Ext.refl hw) ?_; intro B w1 H1 hle hx hB hBw; obtain ⟨hc0, hc1, hc2, hc3⟩ := cellsHou hB; clear hB hw; have hw1 := hx.holds))
      clear x3 x2 hx hw1 hw2 hw3
      cases hv1 : valid (behindH h n)
      · go_upto_region 14 with (first
          | (go_at_call 27; refine (hB1.out H1 _ x4.holds hle).mono ?_; rintro e w5 ⟨v5, H5, rfl, y5, um, ub, ut, rfl, hh5⟩; rw [hv1]; obtain ⟨am, cm, rfl, _, _⟩ := hh5.m.form; obtain ⟨ab, cb, rfl, _, _⟩ := hh5.b.form; obtain ⟨at', ct, rfl, _, _⟩ := hh5.t.form; have x5 := x4.trans y5; have l5 := y5.le x4.holds))
        have x6 := x5.alloc (.cells #[.slice am (behindH h n).ms.length cm, .slice ab (behindH h n).bs.length cb, .slice at' (behindH h n).ts.length ct, .int .i64 (behindH h n).ch] 26)
        generalize w5.alloc (.cells #[.slice am (behindH h n).ms.length cm, .slice ab (behindH h n).bs.length cb, .slice at' (behindH h n).ts.length ct, .int .i64 (behindH h n).ch] 26) = w6 at *
        clear hBd1 hS1 hB1 hsure hspare hh
        have l15 := hle.trans l5
        replace hc0 := lift l5 hc0
        replace hc1 := lift l5 hc1
        replace hc2 := lift l5 hc2
        replace hc3 := lift l5 hc3
        have hw6 := x6.holds
        clear x4 x5 y5 hh5 hw4
        cases hlt9 : decide (n < 99)
        · cases hv2 : valid (behindH h (n + 1))
          all_goals
            go_wp2_with (first
              | (have hgd := x7; clear hgd; go_at_call 16; refine (works_any H7 _ (x7.holds.alloc _)).mono ?_; rintro e w11 ⟨rfl, hb11⟩; have x11 := (x7.alloc _).step (hb11.mono (x7.alloc _).below.size) ((x7.holds.alloc _).below hb11))
              | (go_at_call 27; refine (hB2.out H5 _ x6.holds l15).mono ?_; rintro e w7 ⟨v7, H7, rfl, y7, um, ub, ut, rfl, hh7⟩; rw [hv2]; obtain ⟨am, cm, rfl, _, _⟩ := hh7.m.form; obtain ⟨ab, cb, rfl, _, _⟩ := hh7.b.form; obtain ⟨at', ct, rfl, _, _⟩ := hh7.t.form; have x7 := x6.trans y7; have l7 := y7.le x6.holds))
            go_ret
            exact ⟨rfl, x11.below⟩
        · have hlt : n < 99 := of_decide_eq_true hlt9
          cases hv2 : valid (behindH h (n + 1))
          · go_wp2_with (first
              | (have hgd := x7; clear hgd; go_at_call 16; refine (works_any H7 _ (x7.holds.alloc _)).mono ?_; rintro e w11 ⟨rfl, hb11⟩; have x11 := (x7.alloc _).step (hb11.mono (x7.alloc _).below.size) ((x7.holds.alloc _).below hb11))
              | (go_at_call 27; refine (hB2.out H5 _ x6.holds l15).mono ?_; rintro e w7 ⟨v7, H7, rfl, y7, um, ub, ut, rfl, hh7⟩; rw [hv2]; obtain ⟨am, cm, rfl, _, _⟩ := hh7.m.form; obtain ⟨ab, cb, rfl, _, _⟩ := hh7.b.form; obtain ⟨at', ct, rfl, _, _⟩ := hh7.t.form; have x7 := x6.trans y7; have l7 := y7.le x6.holds))
            go_ret
            exact ⟨rfl, x11.below⟩
          · have hs2 : sureB (behindH h (n + 1)) [] = false := by
              rcases hBd2.out hlt with e | e
              · exact e
              · rw [hv2] at e; cases e
            go_wp2_with (first
              | (have hgd := x8; clear hgd; go_at_call 16; refine (works_any H7 _ x8.holds).mono ?_; rintro e w11 ⟨rfl, hb11⟩; have x11 := x8.step (hb11.mono x8.below.size) (x8.holds.below hb11))
              | (have hgd := y7; clear hgd; go_at_call 18; refine (hS2.out hv2 _ _ _ H7 _ (x7.holds.alloc _) hh7).mono ?_; rintro e w8 ⟨rfl, hb8⟩; rw [hs2]; have x8 := (x7.alloc _).step (hb8.mono (x7.alloc _).below.size) ((x7.holds.alloc _).below hb8))
              | (go_at_call 27; refine (hB2.out H5 _ x6.holds l15).mono ?_; rintro e w7 ⟨v7, H7, rfl, y7, um, ub, ut, rfl, hh7⟩; rw [hv2]; obtain ⟨am, cm, rfl, _, _⟩ := hh7.m.form; obtain ⟨ab, cb, rfl, _, _⟩ := hh7.b.form; obtain ⟨at', ct, rfl, _, _⟩ := hh7.t.form; have x7 := x6.trans y7; have l7 := y7.le x6.holds))
            go_ret
            exact ⟨rfl, x11.below⟩
      · have hs1 : sureB (behindH h n) [] = true := by
          rcases hBd1.out with e | e
          · exact e
          · rw [hv1] at e; cases e
        go_upto_region 14 with (first
          | (have hgd := y5; clear hgd; go_at_call 18; refine (hS1.out hv1 _ _ _ H5 _ (x5.holds.alloc _) hh5).mono ?_; rintro e w6 ⟨rfl, hb6⟩; rw [hs1]; have x6 := (x5.alloc _).step (hb6.mono (x5.alloc _).below.size) ((x5.holds.alloc _).below hb6))
          | (go_at_call 27; refine (hB1.out H1 _ x4.holds hle).mono ?_; rintro e w5 ⟨v5, H5, rfl, y5, um, ub, ut, rfl, hh5⟩; rw [hv1]; obtain ⟨am, cm, rfl, _, _⟩ := hh5.m.form; obtain ⟨ab, cb, rfl, _, _⟩ := hh5.b.form; obtain ⟨at', ct, rfl, _, _⟩ := hh5.t.form; have x5 := x4.trans y5; have l5 := y5.le x4.holds))
        clear hb6 hBd1 hS1 hB1 hsure hspare hh
        have l15 := hle.trans l5
        replace hc0 := lift l5 hc0
        replace hc1 := lift l5 hc1
        replace hc2 := lift l5 hc2
        replace hc3 := lift l5 hc3
        have hw6 := x6.holds
        clear x4 x5 y5 hh5 hw4
        cases hlt9 : decide (n < 99)
        · cases hv2 : valid (behindH h (n + 1))
          all_goals
            go_wp2_with (first
              | (have hgd := x7; clear hgd; go_at_call 16; refine (works_any H7 _ (x7.holds.alloc _)).mono ?_; rintro e w11 ⟨rfl, hb11⟩; have x11 := (x7.alloc _).step (hb11.mono (x7.alloc _).below.size) ((x7.holds.alloc _).below hb11))
              | (go_at_call 27; refine (hB2.out H5 _ x6.holds l15).mono ?_; rintro e w7 ⟨v7, H7, rfl, y7, um, ub, ut, rfl, hh7⟩; rw [hv2]; obtain ⟨am, cm, rfl, _, _⟩ := hh7.m.form; obtain ⟨ab, cb, rfl, _, _⟩ := hh7.b.form; obtain ⟨at', ct, rfl, _, _⟩ := hh7.t.form; have x7 := x6.trans y7; have l7 := y7.le x6.holds))
            go_ret
            exact ⟨rfl, x11.below⟩
        · have hlt : n < 99 := of_decide_eq_true hlt9
          cases hv2 : valid (behindH h (n + 1))
          · go_wp2_with (first
              | (have hgd := x7; clear hgd; go_at_call 16; refine (works_any H7 _ (x7.holds.alloc _)).mono ?_; rintro e w11 ⟨rfl, hb11⟩; have x11 := (x7.alloc _).step (hb11.mono (x7.alloc _).below.size) ((x7.holds.alloc _).below hb11))
              | (go_at_call 27; refine (hB2.out H5 _ x6.holds l15).mono ?_; rintro e w7 ⟨v7, H7, rfl, y7, um, ub, ut, rfl, hh7⟩; rw [hv2]; obtain ⟨am, cm, rfl, _, _⟩ := hh7.m.form; obtain ⟨ab, cb, rfl, _, _⟩ := hh7.b.form; obtain ⟨at', ct, rfl, _, _⟩ := hh7.t.form; have x7 := x6.trans y7; have l7 := y7.le x6.holds))
            go_ret
            exact ⟨rfl, x11.below⟩
          · have hs2 : sureB (behindH h (n + 1)) [] = false := by
              rcases hBd2.out hlt with e | e
              · exact e
              · rw [hv2] at e; cases e
            go_wp2_with (first
              | (have hgd := x8; clear hgd; go_at_call 16; refine (works_any H7 _ x8.holds).mono ?_; rintro e w11 ⟨rfl, hb11⟩; have x11 := x8.step (hb11.mono x8.below.size) (x8.holds.below hb11))
              | (have hgd := y7; clear hgd; go_at_call 18; refine (hS2.out hv2 _ _ _ H7 _ (x7.holds.alloc _) hh7).mono ?_; rintro e w8 ⟨rfl, hb8⟩; rw [hs2]; have x8 := (x7.alloc _).step (hb8.mono (x7.alloc _).below.size) ((x7.holds.alloc _).below hb8))
              | (go_at_call 27; refine (hB2.out H5 _ x6.holds l15).mono ?_; rintro e w7 ⟨v7, H7, rfl, y7, um, ub, ut, rfl, hh7⟩; rw [hv2]; obtain ⟨am, cm, rfl, _, _⟩ := hh7.m.form; obtain ⟨ab, cb, rfl, _, _⟩ := hh7.b.form; obtain ⟨at', ct, rfl, _, _⟩ := hh7.t.form; have x7 := x6.trans y7; have l7 := y7.le x6.holds))
            go_ret
            exact ⟨rfl, x11.below⟩

end Go.Proofs.Yteijmboophnmgaa
