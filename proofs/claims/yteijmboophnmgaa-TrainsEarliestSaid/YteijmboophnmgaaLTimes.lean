/- The walk of flonglaw04.TrainsTimes. -/
import Derived.Test.YteijmboophnmgaaWorks
import Derived.Test.YteijmboophnmgaaSame
import Derived.Test.YteijmboophnmgaaTr8
namespace Go.Proofs.Yteijmboophnmgaa
open Go.RowKit

attribute [local go_sem] Holds.drew Holds.alloc Holds.drewN WB.holds

theorem sameI (va vb : Value) (xs : List Int) (H : Snap) (w : World) (hw : Holds H w) (ha : Sl H va xs) (hb : Sl H vb xs) :
    Calls Try.prog 36 #[va, vb] w (PostV w (.bool true)) := exSame va vb xs H w hw ha hb
theorem sameP (va vb : Value) (xs : List (List Int)) (H : Snap) (w : World) (hw : Holds H w) (ha : Sl H va xs) (hb : Sl H vb xs) :
    Calls Try.prog 54 #[va, vb] w (PostV w (.bool true)) := exSameP va vb xs H w hw ha hb

set_option maxRecDepth 100000 in
set_option maxHeartbeats 8000000 in
theorem trainsTimes_any (vm vb vt vp : Value) (h : House) (plan : List (List Int)) (H : Snap) (w : World) (hw : Holds H w) (hh : Hou H vm vb vt h) (hp : Sl H vp plan) :
    Calls Try.prog 12 #[houV vm vb vt h, vp] w (PostV w (.bool true)) := by
  cases hg : huge h
  · cases hl : long plan
    · have hls : plan.length ≤ 40 ∧ ∀ l ∈ plan, l.length ≤ 40 := by
        unfold long at hl
        simp only [Bool.or_eq_false_iff, decide_eq_false_iff_not, List.any_eq_false, decide_eq_true_eq] at hl
        exact ⟨by omega, fun l hm => by have := hl.2 l hm; omega⟩
      have hsz : plan.flatten.length ≤ 1000000 := by
        have key : ∀ (p : List (List Int)), (∀ l ∈ p, l.length ≤ 40) → p.flatten.length ≤ 40 * p.length := by
          intro p
          induction p with
          | nil => intro _; simp
          | cons l p ih => intro hm; have h1 := ih (fun x hx => hm x (by simp [hx])); have h2 := hm l (by simp); simp only [List.flatten_cons, List.length_append, List.length_cons]; omega
        have := key plan hls.2
        omega
      have hpl : plan.length ≤ 1000000 := by omega
      have hs2 : ∀ l ∈ plan, l.length ≤ 1000000 := fun l hm => by have := hls.2 l hm; omega
      obtain ⟨ap, cp, rfl, _, _⟩ := hp.form
      go_enter Try.func12, Try.ntmps12
      go_upto_region 4 with (first
        | (have hgd := x3; clear hgd; go_at_call 47; refine (copyP_any _ _ H3 _ x3.holds ((hp.mono hle).mono l3) hpl hs2).mono ?_; rintro e w4 ⟨v4, H4, rfl, y4, s4⟩; obtain ⟨aq, cq, rfl, _, _⟩ := s4.form; have x4 := x3.trans y4; have l4 := y4.le x3.holds)
        | (have hgd := x2; clear hgd; go_at_call 29; refine (copyH_any _ _ _ _ H1 _ x2.holds (hh.mono hle)).mono ?_; rintro e w3 ⟨v3, H3, rfl, y3, um, ub, ut, rfl, ho3⟩; obtain ⟨um1, um2, rfl, _, _⟩ := ho3.m.form; obtain ⟨ub1, ub2, rfl, _, _⟩ := ho3.b.form; obtain ⟨ut1, ut2, rfl, _, _⟩ := ho3.t.form; have x3 := x2.trans y3; have l3 := y3.le x2.holds)
        | (have hgd := x1; clear hgd; go_at_call 46; refine (long_any _ _ H1 _ x1.holds (hp.mono hle)).mono ?_; rintro e w2 ⟨rfl, hb2⟩; rw [hl]; have x2 := x1.step (hb2.mono x1.below.size) (x1.holds.below hb2); have hw2 := x2.holds)
        | (have hgd := hx; clear hgd; go_at_call 45; refine (huge_any _ _ _ _ H1 _ hw1 (hh.mono hle)).mono ?_; rintro e w11 ⟨rfl, hb1⟩; rw [hg]; have x1 := hx.step (hb1.mono hx.below.size) (hw1.below hb1))
        | (refine wpList_boxF rfl _ rfl (Ext.refl hw) ?_; intro B w1 H1 hle hx hB hBw; obtain ⟨hc0, hc1, hc2, hc3⟩ := cellsHou hB; clear hB hw; have hw1 := hx.holds))
      obtain ⟨x5, l5, p5⟩ := x4.newF #[.slice um1 h.ms.length um2, .slice ub1 h.bs.length ub2, .slice ut1 h.ts.length ut2, .int .i64 h.ch] 26
      generalize H4.put w4.heap.size (.cells #[.slice um1 h.ms.length um2, .slice ub1 h.bs.length ub2, .slice ut1 h.ts.length ut2, .int .i64 h.ch] 26 (0, 0)) = H5 at *
      generalize w4.alloc (.cells #[.slice um1 h.ms.length um2, .slice ub1 h.bs.length ub2, .slice ut1 h.ts.length ut2, .int .i64 h.ch] 26) = w5 at *
      generalize w4.heap.size = C at *
      obtain ⟨hd0, hd1, hd2, hd3⟩ := cellsHou (h := h) p5
      have l15 := (l3.trans l4).trans l5
      replace hc0 := lift l15 hc0
      replace hc1 := lift l15 hc1
      replace hc2 := lift l15 hc2
      replace hc3 := lift l15 hc3
      have hhm := (hh.mono hle).mono l15
      have hpm := (hp.mono hle).mono l15
      have hom := ho3.mono (l4.trans l5)
      have hqm := s4.mono l5
      have ho5 := x5.holds
      clear hh hp ho3 s4 x4 x3 x2 x1 hx hw1 hle l3 l4 l5 l15 p5 y3 y4 hb1 hb2 hw2
      refine wp_region_quietB H5 (by kernel_rfl) (by kernel_rfl) ho5 (fun hne => ?_)
      repeat go_big_quiet_step ((first | (go_at_call 48; exact Calls.quietB (checkT_any _ _ _ _ _ _ (WB.holds _) hom)) | (go_at_call 35; exact Calls.quietB (check4_any _ _ _ _ _ _ (WB.holds _) hhm))))
      refine wpQuiet_nil ?_
      rintro ⟨w2, hw2, hb2⟩
      clear hne
      replace x5 := x5.step (hb2.mono x5.below.size) hw2
      replace ho5 := hw2
      go_wp2_with (first
    | (have hgd := x15; clear hgd; go_at_call 16; refine (works_any H12 _ x15.holds).mono ?_; rintro e w16 ⟨rfl, hb16⟩; have x16 := x15.step (hb16.mono x15.below.size) (x15.holds.below hb16); have ho16 := ho15.below hb16)
    | (have hgd := x14; clear hgd; go_at_call 54; refine (sameP _ _ _ H12 _ x14.holds (hqm.mono le12) (hpm.mono le12)).mono ?_; rintro e w15 ⟨rfl, hb15⟩; have x15 := x14.step (hb15.mono x14.below.size) (x14.holds.below hb15); have ho15 := ho14.below hb15)
    | (have hgd := x13; clear hgd; go_at_call 32; refine (same_any _ _ _ _ _ _ _ H12 _ x13.holds (hom.mono le12) (hhm.mono le12)).mono ?_; rintro e w14 ⟨rfl, hb14⟩; have x14 := x13.step (hb14.mono x13.below.size) (x13.holds.below hb14); have ho14 := ho13.below hb14)
    | (have hgd := x12; clear hgd; go_at_call 36; refine (sameI _ _ _ H12 _ x12.holds s11 s12).mono ?_; rintro e w13 ⟨rfl, hb13⟩; have x13 := x12.step (hb13.mono x12.below.size) (x12.holds.below hb13); have ho13 := ho12.below hb13)
    | (have hgd := x11; clear hgd; go_at_call 53; refine (late4_any _ _ _ _ _ _ H11 _ x11.holds (hhm.mono le11) (hpm.mono le11) hsz).mono ?_; rintro e w12 ⟨v12, H12, rfl, y12, u12, rfl, s12⟩; obtain ⟨a12, c12, rfl, _, _⟩ := s12.form; have x12 := x11.trans y12; have lx12 := y12.le x11.holds; have le12 := le11.trans lx12; have ho12 := x12.holds.mono le12; replace s8 := s8.mono lx12; replace s9 := s9.mono lx12; replace s11 := s11.mono lx12)
    | (have hgd := x10; clear hgd; go_at_call 38; refine (lateA_any _ _ _ _ _ _ H9 _ x10.holds (hom.mono le9) (hqm.mono le9)).mono ?_; rintro e w11 ⟨v11, H11, rfl, y11, u11, rfl, s11⟩; obtain ⟨a11, c11, rfl, _, _⟩ := s11.form; have x11 := x10.trans y11; have lx11 := y11.le x10.holds; have le11 := le9.trans lx11; have ho11 := x11.holds.mono le11; replace s8 := s8.mono lx11; replace s9 := s9.mono lx11)
    | (have hgd := x9; clear hgd; go_at_call 36; refine (sameI _ _ _ H9 _ x9.holds s8 s9).mono ?_; rintro e w10 ⟨rfl, hb10⟩; have x10 := x9.step (hb10.mono x9.below.size) (x9.holds.below hb10); have ho10 := ho9.below hb10)
    | (have hgd := x8; clear hgd; go_at_call 52; refine (times4_any _ _ _ _ _ _ H8 _ x8.holds (hhm.mono le8) (hpm.mono le8) hsz).mono ?_; rintro e w9 ⟨v9, H9, rfl, y9, u9, rfl, s9⟩; obtain ⟨a9, c9, rfl, _, _⟩ := s9.form; have x9 := x8.trans y9; have lx9 := y9.le x8.holds; have le9 := le8.trans lx9; have ho9 := x9.holds.mono le9; replace s8 := s8.mono lx9)
    | (have hgd := x7; clear hgd; go_at_call 51; refine (timesA_any _ _ _ _ _ _ H5 _ x7.holds (hom.mono (SLe.refl _)) (hqm.mono (SLe.refl _))).mono ?_; rintro e w8 ⟨v8, H8, rfl, y8, u8, rfl, s8⟩; obtain ⟨a8, c8, rfl, _, _⟩ := s8.form; have x8 := x7.trans y8; have lx8 := y8.le x7.holds; have le8 := (SLe.refl _).trans lx8; have ho8 := x8.holds.mono le8)
    | (have hgd := x6; clear hgd; go_at_call 50; refine (good4_any _ _ _ _ _ _ H5 _ x6.holds (hhm.mono (SLe.refl _)) (hpm.mono (SLe.refl _)) hsz).mono ?_; rintro e w7 ⟨rfl, hb7⟩; have x7 := x6.step (hb7.mono x6.below.size) (x6.holds.below hb7); have ho7 := ho6.below hb7)
    | (have hgd := x5; clear hgd; go_at_call 49; refine (goodT_any _ _ _ _ _ _ H5 _ x5.holds (hom.mono (SLe.refl _)) (hqm.mono (SLe.refl _))).mono ?_; rintro e w6 ⟨rfl, hb6⟩; have x6 := x5.step (hb6.mono x5.below.size) (x5.holds.below hb6); have ho6 := ho5.below hb6))
      go_ret
      exact ⟨rfl, x16.below⟩
    · obtain ⟨ap, cp, rfl, _, _⟩ := hp.form
      go_enter Try.func12, Try.ntmps12
      go_wp2_with (first
        | (have hgd := x2; clear hgd; go_at_call 16; refine (works_any H1 _ x2.holds).mono ?_; rintro e w3 ⟨rfl, hb3⟩; have x3 := x2.step (hb3.mono x2.below.size) (x2.holds.below hb3))
        | (have hgd := x1; clear hgd; go_at_call 46; refine (long_any _ _ H1 _ x1.holds (hp.mono hle)).mono ?_; rintro e w2 ⟨rfl, hb2⟩; rw [hl]; have x2 := x1.step (hb2.mono x1.below.size) (x1.holds.below hb2))
        | (have hgd := hx; clear hgd; go_at_call 45; refine (huge_any _ _ _ _ H1 _ hw1 (hh.mono hle)).mono ?_; rintro e w11 ⟨rfl, hb1⟩; rw [hg]; have x1 := hx.step (hb1.mono hx.below.size) (hw1.below hb1))
        | (refine wpList_boxF rfl _ rfl (Ext.refl hw) ?_; intro B w1 H1 hle hx hB hBw; obtain ⟨hc0, hc1, hc2, hc3⟩ := cellsHou hB; clear hB hw; have hw1 := hx.holds))
      go_ret
      exact ⟨rfl, x3.below⟩
  · go_enter Try.func12, Try.ntmps12
    go_wp2_with (first
      | (have hgd := x1; clear hgd; go_at_call 16; refine (works_any H1 _ x1.holds).mono ?_; rintro e w3 ⟨rfl, hb3⟩; have x3 := x1.step (hb3.mono x1.below.size) (x1.holds.below hb3))
      | (have hgd := hx; clear hgd; go_at_call 45; refine (huge_any _ _ _ _ H1 _ hw1 (hh.mono hle)).mono ?_; rintro e w11 ⟨rfl, hb1⟩; rw [hg]; have x1 := hx.step (hb1.mono hx.below.size) (hw1.below hb1))
      | (refine wpList_boxF rfl _ rfl (Ext.refl hw) ?_; intro B w1 H1 hle hx hB hBw; obtain ⟨hc0, hc1, hc2, hc3⟩ := cellsHou hB; clear hB hw; have hw1 := hx.holds))
    go_ret
    exact ⟨rfl, x3.below⟩

end Go.Proofs.Yteijmboophnmgaa
