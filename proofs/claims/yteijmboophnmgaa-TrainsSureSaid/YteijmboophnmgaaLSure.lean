/- The walk of flonglaw04.TrainsSure. -/
import Derived.Test.YteijmboophnmgaaLTimes
import Derived.Test.YteijmboophnmgaaPTold
namespace Go.Proofs.Yteijmboophnmgaa
open Go.RowKit

attribute [local go_sem] Holds.drew Holds.alloc Holds.drewN WB.holds

/-- What Key returns. -/
def keyA (h : House) : Int := if valid h then keyOf h else 0
theorem keyP_any (vm vb vt : Value) (h : House) (H : Snap) (w : World) (hw : Holds H w) (hh : Hou H vm vb vt h) :
    Calls Try.prog 43 #[houV vm vb vt h] w (PostV w (.tuple #[.int .i64 (keyA h), .int .i64 (errT (valid h))])) := keyT_any vm vb vt h H w hw hh
theorem keyR_any (vm vb vt : Value) (h : House) (H : Snap) (w : World) (hw : Holds H w) (hh : Hou H vm vb vt h) :
    Calls Try.prog 44 #[houV vm vb vt h] w (PostV w (.tuple #[.int .i64 (keyA h), .int .i64 (errT (valid h))])) := key4_any vm vb vt h H w hw hh
theorem sureP_any (vm vb vt : Value) (h : House) (H : Snap) (w : World) (hw : Holds H w) (hh : Hou H vm vb vt h) :
    Calls Try.prog 39 #[houV vm vb vt h] w (PostV w (.tuple #[.bool (sureA h), .int .i64 (errT (valid h))])) := by
  rw [← sureT_eq]; exact sureT_any vm vb vt h H w hw hh
theorem toldP_any (vm vb vt : Value) (h : House) (H : Snap) (w : World) (hw : Holds H w) (hh : Hou H vm vb vt h) :
    Calls Try.prog 41 #[houV vm vb vt h] w (Post w H fun v H' => ∃ u, v = .tuple #[u, .int .i64 (errT (valid h))] ∧ Sl H' u (toldA h)) := by
  rw [← toldT_eq]; exact toldT_any vm vb vt h H w hw hh

set_option maxRecDepth 100000 in
set_option maxHeartbeats 8000000 in
theorem trainsSure_any (vm vb vt : Value) (h : House) (H : Snap) (w : World) (hw : Holds H w) (hh : Hou H vm vb vt h) :
    Calls Try.prog 11 #[houV vm vb vt h] w (PostV w (.bool true)) := by
  cases hg : far h
  · go_enter Try.func11, Try.ntmps11
    go_upto_region 4 with (first
      | (have hgd := x2; clear hgd; go_at_call 29; refine (copyH_any _ _ _ _ H1 _ x2.holds (hh.mono hle)).mono ?_; rintro e w3 ⟨v3, H3, rfl, y3, um, ub, ut, rfl, ho3⟩; obtain ⟨um1, um2, rfl, _, _⟩ := ho3.m.form; obtain ⟨ub1, ub2, rfl, _, _⟩ := ho3.b.form; obtain ⟨ut1, ut2, rfl, _, _⟩ := ho3.t.form; have x3 := x2.trans y3; have l3 := y3.le x2.holds)
      | (have hgd := hx; clear hgd; go_at_call 28; refine (far_any _ _ _ _ H1 _ hw1 (hh.mono hle)).mono ?_; rintro e w2 ⟨rfl, hb2⟩; rw [hg]; have x2 := hx.step (hb2.mono hx.below.size) (hw1.below hb2); have hw2 := x2.holds)
      | (refine wpList_boxF rfl _ rfl (Ext.refl hw) ?_; intro B w1 H1 hle hx hB hBw; obtain ⟨hc0, hc1, hc2, hc3⟩ := cellsHou hB; clear hB hw; have hw1 := hx.holds))
    obtain ⟨x5, l5, p5⟩ := x3.newF #[.slice um1 h.ms.length um2, .slice ub1 h.bs.length ub2, .slice ut1 h.ts.length ut2, .int .i64 h.ch] 26
    generalize H3.put w3.heap.size (.cells #[.slice um1 h.ms.length um2, .slice ub1 h.bs.length ub2, .slice ut1 h.ts.length ut2, .int .i64 h.ch] 26 (0, 0)) = H5 at *
    generalize w3.alloc (.cells #[.slice um1 h.ms.length um2, .slice ub1 h.bs.length ub2, .slice ut1 h.ts.length ut2, .int .i64 h.ch] 26) = w5 at *
    generalize w3.heap.size = C at *
    obtain ⟨hd0, hd1, hd2, hd3⟩ := cellsHou (h := h) p5
    have l15 := l3.trans l5
    replace hc0 := lift l15 hc0
    replace hc1 := lift l15 hc1
    replace hc2 := lift l15 hc2
    replace hc3 := lift l15 hc3
    have hhm := (hh.mono hle).mono l15
    have hom := ho3.mono l5
    have ho5 := x5.holds
    clear hh ho3 x3 x2 hx hw1 hle l3 l5 l15 p5 y3 hb2 hw2
    go_wp2_with (first
    | (have hgd := x13; clear hgd; go_at_call 16; refine (works_any H9 _ x13.holds).mono ?_; rintro e w14 ⟨rfl, hb14⟩; have x14 := x13.step (hb14.mono x13.below.size) (x13.holds.below hb14); have ho14 := ho13.below hb14)
    | (have hgd := x12; clear hgd; go_at_call 32; refine (same_any _ _ _ _ _ _ _ H9 _ x12.holds (hom.mono le9) (hhm.mono le9)).mono ?_; rintro e w13 ⟨rfl, hb13⟩; have x13 := x12.step (hb13.mono x12.below.size) (x12.holds.below hb13); have ho13 := ho12.below hb13)
    | (have hgd := x11; clear hgd; go_at_call 36; refine (sameI _ _ _ H9 _ x11.holds s8 s9).mono ?_; rintro e w12 ⟨rfl, hb12⟩; have x12 := x11.step (hb12.mono x11.below.size) (x11.holds.below hb12); have ho12 := ho11.below hb12)
    | (have hgd := x10; clear hgd; go_at_call 44; refine (keyR_any _ _ _ _ H9 _ x10.holds (hhm.mono le9)).mono ?_; rintro e w11 ⟨rfl, hb11⟩; have x11 := x10.step (hb11.mono x10.below.size) (x10.holds.below hb11); have ho11 := ho10.below hb11)
    | (have hgd := x9; clear hgd; go_at_call 43; refine (keyP_any _ _ _ _ H9 _ x9.holds (hom.mono le9)).mono ?_; rintro e w10 ⟨rfl, hb10⟩; have x10 := x9.step (hb10.mono x9.below.size) (x9.holds.below hb10); have ho10 := ho9.below hb10)
    | (have hgd := x8; clear hgd; go_at_call 42; refine (told4_any _ _ _ _ H8 _ x8.holds (hhm.mono le8)).mono ?_; rintro e w9 ⟨v9, H9, rfl, y9, u9, rfl, s9⟩; obtain ⟨a9, c9, rfl, _, _⟩ := s9.form; have x9 := x8.trans y9; have lx9 := y9.le x8.holds; have le9 := le8.trans lx9; have ho9 := x9.holds.mono le9; replace s8 := s8.mono lx9)
    | (have hgd := x7; clear hgd; go_at_call 41; refine (toldP_any _ _ _ _ H5 _ x7.holds (hom.mono (SLe.refl _))).mono ?_; rintro e w8 ⟨v8, H8, rfl, y8, u8, rfl, s8⟩; obtain ⟨a8, c8, rfl, _, _⟩ := s8.form; have x8 := x7.trans y8; have lx8 := y8.le x7.holds; have le8 := (SLe.refl _).trans lx8; have ho8 := x8.holds.mono le8)
    | (have hgd := x6; clear hgd; go_at_call 40; refine (sure4_any _ _ _ _ H5 _ x6.holds (hhm.mono (SLe.refl _))).mono ?_; rintro e w7 ⟨rfl, hb7⟩; have x7 := x6.step (hb7.mono x6.below.size) (x6.holds.below hb7); have ho7 := ho6.below hb7)
    | (have hgd := x5; clear hgd; go_at_call 39; refine (sureP_any _ _ _ _ H5 _ x5.holds (hom.mono (SLe.refl _))).mono ?_; rintro e w6 ⟨rfl, hb6⟩; have x6 := x5.step (hb6.mono x5.below.size) (x5.holds.below hb6); have ho6 := ho5.below hb6))
    go_ret
    exact ⟨rfl, x14.below⟩
  · go_enter Try.func11, Try.ntmps11
    go_wp2_with (first
      | (have hgd := x2; clear hgd; go_at_call 16; refine (works_any H1 _ x2.holds).mono ?_; rintro e w3 ⟨rfl, hb3⟩; have x3 := x2.step (hb3.mono x2.below.size) (x2.holds.below hb3))
      | (have hgd := hx; clear hgd; go_at_call 28; refine (far_any _ _ _ _ H1 _ hw1 (hh.mono hle)).mono ?_; rintro e w2 ⟨rfl, hb2⟩; rw [hg]; have x2 := hx.step (hb2.mono hx.below.size) (hw1.below hb2))
      | (refine wpList_boxF rfl _ rfl (Ext.refl hw) ?_; intro B w1 H1 hle hx hB hBw; obtain ⟨hc0, hc1, hc2, hc3⟩ := cellsHou hB; clear hB hw; have hw1 := hx.holds))
    go_ret
    exact ⟨rfl, x3.below⟩

end Go.Proofs.Yteijmboophnmgaa
