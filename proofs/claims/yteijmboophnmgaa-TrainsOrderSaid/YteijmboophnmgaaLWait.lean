/- The walk of flonglaw04.TrainsWait. -/
import Derived.Test.YteijmboophnmgaaLTimes
import Derived.Test.YteijmboophnmgaaPWait
namespace Go.Proofs.Yteijmboophnmgaa
open Go.RowKit

attribute [local go_sem] Holds.drew Holds.alloc Holds.drewN WB.holds

theorem waitP_any (vm vb vt : Value) (h : House) (t : Int) (ht : I64 t) (H : Snap) (w : World) (hw : Holds H w) (hh : Hou H vm vb vt h) :
    Calls Try.prog 23 #[houV vm vb vt h, .int .i64 t] w (PostV w (.tuple #[.int .i64 (waitVal h t), .int .i64 (waitErr h t)])) := by
  rw [← (waitT_eq h t).1, ← (waitT_eq h t).2]; exact wait_any vm vb vt h t ht H w hw hh
theorem spareP_any (vm vb vt : Value) (h : House) (H : Snap) (w : World) (hw : Holds H w) (hh : Hou H vm vb vt h) :
    Calls Try.prog 26 #[houV vm vb vt h] w (PostV w (.tuple #[.int .i64 (spareVal h), .int .i64 (spareErr h)])) := by
  rw [← (spareT_eq h).1, ← (spareT_eq h).2]; exact spare_any vm vb vt h H w hw hh

set_option maxRecDepth 100000 in
set_option maxHeartbeats 8000000 in
theorem trainsWait_any (vm vb vt : Value) (h : House) (t : Int) (H : Snap) (w : World) (hw : Holds H w) (hh : Hou H vm vb vt h) (ht : I64 t) :
    Calls Try.prog 6 #[houV vm vb vt h, .int .i64 t] w (PostV w (.bool true)) := by
  cases hg : far h
  · go_enter Try.func6, Try.ntmps6
    go_upto_region 4 with (first
      | (have hgd := x2; clear hgd; go_at_call 29; refine (copyH_any _ _ _ _ H1 _ x2.holds (hh.mono hle)).mono ?_; rintro e w3 ⟨v3, H3, rfl, y3, um, ub, ut, rfl, ho3⟩; obtain ⟨um1, um2, rfl, _, _⟩ := ho3.m.form; obtain ⟨ub1, ub2, rfl, _, _⟩ := ho3.b.form; obtain ⟨ut1, ut2, rfl, _, _⟩ := ho3.t.form; have x3 := x2.trans y3; have l3 := y3.le x2.holds)
      | (have hgd := hx; clear hgd; go_at_call 28; refine (far_any _ _ _ _ H1 _ hw1 (hh.mono hle)).mono ?_; rintro e w2 ⟨rfl, hb2⟩; rw [hg]; have x2 := hx.step (hb2.mono hx.below.size) (hw1.below hb2); have hw2 := x2.holds)
      | (refine wpList_boxF rfl _ rfl (Ext.refl hw) ?_; intro B w1 H1 hle hx hB hBw; obtain ⟨hc0, hc1, hc2, hc3⟩ := cellsHou hB; clear hB hw; have hw1 := hx.holds))
    obtain ⟨x5, l5, p5⟩ := x3.newF #[.slice um1 h.ms.length um2, .slice ub1 h.bs.length ub2, .slice ut1 h.ts.length ut2, .int .i64 h.ch] 26
    generalize H3.put w3.heap.size (.cells #[.slice um1 h.ms.length um2, .slice ub1 h.bs.length ub2, .slice ut1 h.ts.length ut2, .int .i64 h.ch] 26 (0, 0)) = H5 at *
    generalize w3.alloc (.cells #[.slice um1 h.ms.length um2, .slice ub1 h.bs.length ub2, .slice ut1 h.ts.length ut2, .int .i64 h.ch] 26) = w5 at *
    generalize w3.heap.size = C at *
    obtain ⟨hd0, hd1, hd2, hd3⟩ := cellsHou (h := h) p5
    have l15 := l3.trans l5
    replace hc0 := lift l15 hc0
    replace hc1 := lift l15 hc1
    replace hc2 := lift l15 hc2
    replace hc3 := lift l15 hc3
    have hhm := (hh.mono hle).mono l15
    have hom := ho3.mono l5
    have ho5 := x5.holds
    clear hh ho3 x3 x2 hx hw1 hle l3 l5 l15 p5 y3 hb2 hw2
    go_wp2_with (first
    | (have hgd := x10; clear hgd; go_at_call 16; refine (works_any H5 _ x10.holds).mono ?_; rintro e w11 ⟨rfl, hb11⟩; have x11 := x10.step (hb11.mono x10.below.size) (x10.holds.below hb11); have ho11 := ho10.below hb11)
    | (have hgd := x9; clear hgd; go_at_call 32; refine (same_any _ _ _ _ _ _ _ H5 _ x9.holds (hom.mono (SLe.refl _)) (hhm.mono (SLe.refl _))).mono ?_; rintro e w10 ⟨rfl, hb10⟩; have x10 := x9.step (hb10.mono x9.below.size) (x9.holds.below hb10); have ho10 := ho9.below hb10)
    | (have hgd := x8; clear hgd; go_at_call 31; refine (spare4_any _ _ _ _ H5 _ x8.holds (hhm.mono (SLe.refl _))).mono ?_; rintro e w9 ⟨rfl, hb9⟩; have x9 := x8.step (hb9.mono x8.below.size) (x8.holds.below hb9); have ho9 := ho8.below hb9)
    | (have hgd := x7; clear hgd; go_at_call 26; refine (spareP_any _ _ _ _ H5 _ x7.holds (hom.mono (SLe.refl _))).mono ?_; rintro e w8 ⟨rfl, hb8⟩; have x8 := x7.step (hb8.mono x7.below.size) (x7.holds.below hb8); have ho8 := ho7.below hb8)
    | (have hgd := x6; clear hgd; go_at_call 30; refine (wait4_any _ _ _ _ _ H5 _ x6.holds (hhm.mono (SLe.refl _))).mono ?_; rintro e w7 ⟨rfl, hb7⟩; have x7 := x6.step (hb7.mono x6.below.size) (x6.holds.below hb7); have ho7 := ho6.below hb7)
    | (have hgd := x5; clear hgd; go_at_call 23; refine (waitP_any _ _ _ _ _ ht H5 _ x5.holds (hom.mono (SLe.refl _))).mono ?_; rintro e w6 ⟨rfl, hb6⟩; have x6 := x5.step (hb6.mono x5.below.size) (x5.holds.below hb6); have ho6 := ho5.below hb6))
    go_ret
    exact ⟨rfl, x11.below⟩
  · go_enter Try.func6, Try.ntmps6
    go_wp2_with (first
      | (have hgd := x2; clear hgd; go_at_call 16; refine (works_any H1 _ x2.holds).mono ?_; rintro e w3 ⟨rfl, hb3⟩; have x3 := x2.step (hb3.mono x2.below.size) (x2.holds.below hb3))
      | (have hgd := hx; clear hgd; go_at_call 28; refine (far_any _ _ _ _ H1 _ hw1 (hh.mono hle)).mono ?_; rintro e w2 ⟨rfl, hb2⟩; rw [hg]; have x2 := hx.step (hb2.mono hx.below.size) (hw1.below hb2))
      | (refine wpList_boxF rfl _ rfl (Ext.refl hw) ?_; intro B w1 H1 hle hx hB hBw; obtain ⟨hc0, hc1, hc2, hc3⟩ := cellsHou hB; clear hB hw; have hw1 := hx.holds))
    go_ret
    exact ⟨rfl, x3.below⟩

end Go.Proofs.Yteijmboophnmgaa
