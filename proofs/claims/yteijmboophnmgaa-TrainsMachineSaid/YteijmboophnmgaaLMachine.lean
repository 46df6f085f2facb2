/- The walk of flonglaw04.TrainsMachine. -/
import Derived.Test.YteijmboophnmgaaHelp
import Derived.Test.YteijmboophnmgaaBehind
import Derived.Test.YteijmboophnmgaaLTold
namespace Go.Proofs.Yteijmboophnmgaa
open Go.RowKit

attribute [local go_sem] Holds.drew Holds.alloc Holds.drewN WB.holds

set_option maxRecDepth 100000 in
set_option maxHeartbeats 8000000 in
theorem trainsMachine_any (vm vb vt : Value) (h : House) (mr mp ms : Int) (H : Snap) (w : World) (hw : Holds H w) (hh : Hou H vm vb vt h) (hI : I64 mr ∧ I64 mp ∧ I64 ms) :
    Calls Try.prog 8 #[houV vm vb vt h, .agg #[.int .i64 mr, .int .i64 mp, .int .i64 ms]] w (PostV w (.bool true)) := by
  cases hr : readyB h
  · go_enter Try.func8, Try.ntmps8
    go_upto_region 1 with (refine wpList_boxF rfl _ rfl (Ext.refl hw) ?_; intro B w1 H1 hle hx hB hBw; obtain ⟨hc0, hc1, hc2, hc3⟩ := cellsHou hB; clear hB hw; have hw1 := hx.holds)
    have hxz := hx.alloc (.cells #[.int .i64 mr, .int .i64 mp, .int .i64 ms] 54)
    generalize w1.alloc (.cells #[.int .i64 mr, .int .i64 mp, .int .i64 ms] 54) = wz at *
    have hwz := hxz.holds
    go_wp2_with (first
      | (have hgd := x2; clear hgd; go_at_call 16; refine (works_any H1 _ x2.holds).mono ?_; rintro e w3 ⟨rfl, hb3⟩; have x3 := x2.step (hb3.mono x2.below.size) (x2.holds.below hb3))
      | (go_at_call 15; refine (ready_any _ _ _ _ H1 _ hwz (hh.mono hle)).mono ?_; rintro e w2 ⟨rfl, hb2⟩; rw [hr]; have x2 := hxz.step (hb2.mono hxz.below.size) (hwz.below hb2)))
    go_ret
    exact ⟨rfl, x3.below⟩
  · have hv := readyB_valid hr
    have hm3 := hv.m3
    go_enter Try.func8, Try.ntmps8
    go_upto_region 1 with (refine wpList_boxF rfl _ rfl (Ext.refl hw) ?_; intro B w1 H1 hle hx hB hBw; obtain ⟨hc0, hc1, hc2, hc3⟩ := cellsHou hB; clear hB hw; have hw1 := hx.holds)
    have hxz := hx.alloc (.cells #[.int .i64 mr, .int .i64 mp, .int .i64 ms] 54)
    have hM0 := heap_alloc_new w1 (.cells #[.int .i64 mr, .int .i64 mp, .int .i64 ms] 54)
    have hMn : H1 w1.heap.size = none := hw1.none_of_ge (Nat.le_refl _)
    have hMg : w.heap.size ≤ w1.heap.size := hx.below.size
    generalize w1.alloc (.cells #[.int .i64 mr, .int .i64 mp, .int .i64 ms] 54) = wz at *
    generalize w1.heap.size = M at *
    have hwz := hxz.holds
    have hMl : M < wz.heap.size := (Array.getElem?_eq_some_iff.1 hM0).1
    clear hx hw1
    go_upto_region 4 with (first
      | (have hgd := x2; clear hgd; go_at_call 29; refine (copy4_any _ _ _ _ H1 _ x2.holds (hh.mono hle)).mono ?_; rintro e w3 ⟨um, ub, ut, H3, rfl, y3, om, ob, ot⟩; obtain ⟨am, cm, rfl, _, _⟩ := om.form; obtain ⟨ab, cb, rfl, _, _⟩ := ob.form; obtain ⟨at', ct, rfl, _, _⟩ := ot.form)
      | (go_at_call 15; refine (ready_any _ _ _ _ H1 _ hwz (hh.mono hle)).mono ?_; rintro e w2 ⟨rfl, hb2⟩; rw [hr]; have x2 := hxz.step (hb2.mono hxz.below.size) (hwz.below hb2); have hw2 := x2.holds))
    have hM2 := (hb2.block M hMl).trans hM0
    have hMl2 : M < w2.heap.size := (Array.getElem?_eq_some_iff.1 hM2).1
    have hM3 := (y3.below.block M hMl2).trans hM2
    have hMn3 : H3 M = none := (y3.same M hMl2).trans hMn
    have hb4 := HBox.make (h := h) om ob ot hh.c y3.holds y3.below.size
    have x4 := (x2.trans y3).alloc (.cells #[.slice am h.ms.length cm, .slice ab h.bs.length cb, .slice at' h.ts.length ct, .int .i64 h.ch] 26)
    have hM4 := (heap_alloc_old w3 (.cells #[.slice am h.ms.length cm, .slice ab h.bs.length cb, .slice at' h.ts.length ct, .int .i64 h.ch] 26) (Array.getElem?_eq_some_iff.1 hM3).1).trans hM3
    have l3 := y3.le x2.holds
    have hwb : w.heap.size ≤ w2.heap.size := x2.below.size
    replace hc0 := lift l3 hc0
    replace hc1 := lift l3 hc1
    replace hc2 := lift l3 hc2
    replace hc3 := lift l3 hc3
    have hhm := (hh.mono hle).mono l3
    clear om ob ot y3 hw2 hM2 hM3 hM0 hMn hMl hwz hxz hb2 x2 l3 hle hh
    generalize w3.alloc (.cells #[.slice am h.ms.length cm, .slice ab h.bs.length cb, .slice at' h.ts.length ct, .int .i64 h.ch] 26) = w4 at *
    generalize w3.heap.size = C at *
    have m2 := cell_of_row w4 M 2 _ _ _ hM4
    simp at m2
    have f2 : w4.frozen? ⟨M, 2, none⟩ = false := by simp [World.frozen?, hM4]
    go_upto_region 5 with fail
    have hb5 := hb4.low (a := ⟨M, 2, none⟩) hMl2 (.int .i64 0)
    have x5 := x4.setCell (a := ⟨M, 2, none⟩) hMg hMn3 (.int .i64 0)
    have hM5 := heap_setCell_row (i := 2) hM4 (.int .i64 0)
    clear hb4 x4 hM4 m2 f2
    generalize w4.setCell ⟨M, 2, none⟩ (.int .i64 0) = w5 at *
    simp at hM5
    have m0 := cell_of_row w5 M 0 _ _ _ hM5
    have m1 := cell_of_row w5 M 1 _ _ _ hM5
    have m2 := cell_of_row w5 M 2 _ _ _ hM5
    simp at m0 m1 m2
    obtain ⟨e0, e1, e2, e3⟩ := hb5.cells
    have hfC := hb5.fz 0
    have hown := hb5.m
    have hw5 := x5.holds
    have hCn := hb5.hC
    have hCb := hb5.ge
    have hCl := hb5.lt
    go_upto_region 6 with (at_builtin; go_must (refine wpList_app1 (H := H3) (base := w2.heap.size) eMach rfl _ _ rfl rfl hown (x := ⟨mr, mp, 0⟩) rfl ⟨rfl, hI.1, hI.2.1, by show (-9223372036854775808 : Int) ≤ 0 ∧ (0 : Int) ≤ 9223372036854775807; omega⟩ hw5 (by simp [Enc.by_]; omega) (by omega) (by omega) ?_); intro v' w6 hown' hgr hwA hat; have hA := HBox.appM (hb5.alloc _) hown' hgr; obtain ⟨hrC, _, _⟩ := HBox.grownM (hb5.alloc _) hown' hgr; have hcC : w6.cell? ⟨C, 0, none⟩ = _ := cell_of_row w6 C 0 _ _ _ hrC; have hfC2 : w6.frozen? ⟨C, 0, none⟩ = false := (by simp [World.frozen?, hrC]); have hxA := Ext.setCell (a := ⟨C, 0, none⟩) (Ext.grown (x5.alloc _) hgr (fun q e => Nat.le_trans hwb (hown.lt q e).1) (fun q e => hown.free q e)) (Nat.le_trans hwb hCb) hCn v'; obtain ⟨a', c', rfl, _, _⟩ := hown'.form)
    rw [show (h.ms ++ [(⟨mr, mp, 0⟩ : Mach)]).length = h.ms.length + 1 by simp] at hA hxA
    obtain ⟨H6, x6, l6, hho, hC6⟩ := (hA.weaken hwb).closeC hxA
    replace hho : Hou H6 (.slice a' (h.ms.length + 1) c') (.slice ab h.bs.length cb) (.slice at' h.ts.length ct) (moreH h mr mp) := hho
    obtain ⟨hd0, hd1, hd2, hd3⟩ := cellsHou (h := moreH h mr mp) hC6
    obtain ⟨ks, S⟩ := more_sim h mr mp
    generalize w6.setCell ⟨C, 0, none⟩ (.slice a' (h.ms.length + 1) c') = w7 at *
    replace hc0 := lift l6 hc0
    replace hc1 := lift l6 hc1
    replace hc2 := lift l6 hc2
    replace hc3 := lift l6 hc3
    replace hhm := hhm.mono l6
    have hw6 := x6.holds
    clear hA hxA hgr hwA hat hown hown' hrC hcC hfC2 hfC e0 e1 e2 e3 m0 m1 m2 hM5 hb5 x5 hw5 hC6 l6 hCn hCb hCl hMn3 hMl2 hMg
    generalize moreH h mr mp = o at *
    generalize Value.slice a' (h.ms.length + 1) c' = um at *
    generalize Value.slice ab h.bs.length cb = ub at *
    generalize Value.slice at' h.ts.length ct = ut at *
    cases hvo : valid o
    · have he : errT (valid o) = 40 := by rw [hvo]; rfl
      go_wp2_with (first
        | (have hgd := x8; clear hgd; go_at_call 16; refine (works_any H6 _ x8.holds).mono ?_; rintro e w9 ⟨rfl, hb9⟩; have x9 := x8.step (hb9.mono x8.below.size) (x8.holds.below hb9))
        | (go_at_call 35; refine (check4_any _ _ _ _ H6 _ x6.holds hho).mono ?_; rintro e w8 ⟨rfl, hb8⟩; rw [he]; have x8 := x6.step (hb8.mono x6.below.size) (x6.holds.below hb8)))
      go_ret
      exact ⟨rfl, x9.below⟩
    · have he : errT (valid o) = 0 := by rw [hvo]; rfl
      have hov := valid_iff.1 hvo
      have hFle : fewestOf o ≤ fewestOf h := by
        have := S.fewest hv hov
        unfold fewestOf
        rw [hvo, valid_iff.2 hv, if_pos rfl, if_pos rfl]; omega
      have hTle := (S.told hv hov).2
      have hSS := (S.told hv hov).1 []
      clear S hvo
      go_upto_region 8 with (go_at_call 35; refine (check4_any _ _ _ _ H6 _ x6.holds hho).mono ?_; rintro e w8 ⟨rfl, hb8⟩; rw [he]; have x8 := x6.step (hb8.mono x6.below.size) (x6.holds.below hb8))
      have hw8 := x8.holds
      clear x6 hw6 hb8 he
      have hF1 : ∀ (H' : Snap) (w : World), Holds H' w → SLe H6 H' → Calls Try.prog 34 #[houV vm vb vt h] w (PostV w (.int .i64 (fewestOf h))) := fun H' w hw k => fewestL_any _ _ _ _ hv H' w hw (hhm.mono k)
      have hF2 : ∀ (H' : Snap) (w : World), Holds H' w → SLe H6 H' → Calls Try.prog 34 #[houV um ub ut o] w (PostV w (.int .i64 (fewestOf o))) := fun H' w hw k => fewestL_any _ _ _ _ hov H' w hw (hho.mono k)
      have hT1 : ∀ (H' : Snap) (w : World), Holds H' w → SLe H6 H' → Calls Try.prog 17 #[houV vm vb vt h] w (Post w H' fun v H' => ∃ u, v = .tuple #[u, .bool true] ∧ Sl H' u (toldOf h)) := fun H' w hw k => toldL_any _ _ _ _ hv H' w hw (hhm.mono k)
      have hT2 : ∀ (H' : Snap) (w : World), Holds H' w → SLe H6 H' → Calls Try.prog 17 #[houV um ub ut o] w (Post w H' fun v H' => ∃ u, v = .tuple #[u, .bool true] ∧ Sl H' u (toldOf o)) := fun H' w hw k => toldL_any _ _ _ _ hov H' w hw (hho.mono k)
      have hS1 : ∀ (H' : Snap) (w : World), Holds H' w → SLe H6 H' → Calls Try.prog 18 #[houV vm vb vt h] w (PostV w (.tuple #[.bool (sureB h []), .bool true])) := fun H' w hw k => sureL_any _ _ _ _ hv H' w hw (hhm.mono k)
      have hS2 : ∀ (H' : Snap) (w : World), Holds H' w → SLe H6 H' → Calls Try.prog 18 #[houV um ub ut o] w (PostV w (.tuple #[.bool (sureB o []), .bool true])) := fun H' w hw k => sureL_any _ _ _ _ hov H' w hw (hho.mono k)
      have hFb1 := (fewestOf_bd hv).1
      have hFb2 := (fewestOf_bd hov).1
      generalize fewestOf h = f1 at *
      generalize fewestOf o = f2 at *
      generalize toldOf h = l1 at *
      generalize toldOf o = l2 at *
      have hTle2 : (l2.length : Int) ≤ (l1.length : Int) := by omega
      clear hhm hho hv hov
      have hab : (sureB h [] = false ∧ sureB o [] = false) ∨ (sureB h [] = false ∧ sureB o [] = true) ∨ (sureB h [] = true ∧ sureB o [] = true) := by
        cases ha : sureB h []
        · cases sureB o [] <;> simp
        · rw [hSS ha]; simp
      clear hSS
      generalize sureB h [] = s1 at *
      generalize sureB o [] = s2 at *
      rcases hab with ⟨rfl, rfl⟩ | ⟨rfl, rfl⟩ | ⟨rfl, rfl⟩
      all_goals
        replace hF1 := Lib.hid hF1
        replace hF2 := Lib.hid hF2
        replace hT1 := Lib.hid hT1
        replace hT2 := Lib.hid hT2
        replace hS1 := Lib.hid hS1
        replace hS2 := Lib.hid hS2
        refine wp_region_quietB H6 (by kernel_rfl) (by kernel_rfl) hw8 (fun hne => ?_)
        repeat go_big_quiet_step ((first | (go_at_call_of 34 (Value.agg #[vm, vb, vt, .int .i64 h.ch]); exact Calls.quietB (hF1.out _ _ (WB.holds _) (SLe.refl _))) | (go_at_call_of 34 (Value.agg #[um, ub, ut, .int .i64 o.ch]); exact Calls.quietB (hF2.out _ _ (WB.holds _) (SLe.refl _)))))
        refine wpQuiet_nil ?_
        rintro ⟨w9, hw9, hb9⟩
        clear hne
        have x9 := x8.step (hb9.mono x8.below.size) hw9
        go_wp2_with (first
          | (have hgd := x13; clear hgd; go_at_call 16; refine (works_any HB _ x13.holds).mono ?_; rintro e w14 ⟨rfl, hb14⟩; have xE := x13.step (hb14.mono x13.below.size) (x13.holds.below hb14))
          | (have hgd := x12; clear hgd; go_at_call 18; refine (hS2.out HB _ x12.holds lAB).mono ?_; rintro e w13 ⟨rfl, hb13⟩; have x13 := x12.step (hb13.mono x12.below.size) (x12.holds.below hb13); have hw13 := x13.holds)
          | (have hgd := x11; clear hgd; go_at_call 18; refine (hS1.out HB _ x11.holds lAB).mono ?_; rintro e w12 ⟨rfl, hb12⟩; have x12 := x11.step (hb12.mono x11.below.size) (x11.holds.below hb12); have hw12 := x12.holds)
          | (have hgd := x10; clear hgd; go_at_call 17; refine (hT2.out HA _ x10.holds lA).mono ?_; rintro e w11 ⟨v11, HB, rfl, yB, uB, rfl, sB⟩; obtain ⟨aB, cB, rfl, _, _⟩ := sB.form; have x11 := x10.trans yB; have lB := yB.le x10.holds; have lAB := lA.trans lB; have hw11 := x11.holds; replace hc0 := lift lB hc0; replace hc1 := lift lB hc1; replace hc2 := lift lB hc2; replace hc3 := lift lB hc3; replace hd0 := lift lB hd0; replace hd1 := lift lB hd1; replace hd2 := lift lB hd2; replace hd3 := lift lB hd3)
          | (have hgd := x9; clear hgd; go_at_call 17; refine (hT1.out H6 _ x9.holds (SLe.refl _)).mono ?_; rintro e w10 ⟨v10, HA, rfl, yA, uA, rfl, sA⟩; obtain ⟨aA, cA, rfl, _, _⟩ := sA.form; have x10 := x9.trans yA; have lA := yA.le x9.holds; have hw10 := x10.holds; replace hc0 := lift lA hc0; replace hc1 := lift lA hc1; replace hc2 := lift lA hc2; replace hc3 := lift lA hc3; replace hd0 := lift lA hd0; replace hd1 := lift lA hd1; replace hd2 := lift lA hd2; replace hd3 := lift lA hd3))
        go_ret
        exact ⟨rfl, xE.below⟩
end Go.Proofs.Yteijmboophnmgaa
