/- The walk of flonglaw04.TrainsBetter. -/
import Derived.Test.YteijmboophnmgaaHelp
import Derived.Test.YteijmboophnmgaaBetter
import Derived.Test.YteijmboophnmgaaLTold
namespace Go.Proofs.Yteijmboophnmgaa
open Go.RowKit

attribute [local go_sem] Holds.drew Holds.alloc Holds.drewN WB.holds

set_option maxRecDepth 100000 in
set_option maxHeartbeats 8000000 in
theorem trainsBetter_any (vm vb vt : Value) (h : House) (m pc rd t lt cg bn : Int) (H : Snap) (w : World) (hw : Holds H w) (hh : Hou H vm vb vt h) (hI : I64 m ∧ I64 pc ∧ I64 rd ∧ I64 t ∧ I64 lt ∧ I64 cg ∧ I64 bn) :
    Calls Try.prog 7 #[houV vm vb vt h, .agg #[.int .i64 m, .int .i64 pc, .int .i64 rd, .int .i64 t, .int .i64 lt, .int .i64 cg, .int .i64 bn]] w (PostV w (.bool true)) := by
  cases hr : readyB h
  · go_enter Try.func7, Try.ntmps7
    go_wp2_with (first
      | (have hgd := x2; clear hgd; go_at_call 16; refine (works_any H1 _ x2.holds).mono ?_; rintro e w3 ⟨rfl, hb3⟩; have x3 := x2.step (hb3.mono x2.below.size) (x2.holds.below hb3))
      | (have hgd := hx; clear hgd; go_at_call 15; refine (ready_any _ _ _ _ H1 _ hw1 (hh.mono hle)).mono ?_; rintro e w2 ⟨rfl, hb2⟩; rw [hr]; have x2 := hx.step (hb2.mono hx.below.size) (hw1.below hb2))
      | (have hgd := hx0; refine wpList_boxF rfl _ rfl hx0 ?_; intro X w1 H1 hle2 hx hX hXw; obtain ⟨hX0, hX1, hX2, hX3, hX4, hX5, hX6⟩ := cells7 (a := m) (b := pc) (c := rd) (d := t) (e := lt) (f := cg) (g := bn) hX; clear hX hgd; replace hc0 := lift hle2 hc0; replace hc1 := lift hle2 hc1; replace hc2 := lift hle2 hc2; replace hc3 := lift hle2 hc3; have hle := hle0.trans hle2; have hw1 := hx.holds; clear hx0)
      | (refine wpList_boxF rfl _ rfl (Ext.refl hw) ?_; intro B w0 H0 hle0 hx0 hB hBw; obtain ⟨hc0, hc1, hc2, hc3⟩ := cellsHou hB; clear hB hw))
    go_ret
    exact ⟨rfl, x3.below⟩
  · have hv := readyB_valid hr
    have cB : ∀ (H' : Snap) (w : World), Holds H' w → SLe H H' → Calls Try.prog 33 #[houV vm vb vt h, .agg #[.int .i64 m, .int .i64 pc, .int .i64 rd, .int .i64 t, .int .i64 lt, .int .i64 cg, .int .i64 bn]] w (Post w H' (BetterPost h m pc rd t lt cg bn)) := fun H' w hw k => better_any _ _ _ h m pc rd t lt cg bn hI hv H' w hw (hh.mono k)
    replace cB := Lib.hid cB
    go_enter Try.func7, Try.ntmps7
    go_upto_region 4 with (first
      | (have hgd := x2; clear hgd; go_at_call 33; refine (cB.out H1 _ x2.holds hle).mono ?_; rintro e w3 ⟨v3, H3, rfl, y3, um, ub, ut, o, b, rfl, hho, hbet⟩; obtain ⟨am, cm, rfl, _, _⟩ := hho.m.form; obtain ⟨ab, cb, rfl, _, _⟩ := hho.b.form; obtain ⟨at', ct, rfl, _, _⟩ := hho.t.form; have x3 := x2.trans y3; have l3 := y3.le x2.holds)
      | (have hgd := hx; clear hgd; go_at_call 15; refine (ready_any _ _ _ _ H1 _ hw1 (hh.mono hle)).mono ?_; rintro e w2 ⟨rfl, hb2⟩; rw [hr]; have x2 := hx.step (hb2.mono hx.below.size) (hw1.below hb2); have hw2 := x2.holds)
      | (have hgd := hx0; refine wpList_boxF rfl _ rfl hx0 ?_; intro X w1 H1 hle2 hx hX hXw; obtain ⟨hX0, hX1, hX2, hX3, hX4, hX5, hX6⟩ := cells7 (a := m) (b := pc) (c := rd) (d := t) (e := lt) (f := cg) (g := bn) hX; clear hX hgd; replace hc0 := lift hle2 hc0; replace hc1 := lift hle2 hc1; replace hc2 := lift hle2 hc2; replace hc3 := lift hle2 hc3; have hle := hle0.trans hle2; have hw1 := hx.holds; clear hx0)
      | (refine wpList_boxF rfl _ rfl (Ext.refl hw) ?_; intro B w0 H0 hle0 hx0 hB hBw; obtain ⟨hc0, hc1, hc2, hc3⟩ := cellsHou hB; clear hB hw))
    obtain ⟨x5, l5, p5⟩ := x3.newF #[.slice am o.ms.length cm, .slice ab o.bs.length cb, .slice at' o.ts.length ct, .int .i64 o.ch] 26
    generalize H3.put w3.heap.size (.cells #[.slice am o.ms.length cm, .slice ab o.bs.length cb, .slice at' o.ts.length ct, .int .i64 o.ch] 26 (0, 0)) = H5 at *
    generalize w3.alloc (.cells #[.slice am o.ms.length cm, .slice ab o.bs.length cb, .slice at' o.ts.length ct, .int .i64 o.ch] 26) = w5 at *
    generalize w3.heap.size = C at *
    obtain ⟨hd0, hd1, hd2, hd3⟩ := cellsHou (h := o) p5
    have l15 := l3.trans l5
    replace hc0 := lift l15 hc0
    replace hc1 := lift l15 hc1
    replace hc2 := lift l15 hc2
    replace hc3 := lift l15 hc3
    have hhm := (hh.mono hle).mono l15
    replace hho := hho.mono l5
    have hw5 := x5.holds
    clear hh x3 x2 hx hw1 hle hle0 hle2 l3 l5 l15 p5 y3 hb2 hw2 hX0 hX1 hX2 hX3 hX4 hX5 hX6 cB
    generalize Value.slice am o.ms.length cm = um at *
    generalize Value.slice ab o.bs.length cb = ub at *
    generalize Value.slice at' o.ts.length ct = ut at *
    cases b
    · go_wp2_with (go_at_call 16; refine (works_any H5 _ x5.holds).mono ?_; rintro e w6 ⟨rfl, hb6⟩; have x6 := x5.step (hb6.mono x5.below.size) (x5.holds.below hb6))
      go_ret
      exact ⟨rfl, x6.below⟩
    · obtain ⟨hoe, hov, hb1, hb2, hb3, hb4⟩ := hbet rfl
      obtain ⟨ks, S⟩ := better_sim h (m := m) (pc := pc) (rd := rd) (t := t) (lt := lt) (cg := cg) (bn := bn) hb1 hb2 hb3 hb4
      rw [← hoe] at S
      have hvo := valid_iff.2 hov
      have hFle : fewestOf o ≤ fewestOf h := by
        have := S.fewest hv hov
        unfold fewestOf
        rw [hvo, valid_iff.2 hv, if_pos rfl, if_pos rfl]; omega
      have hTle := (S.told hv hov).2
      have hSS := (S.told hv hov).1 []
      clear S hvo hoe hb1 hb2 hb3 hb4 hbet
      go_upto_region 6 with fail
      have hF1 : ∀ (H' : Snap) (w : World), Holds H' w → SLe H5 H' → Calls Try.prog 34 #[houV vm vb vt h] w (PostV w (.int .i64 (fewestOf h))) := fun H' w hw k => fewestL_any _ _ _ _ hv H' w hw (hhm.mono k)
      have hF2 : ∀ (H' : Snap) (w : World), Holds H' w → SLe H5 H' → Calls Try.prog 34 #[houV um ub ut o] w (PostV w (.int .i64 (fewestOf o))) := fun H' w hw k => fewestL_any _ _ _ _ hov H' w hw (hho.mono k)
      have hT1 : ∀ (H' : Snap) (w : World), Holds H' w → SLe H5 H' → Calls Try.prog 17 #[houV vm vb vt h] w (Post w H' fun v H' => ∃ u, v = .tuple #[u, .bool true] ∧ Sl H' u (toldOf h)) := fun H' w hw k => toldL_any _ _ _ _ hv H' w hw (hhm.mono k)
      have hT2 : ∀ (H' : Snap) (w : World), Holds H' w → SLe H5 H' → Calls Try.prog 17 #[houV um ub ut o] w (Post w H' fun v H' => ∃ u, v = .tuple #[u, .bool true] ∧ Sl H' u (toldOf o)) := fun H' w hw k => toldL_any _ _ _ _ hov H' w hw (hho.mono k)
      have hS1 : ∀ (H' : Snap) (w : World), Holds H' w → SLe H5 H' → Calls Try.prog 18 #[houV vm vb vt h] w (PostV w (.tuple #[.bool (sureB h []), .bool true])) := fun H' w hw k => sureL_any _ _ _ _ hv H' w hw (hhm.mono k)
      have hS2 : ∀ (H' : Snap) (w : World), Holds H' w → SLe H5 H' → Calls Try.prog 18 #[houV um ub ut o] w (PostV w (.tuple #[.bool (sureB o []), .bool true])) := fun H' w hw k => sureL_any _ _ _ _ hov H' w hw (hho.mono k)
      have hFb1 := (fewestOf_bd hv).1
      have hFb2 := (fewestOf_bd hov).1
      generalize fewestOf h = f1 at *
      generalize fewestOf o = f2 at *
      generalize toldOf h = l1 at *
      generalize toldOf o = l2 at *
      have hTle2 : (l2.length : Int) ≤ (l1.length : Int) := by omega
      clear hhm hho hv hov
      have hab : (sureB h [] = false ∧ sureB o [] = false) ∨ (sureB h [] = false ∧ sureB o [] = true) ∨ (sureB h [] = true ∧ sureB o [] = true) := by
        cases ha : sureB h []
        · cases sureB o [] <;> simp
        · rw [hSS ha]; simp
      clear hSS
      generalize sureB h [] = s1 at *
      generalize sureB o [] = s2 at *
      rcases hab with ⟨rfl, rfl⟩ | ⟨rfl, rfl⟩ | ⟨rfl, rfl⟩
      all_goals
        replace hF1 := Lib.hid hF1
        replace hF2 := Lib.hid hF2
        replace hT1 := Lib.hid hT1
        replace hT2 := Lib.hid hT2
        replace hS1 := Lib.hid hS1
        replace hS2 := Lib.hid hS2
        refine wp_region_quietB H5 (by kernel_rfl) (by kernel_rfl) hw5 (fun hne => ?_)
        repeat go_big_quiet_step ((first | (go_at_call_of 34 (Value.agg #[vm, vb, vt, .int .i64 h.ch]); exact Calls.quietB (hF1.out _ _ (WB.holds _) (SLe.refl _))) | (go_at_call_of 34 (Value.agg #[um, ub, ut, .int .i64 o.ch]); exact Calls.quietB (hF2.out _ _ (WB.holds _) (SLe.refl _)))))
        refine wpQuiet_nil ?_
        rintro ⟨w6, hw6, hb6⟩
        clear hne
        have x6 := x5.step (hb6.mono x5.below.size) hw6
        go_wp2_with (first
          | (have hgd := x10; clear hgd; go_at_call 16; refine (works_any HB _ x10.holds).mono ?_; rintro e w11 ⟨rfl, hb11⟩; have xE := x10.step (hb11.mono x10.below.size) (x10.holds.below hb11))
          | (have hgd := x9; clear hgd; go_at_call 18; refine (hS2.out HB _ x9.holds lAB).mono ?_; rintro e w10 ⟨rfl, hb10⟩; have x10 := x9.step (hb10.mono x9.below.size) (x9.holds.below hb10); have hw10 := x10.holds)
          | (have hgd := x8; clear hgd; go_at_call 18; refine (hS1.out HB _ x8.holds lAB).mono ?_; rintro e w9 ⟨rfl, hb9⟩; have x9 := x8.step (hb9.mono x8.below.size) (x8.holds.below hb9); have hw9 := x9.holds)
          | (have hgd := x7; clear hgd; go_at_call 17; refine (hT2.out HA _ x7.holds lA).mono ?_; rintro e w8 ⟨v8, HB, rfl, yB, uB, rfl, sB⟩; obtain ⟨aB, cB, rfl, _, _⟩ := sB.form; have x8 := x7.trans yB; have lB := yB.le x7.holds; have lAB := lA.trans lB; have hw8 := x8.holds; replace hc0 := lift lB hc0; replace hc1 := lift lB hc1; replace hc2 := lift lB hc2; replace hc3 := lift lB hc3; replace hd0 := lift lB hd0; replace hd1 := lift lB hd1; replace hd2 := lift lB hd2; replace hd3 := lift lB hd3)
          | (have hgd := x6; clear hgd; go_at_call 17; refine (hT1.out H5 _ x6.holds (SLe.refl _)).mono ?_; rintro e w7 ⟨v7, HA, rfl, yA, uA, rfl, sA⟩; obtain ⟨aA, cA, rfl, _, _⟩ := sA.form; have x7 := x6.trans yA; have lA := yA.le x6.holds; have hw7 := x7.holds; replace hc0 := lift lA hc0; replace hc1 := lift lA hc1; replace hc2 := lift lA hc2; replace hc3 := lift lA hc3; replace hd0 := lift lA hd0; replace hd1 := lift lA hd1; replace hd2 := lift lA hd2; replace hd3 := lift lA hd3))
        go_ret
        exact ⟨rfl, xE.below⟩
end Go.Proofs.Yteijmboophnmgaa
