/- Proved here: MachinesBetterSaid: the law MachinesBetter returns true for every hall, train, minutes and machine, and the hall reads afterwards as it did. Conditions: none beyond those of the given statement. -/
import Derived.Test.YtngdppajailpcaaG24
import Derived.Test.YtngdppajailpcaaRows
import Derived.ProofKit

set_option linter.all false

namespace Go.Proofs.Ytngdppajailpcaa
open Go.RowKit

attribute [local go_sem] Holds.drew Holds.alloc Holds.drewN WB.holds Oper.semAt_some FW_fn FW_dep FW_round

set_option maxRecDepth 100000 in
set_option maxHeartbeats 8000000 in
theorem machinesBetter_any (vm vb vt vo ve : Value) (h : Hall) (t n m : Int) (H : Snap) (w : World) (hw : Holds H w) (hh : Hal H vm vb vt vo ve h) (ht64 : I64 t) (hn64 : I64 n) (hm64 : I64 m) :
    Calls Try.prog 6 #[halV vm vb vt vo ve h, .agg #[.int .i64 t, .int .i64 n, .int .i64 m]] w (PostV w (.bool true)) := by
  obtain ⟨t1, t2⟩ := ht64
  obtain ⟨n1, n2⟩ := hn64
  obtain ⟨mm1, mm2⟩ := hm64
  cases hr : ready9 h
  · go_enter Try.func6, Try.ntmps6
    go_wp2_with (first
      | (have hgd := x2; clear hgd; go_at_call 13; refine (works9_any H1 _ x2.holds).mono ?_; rintro e w3 ⟨rfl, hb3⟩; have x3 := x2.step (hb3.mono x2.below.size) (x2.holds.below hb3); have hw3 := x3.holds)
      | (have hgd := x1; clear hgd; go_at_call 11; refine (ready9_any _ _ _ _ _ _ H1 _ x1.holds (hh.mono hle)).mono ?_; rintro e w2 ⟨rfl, hb2⟩; rw [hr]; have x2 := x1.step (hb2.mono x1.below.size) (x1.holds.below hb2); have hw2 := x2.holds)
      | (have hgd := hx0; clear hgd; refine wpList_boxF rfl _ rfl hx0 ?_; intro XB w1 H1 hle1 hx hX hXb; have hle := hle0.trans hle1; obtain ⟨hc0, hc1, hc2, hc3, hc4, hc5⟩ := cellsHal (h := h) (hle1 _ _ hB); have hX1 : H1 XB = some (.cells #[.int .i64 t, .int .i64 n, .int .i64 m] 56 (0, 0)) := hX; have hX0 : ∀ w, Holds H1 w → w.cell? ⟨XB, 0, none⟩ = some (.int .i64 t) := fun w hw => cellH hX1 hw 0; have hX1' : ∀ w, Holds H1 w → w.cell? ⟨XB, 1, none⟩ = some (.int .i64 n) := fun w hw => cellH hX1 hw 1; have hX2 : ∀ w, Holds H1 w → w.cell? ⟨XB, 2, none⟩ = some (.int .i64 m) := fun w hw => cellH hX1 hw 2; clear hx0 hB hX hX1 hle0 hle1; have hw1 := hx.holds; have x1 := hx)
      | (have hgd := hw; clear hgd; refine wpList_boxF rfl _ rfl (Ext.refl hw) ?_; intro B w0 H0 hle0 hx0 hB hBw; clear hw))
    go_ret
    exact ⟨rfl, x3.below⟩
  · have hv := ready9_valid hr
    cases m0 : within n 0 99
    · go_enter Try.func6, Try.ntmps6
      go_wp2_with (first
        | (have hgd := x3; clear hgd; go_at_call 13; refine (works9_any H1 _ x3.holds).mono ?_; rintro e w4 ⟨rfl, hb4⟩; have x4 := x3.step (hb4.mono x3.below.size) (x3.holds.below hb4); have hw4 := x4.holds)
        | (have hgd := x2; clear hgd; go_at_call 27; refine (within_any _ _ _ _).mono ?_; rintro e w3 ⟨rfl, rfl⟩; rw [m0]; have x3 := x2; have hw3 := x3.holds)
        | (have hgd := x1; clear hgd; go_at_call 11; refine (ready9_any _ _ _ _ _ _ H1 _ x1.holds (hh.mono hle)).mono ?_; rintro e w2 ⟨rfl, hb2⟩; rw [hr]; have x2 := x1.step (hb2.mono x1.below.size) (x1.holds.below hb2); have hw2 := x2.holds)
        | (have hgd := hx0; clear hgd; refine wpList_boxF rfl _ rfl hx0 ?_; intro XB w1 H1 hle1 hx hX hXb; have hle := hle0.trans hle1; obtain ⟨hc0, hc1, hc2, hc3, hc4, hc5⟩ := cellsHal (h := h) (hle1 _ _ hB); have hX1 : H1 XB = some (.cells #[.int .i64 t, .int .i64 n, .int .i64 m] 56 (0, 0)) := hX; have hX0 : ∀ w, Holds H1 w → w.cell? ⟨XB, 0, none⟩ = some (.int .i64 t) := fun w hw => cellH hX1 hw 0; have hX1' : ∀ w, Holds H1 w → w.cell? ⟨XB, 1, none⟩ = some (.int .i64 n) := fun w hw => cellH hX1 hw 1; have hX2 : ∀ w, Holds H1 w → w.cell? ⟨XB, 2, none⟩ = some (.int .i64 m) := fun w hw => cellH hX1 hw 2; clear hx0 hB hX hX1 hle0 hle1; have hw1 := hx.holds; have x1 := hx)
        | (have hgd := hw; clear hgd; refine wpList_boxF rfl _ rfl (Ext.refl hw) ?_; intro B w0 H0 hle0 hx0 hB hBw; clear hw))
      go_ret
      exact ⟨rfl, x4.below⟩
    · obtain ⟨hsz, hs2⟩ := ed_small hv
      have an := within_iff.1 m0
      obtain ⟨N, hN⟩ : ∃ N, numC h zero12 = N := ⟨_, rfl⟩
      cases mt : within t 0 ((h.hs.ts.length : Int) - 1)
      · go_enter Try.func6, Try.ntmps6
        go_upto_region 13 with (first
          | (have hgd := x4; clear hgd; go_at_call 28; refine (isTrain4_any _ _ _ _ t H1 _ x4.holds (hh.mono hle).hs).mono ?_; rintro e w5 ⟨rfl, hb5⟩; rw [mt]; have x5 := x4.step (hb5.mono x4.below.size) (x4.holds.below hb5); have hw5 := x5.holds)
          | (have hgd := x3; clear hgd; go_at_call 14; refine (fewestL9_any _ _ _ _ _ _ hv H1 _ x3.holds (hh.mono hle)).mono ?_; rintro e w4 ⟨rfl, hb4⟩; rw [hN]; have x4 := x3.step (hb4.mono x3.below.size) (x3.holds.below hb4); have hw4 := x4.holds)
          | (have hgd := x2; clear hgd; go_at_call 27; refine (within_any _ _ _ _).mono ?_; rintro e w3 ⟨rfl, rfl⟩; rw [m0]; have x3 := x2; have hw3 := x3.holds)
          | (have hgd := x1; clear hgd; go_at_call 11; refine (ready9_any _ _ _ _ _ _ H1 _ x1.holds (hh.mono hle)).mono ?_; rintro e w2 ⟨rfl, hb2⟩; rw [hr]; have x2 := x1.step (hb2.mono x1.below.size) (x1.holds.below hb2); have hw2 := x2.holds)
          | (have hgd := hx0; clear hgd; refine wpList_boxF rfl _ rfl hx0 ?_; intro XB w1 H1 hle1 hx hX hXb; have hle := hle0.trans hle1; obtain ⟨hc0, hc1, hc2, hc3, hc4, hc5⟩ := cellsHal (h := h) (hle1 _ _ hB); have hX1 : H1 XB = some (.cells #[.int .i64 t, .int .i64 n, .int .i64 m] 56 (0, 0)) := hX; have hX0 : ∀ w, Holds H1 w → w.cell? ⟨XB, 0, none⟩ = some (.int .i64 t) := fun w hw => cellH hX1 hw 0; have hX1' : ∀ w, Holds H1 w → w.cell? ⟨XB, 1, none⟩ = some (.int .i64 n) := fun w hw => cellH hX1 hw 1; have hX2 : ∀ w, Holds H1 w → w.cell? ⟨XB, 2, none⟩ = some (.int .i64 m) := fun w hw => cellH hX1 hw 2; clear hx0 hB hX hX1 hle0 hle1; have hw1 := hx.holds; have x1 := hx)
          | (have hgd := hw; clear hgd; refine wpList_boxF rfl _ rfl (Ext.refl hw) ?_; intro B w0 H0 hle0 hx0 hB hBw; clear hw))
        have hhz := hh.mono hle
        cases mm : within m 0 ((h.hs.ms.length : Int) - 1)
        · go_wp2_with (first
            | (have hgd := x6; clear hgd; go_at_call 13; refine (works9_any H1 _ x6.holds).mono ?_; rintro e w7 ⟨rfl, hb7⟩; have x7 := x6.step (hb7.mono x6.below.size) (x6.holds.below hb7); have hw7 := x7.holds)
            | (have hgd := x5; clear hgd; go_at_call 22; refine (isMachine4_any _ _ _ _ m H1 _ x5.holds hhz.hs).mono ?_; rintro e w6 ⟨rfl, hb6⟩; rw [mm]; have x6 := x5.step (hb6.mono x5.below.size) (x5.holds.below hb6); have hw6 := x6.holds))
          go_ret
          exact ⟨rfl, x7.below⟩
        · have am := within_iff.1 mm
          obtain ⟨q, rfl⟩ : ∃ q : Nat, m = (q : Int) := ⟨m.toNat, by omega⟩
          have hqm : q < h.hs.ms.length := by omega
          have hq0 : (0 : Int) ≤ (q : Int) := by omega
          have hq1 : (q : Int) < (h.hs.ms.length : Int) := by omega
          have hvs := still_valid hv hqm
          have hleS := ((still_better h q).fewer hv hvs).2
          obtain ⟨NS, hNS⟩ : ∃ N, numC (still9 h q) zero12 = N := ⟨_, rfl⟩
          rw [hN, hNS] at hleS
          obtain ⟨mc, hmc⟩ := At.mk hqm
          have hmst : still9 h q = { h with hs := { h.hs with ms := h.hs.ms.set q { mc with s := 0 } } } := by unfold still9; rw [hmc.mach]
          go_upto_region 16 with (first
            | (have hgd := x6; clear hgd; go_at_call 23; refine (copy9_any _ _ _ _ _ h H1 _ x6.holds hhz hsz hs2).mono ?_; rintro e w7 ⟨um, ub, ut, uo, ue, H7, rfl, x7, K⟩; obtain ⟨aM, cM, rfl, _, _⟩ := K.m.form; obtain ⟨aB, cB, rfl, _, _⟩ := K.b.form; obtain ⟨aT, cT, rfl, _, _⟩ := K.t.form; obtain ⟨aO, cO, rfl, _, _⟩ := K.o.form; obtain ⟨aE, cE, rfl, _, _⟩ := K.e.form)
            | (have hgd := x5; clear hgd; go_at_call 22; refine (isMachine4_any _ _ _ _ (q : Int) H1 _ x5.holds hhz.hs).mono ?_; rintro e w6 ⟨rfl, hb6⟩; rw [mm]; have x6 := x5.step (hb6.mono x5.below.size) (x5.holds.below hb6); have hw6 := x6.holds))
          have l7 := x7.le x6.holds
          have hb8 := KBox.make K x7.holds x7.below.size
          have x8 := (x6.trans x7).alloc (.cells #[.slice aM h.hs.ms.length cM, .slice aB h.hs.bs.length cB, .slice aT h.hs.ts.length cT, .int .i64 h.hs.ch, .slice aO h.bo.length cO, .slice aE h.ed.length cE] 29)
          have hwb8 : w.heap.size ≤ w6.heap.size := x6.below.size
          have hh7 := hhz.mono l7
          generalize w7.alloc (.cells #[.slice aM h.hs.ms.length cM, .slice aB h.hs.bs.length cB, .slice aT h.hs.ts.length cT, .int .i64 h.hs.ch, .slice aO h.bo.length cO, .slice aE h.ed.length cE] 29) = w8 at *
          generalize w7.heap.size = D at *
          clear K
          replace hc0 := lift l7 hc0
          replace hc1 := lift l7 hc1
          replace hc2 := lift l7 hc2
          replace hc3 := lift l7 hc3
          replace hc4 := lift l7 hc4
          replace hc5 := lift l7 hc5
          replace hX0 := lift l7 hX0
          replace hX1' := lift l7 hX1'
          replace hX2 := lift l7 hX2
          obtain ⟨g, cg, heg, ⟨i1, i2, i3⟩, q0, q1, q2, hf, hgb, hgH, hgl, hgC, hset⟩ := hb8.setM hmc
          cases heg
          obtain ⟨c0, c1, c2, c3, c4, c5⟩ := hb8.cells
          have hD := hb8.lt
          have hwE := x8.holds
          have hs3 := (hset { mc with s := 0 } i1 i2 (show I64 0 from ⟨by omega, by omega⟩)).alloc (.cells #[.int .i64 mc.r, .int .i64 mc.p, .int .i64 0] 58)
          rw [← hmst] at hs3
          have xS := (((x8.setCell (a := ⟨g, q * 3, none⟩) (Nat.le_trans hwb8 hgb) hgH (.int .i64 mc.r)).setCell (a := ⟨g, q * 3 + 1, none⟩) (Nat.le_trans hwb8 hgb) hgH (.int .i64 mc.p)).setCell (a := ⟨g, q * 3 + 2, none⟩) (Nat.le_trans hwb8 hgb) hgH (.int .i64 0)).alloc (.cells #[.int .i64 mc.r, .int .i64 mc.p, .int .i64 0] 58)
          have hf0 := hf (q * 3)
          have hf1 := hf (q * 3 + 1)
          have hf2 := hf (q * 3 + 2)
          clear hset hf
          replace hs3 := Lib.hid hs3
          replace xS := Lib.hid xS
          go_upto_region 19 with fail
          have hs4 := hs3.out
          have xT := xS.out
          generalize World.alloc (((World.setCell w8 ⟨g, q * 3, none⟩ (.int .i64 mc.r)).setCell ⟨g, q * 3 + 1, none⟩ (.int .i64 mc.p)).setCell ⟨g, q * 3 + 2, none⟩ (.int .i64 0)) (.cells #[.int .i64 mc.r, .int .i64 mc.p, .int .i64 0] 58) = wT at *
          obtain ⟨HT, xU, lU, hhU, hDU⟩ := (hs4.weaken hwb8).closeC xT
          obtain ⟨hd0, hd1, hd2, hd3, hd4, hd5⟩ := cellsHal (h := still9 h q) hDU
          have hwT := xU.holds
          go_wp2_with (first
            | (have hgd := xV; clear hgd; go_at_call 13; refine (works9_any HT _ xV.holds).mono ?_; rintro e wW ⟨rfl, hbW⟩; have xW := xV.step (hbW.mono xV.below.size) (xV.holds.below hbW))
            | (have hgd := xU; clear hgd; go_at_call 14; refine (fewestL9_any _ _ _ _ _ _ hvs HT _ xU.holds hhU).mono ?_; rintro e wV ⟨rfl, hbV⟩; rw [hNS]; have xV := xU.step (hbV.mono xU.below.size) (xU.holds.below hbV)))
          go_ret
          exact ⟨rfl, xW.below⟩
      · have at' := within_iff.1 mt
        obtain ⟨p, rfl⟩ : ∃ p : Nat, t = (p : Int) := ⟨t.toNat, by omega⟩
        have hpt : p < h.hs.ts.length := by omega
        have hp0 : (0 : Int) ≤ (p : Int) := by omega
        have hp1 : (p : Int) < (h.hs.ts.length : Int) := by omega
        obtain ⟨z, hz⟩ := At.mk hpt
        have hzb := within_iff.1 (List.all_eq_true.1 hv.hs.ts z hz.mem)
        have hlat : later9 h p n = { h with hs := { h.hs with ts := h.hs.ts.set p (z + n) } } := by
          unfold later9 laterH; rw [hz.getD]
        have hbet := later_better h p (n := n) an.1
        go_enter Try.func6, Try.ntmps6
        go_upto_region 8 with (first
          | (have hgd := x5; clear hgd; go_at_call 23; refine (copy9_any _ _ _ _ _ h H1 _ x5.holds (hh.mono hle) hsz hs2).mono ?_; rintro e w6 ⟨um, ub, ut, uo, ue, H6, rfl, x6, K⟩; obtain ⟨aM, cM, rfl, _, _⟩ := K.m.form; obtain ⟨aB, cB, rfl, _, _⟩ := K.b.form; obtain ⟨aT, cT, rfl, _, _⟩ := K.t.form; obtain ⟨aO, cO, rfl, _, _⟩ := K.o.form; obtain ⟨aE, cE, rfl, _, _⟩ := K.e.form)
          | (have hgd := x4; clear hgd; go_at_call 28; refine (isTrain4_any _ _ _ _ (p : Int) H1 _ x4.holds (hh.mono hle).hs).mono ?_; rintro e w5 ⟨rfl, hb5⟩; rw [mt]; have x5 := x4.step (hb5.mono x4.below.size) (x4.holds.below hb5); have hw5 := x5.holds)
          | (have hgd := x3; clear hgd; go_at_call 14; refine (fewestL9_any _ _ _ _ _ _ hv H1 _ x3.holds (hh.mono hle)).mono ?_; rintro e w4 ⟨rfl, hb4⟩; rw [hN]; have x4 := x3.step (hb4.mono x3.below.size) (x3.holds.below hb4); have hw4 := x4.holds)
          | (have hgd := x2; clear hgd; go_at_call 27; refine (within_any _ _ _ _).mono ?_; rintro e w3 ⟨rfl, rfl⟩; rw [m0]; have x3 := x2; have hw3 := x3.holds)
          | (have hgd := x1; clear hgd; go_at_call 11; refine (ready9_any _ _ _ _ _ _ H1 _ x1.holds (hh.mono hle)).mono ?_; rintro e w2 ⟨rfl, hb2⟩; rw [hr]; have x2 := x1.step (hb2.mono x1.below.size) (x1.holds.below hb2); have hw2 := x2.holds)
          | (have hgd := hx0; clear hgd; refine wpList_boxF rfl _ rfl hx0 ?_; intro XB w1 H1 hle1 hx hX hXb; have hle := hle0.trans hle1; obtain ⟨hc0, hc1, hc2, hc3, hc4, hc5⟩ := cellsHal (h := h) (hle1 _ _ hB); have hX1 : H1 XB = some (.cells #[.int .i64 (p : Int), .int .i64 n, .int .i64 m] 56 (0, 0)) := hX; have hX0 : ∀ w, Holds H1 w → w.cell? ⟨XB, 0, none⟩ = some (.int .i64 (p : Int)) := fun w hw => cellH hX1 hw 0; have hX1' : ∀ w, Holds H1 w → w.cell? ⟨XB, 1, none⟩ = some (.int .i64 n) := fun w hw => cellH hX1 hw 1; have hX2 : ∀ w, Holds H1 w → w.cell? ⟨XB, 2, none⟩ = some (.int .i64 m) := fun w hw => cellH hX1 hw 2; clear hx0 hB hX hX1 hle0 hle1; have hw1 := hx.holds; have x1 := hx)
          | (have hgd := hw; clear hgd; refine wpList_boxF rfl _ rfl (Ext.refl hw) ?_; intro B w0 H0 hle0 hx0 hB hBw; clear hw))
        have l6 := x6.le x5.holds
        have hb7 := KBox.make K x6.holds x6.below.size
        have x7 := (x5.trans x6).alloc (.cells #[.slice aM h.hs.ms.length cM, .slice aB h.hs.bs.length cB, .slice aT h.hs.ts.length cT, .int .i64 h.hs.ch, .slice aO h.bo.length cO, .slice aE h.ed.length cE] 29)
        have hwb7 : w.heap.size ≤ w5.heap.size := x5.below.size
        have hh6 := (hh.mono hle).mono l6
        generalize w6.alloc (.cells #[.slice aM h.hs.ms.length cM, .slice aB h.hs.bs.length cB, .slice aT h.hs.ts.length cT, .int .i64 h.hs.ch, .slice aO h.bo.length cO, .slice aE h.ed.length cE] 29) = w7 at *
        generalize w6.heap.size = C at *
        clear K
        replace hc0 := lift l6 hc0
        replace hc1 := lift l6 hc1
        replace hc2 := lift l6 hc2
        replace hc3 := lift l6 hc3
        replace hc4 := lift l6 hc4
        replace hc5 := lift l6 hc5
        replace hX0 := lift l6 hX0
        replace hX1' := lift l6 hX1'
        replace hX2 := lift l6 hX2
        obtain ⟨g, cg, heg, i0, hcl, hfz, hgb, hgH, hgl, hgC, hset⟩ := hb7.setT hz
        cases heg
        obtain ⟨c0, c1, c2, c3, c4, c5⟩ := hb7.cells
        have hC := hb7.lt
        have d2 : ∀ X : WB H6 w7, X.w.cell? ⟨C, 2, none⟩ = some (.slice (some ⟨g, 0, none⟩) h.hs.ts.length cT) := fun X => (X.old C 2 hC).trans c2
        have d3 : ∀ X : WB H6 w7, X.w.cell? ⟨g, p, none⟩ = some (.int .i64 z) := fun X => (X.old g p hgl).trans hcl
        have hw7 := x7.holds
        refine (wpIn_wide (n := 3)).1 ?_
        show Code.wpIn (FW none) 3 _ _ _ _ _
        have hnq : Nonempty (WB H6 w7) := ⟨⟨w7, hw7, Below.refl _ _⟩⟩
        refine wpIn_region_qtail (C := fun w' => ∃ x : WB H6 w7, w' = x.w) 11 (by kernel_rfl) (by kernel_rfl) (by kernel_rfl) ⟨⟨World.drew w7, Holds.drew hw7, (Below.refl _ _).drew⟩, rfl⟩ ?_
        simp only [List.take_succ_cons, List.take_zero, List.drop_succ_cons, List.drop_zero]
        repeat go_big_quiet_step ((first | (fail)))
        refine wpQuiet_nil ?_
        clear hnq
        rintro w2 ⟨⟨_, hw2, hb2⟩, rfl⟩
        have xb : Ext w7 H6 w2 H6 := ⟨hb2, hw2, fun _ _ => rfl⟩
        obtain ⟨_, _, he', _, hcl2, hfz2, _, _, _, _, hset2⟩ := (hb7.ext hw7 xb).setT hz
        cases he'
        have hb8 := hset2 (z + n) (by unfold I64; omega)
        rw [← hlat] at hb8
        have x8 := (x7.trans xb).setCell (a := ⟨g, p, none⟩) (Nat.le_trans hwb7 hgb) hgH (.int .i64 (z + n))
        clear hset hset2 d2 d3
        gi_wp2
        try clear h
        generalize World.setCell w2 ⟨g, p, none⟩ (.int .i64 (z + n)) = w8 at *
        obtain ⟨H9, x9, l9, hho, hC9⟩ := (hb8.weaken hwb7).closeC x8
        obtain ⟨hd0, hd1, hd2, hd3, hd4, hd5⟩ := cellsHal (h := later9 h p n) hC9
        have hh9 := hh6.mono l9
        have hw9 := x9.holds
        replace hc0 := lift l9 hc0
        replace hc1 := lift l9 hc1
        replace hc2 := lift l9 hc2
        replace hc3 := lift l9 hc3
        replace hc4 := lift l9 hc4
        replace hc5 := lift l9 hc5
        replace hX0 := lift l9 hX0
        replace hX1' := lift l9 hX1'
        replace hX2 := lift l9 hX2
        clear hb8 hb7 x8 x7 hlat
        cases hro : ready9 (later9 h p n)
        · go_upto_region 13 with (first
            | (have hgd := x9; clear hgd; go_at_call 11; refine (ready9_any _ _ _ _ _ _ H9 _ x9.holds hho).mono ?_; rintro e w10 ⟨rfl, hb10⟩; rw [hro]; have x10 := x9.step (hb10.mono x9.below.size) (x9.holds.below hb10); have hw10 := x10.holds))
          cases mm : within m 0 ((h.hs.ms.length : Int) - 1)
          · go_wp2_with (first
              | (have hgd := x11; clear hgd; go_at_call 13; refine (works9_any H9 _ x11.holds).mono ?_; rintro e w12 ⟨rfl, hb12⟩; have x12 := x11.step (hb12.mono x11.below.size) (x11.holds.below hb12); have hw12 := x12.holds)
              | (have hgd := x10; clear hgd; go_at_call 22; refine (isMachine4_any _ _ _ _ m H9 _ x10.holds hh9.hs).mono ?_; rintro e w11 ⟨rfl, hb11⟩; rw [mm]; have x11 := x10.step (hb11.mono x10.below.size) (x10.holds.below hb11); have hw11 := x11.holds))
            go_ret
            exact ⟨rfl, x12.below⟩
          · have am := within_iff.1 mm
            obtain ⟨q, rfl⟩ : ∃ q : Nat, m = (q : Int) := ⟨m.toNat, by omega⟩
            have hqm : q < h.hs.ms.length := by omega
            have hq0 : (0 : Int) ≤ (q : Int) := by omega
            have hq1 : (q : Int) < (h.hs.ms.length : Int) := by omega
            have hvs := still_valid hv hqm
            have hleS := ((still_better h q).fewer hv hvs).2
            obtain ⟨NS, hNS⟩ : ∃ N, numC (still9 h q) zero12 = N := ⟨_, rfl⟩
            rw [hN, hNS] at hleS
            obtain ⟨mc, hmc⟩ := At.mk hqm
            have hmst : still9 h q = { h with hs := { h.hs with ms := h.hs.ms.set q { mc with s := 0 } } } := by unfold still9; rw [hmc.mach]
            go_upto_region 16 with (first
              | (have hgd := x11; clear hgd; go_at_call 23; refine (copy9_any _ _ _ _ _ h H9 _ x11.holds hh9 hsz hs2).mono ?_; rintro e w12 ⟨um, ub, ut, uo, ue, H12, rfl, x12, K⟩; obtain ⟨aM, cM, rfl, _, _⟩ := K.m.form; obtain ⟨aB, cB, rfl, _, _⟩ := K.b.form; obtain ⟨aT, cT, rfl, _, _⟩ := K.t.form; obtain ⟨aO, cO, rfl, _, _⟩ := K.o.form; obtain ⟨aE, cE, rfl, _, _⟩ := K.e.form)
              | (have hgd := x10; clear hgd; go_at_call 22; refine (isMachine4_any _ _ _ _ (q : Int) H9 _ x10.holds hh9.hs).mono ?_; rintro e w11 ⟨rfl, hb11⟩; rw [mm]; have x11 := x10.step (hb11.mono x10.below.size) (x10.holds.below hb11); have hw11 := x11.holds))
            have l12 := x12.le x11.holds
            have hb13 := KBox.make K x12.holds x12.below.size
            have x13 := (x11.trans x12).alloc (.cells #[.slice aM h.hs.ms.length cM, .slice aB h.hs.bs.length cB, .slice aT h.hs.ts.length cT, .int .i64 h.hs.ch, .slice aO h.bo.length cO, .slice aE h.ed.length cE] 29)
            have hwb13 : w.heap.size ≤ w11.heap.size := x11.below.size
            have hh12 := hh9.mono l12
            generalize w12.alloc (.cells #[.slice aM h.hs.ms.length cM, .slice aB h.hs.bs.length cB, .slice aT h.hs.ts.length cT, .int .i64 h.hs.ch, .slice aO h.bo.length cO, .slice aE h.ed.length cE] 29) = w13 at *
            generalize w12.heap.size = D at *
            clear K
            replace hc0 := lift l12 hc0
            replace hc1 := lift l12 hc1
            replace hc2 := lift l12 hc2
            replace hc3 := lift l12 hc3
            replace hc4 := lift l12 hc4
            replace hc5 := lift l12 hc5
            replace hX0 := lift l12 hX0
            replace hX1' := lift l12 hX1'
            replace hX2 := lift l12 hX2
            obtain ⟨g, cg, heg, ⟨i1, i2, i3⟩, q0, q1, q2, hf, hgb, hgH, hgl, hgC, hset⟩ := hb13.setM hmc
            cases heg
            obtain ⟨c0, c1, c2, c3, c4, c5⟩ := hb13.cells
            have hD := hb13.lt
            have hwE := x13.holds
            have hs3 := (hset { mc with s := 0 } i1 i2 (show I64 0 from ⟨by omega, by omega⟩)).alloc (.cells #[.int .i64 mc.r, .int .i64 mc.p, .int .i64 0] 58)
            rw [← hmst] at hs3
            have xS := (((x13.setCell (a := ⟨g, q * 3, none⟩) (Nat.le_trans hwb13 hgb) hgH (.int .i64 mc.r)).setCell (a := ⟨g, q * 3 + 1, none⟩) (Nat.le_trans hwb13 hgb) hgH (.int .i64 mc.p)).setCell (a := ⟨g, q * 3 + 2, none⟩) (Nat.le_trans hwb13 hgb) hgH (.int .i64 0)).alloc (.cells #[.int .i64 mc.r, .int .i64 mc.p, .int .i64 0] 58)
            have hf0 := hf (q * 3)
            have hf1 := hf (q * 3 + 1)
            have hf2 := hf (q * 3 + 2)
            clear hset hf
            replace hs3 := Lib.hid hs3
            replace xS := Lib.hid xS
            go_upto_region 19 with fail
            have hs4 := hs3.out
            have xT := xS.out
            generalize World.alloc (((World.setCell w13 ⟨g, q * 3, none⟩ (.int .i64 mc.r)).setCell ⟨g, q * 3 + 1, none⟩ (.int .i64 mc.p)).setCell ⟨g, q * 3 + 2, none⟩ (.int .i64 0)) (.cells #[.int .i64 mc.r, .int .i64 mc.p, .int .i64 0] 58) = wT at *
            obtain ⟨HT, xU, lU, hhU, hDU⟩ := (hs4.weaken hwb13).closeC xT
            obtain ⟨hd0, hd1, hd2, hd3, hd4, hd5⟩ := cellsHal (h := still9 h q) hDU
            have hwT := xU.holds
            go_wp2_with (first
              | (have hgd := xV; clear hgd; go_at_call 13; refine (works9_any HT _ xV.holds).mono ?_; rintro e wW ⟨rfl, hbW⟩; have xW := xV.step (hbW.mono xV.below.size) (xV.holds.below hbW))
              | (have hgd := xU; clear hgd; go_at_call 14; refine (fewestL9_any _ _ _ _ _ _ hvs HT _ xU.holds hhU).mono ?_; rintro e wV ⟨rfl, hbV⟩; rw [hNS]; have xV := xU.step (hbV.mono xU.below.size) (xU.holds.below hbV)))
            go_ret
            exact ⟨rfl, xW.below⟩
        · have hvo := ready9_valid hro
          have hleO := (hbet.fewer hv hvo).2
          obtain ⟨NO, hNO⟩ : ∃ N, numC (later9 h p n) zero12 = N := ⟨_, rfl⟩
          rw [hN, hNO] at hleO
          go_upto_region 13 with (first
            | (have hgd := x10; clear hgd; go_at_call 14; refine (fewestL9_any _ _ _ _ _ _ hvo H9 _ x10.holds hho).mono ?_; rintro e w11 ⟨rfl, hb11⟩; rw [hNO]; have x11 := x10.step (hb11.mono x10.below.size) (x10.holds.below hb11); have hw11 := x11.holds)
            | (have hgd := x9; clear hgd; go_at_call 11; refine (ready9_any _ _ _ _ _ _ H9 _ x9.holds hho).mono ?_; rintro e w10 ⟨rfl, hb10⟩; rw [hro]; have x10 := x9.step (hb10.mono x9.below.size) (x9.holds.below hb10); have hw10 := x10.holds))
          cases mm : within m 0 ((h.hs.ms.length : Int) - 1)
          · go_wp2_with (first
              | (have hgd := x12; clear hgd; go_at_call 13; refine (works9_any H9 _ x12.holds).mono ?_; rintro e w13 ⟨rfl, hb13⟩; have x13 := x12.step (hb13.mono x12.below.size) (x12.holds.below hb13); have hw13 := x13.holds)
              | (have hgd := x11; clear hgd; go_at_call 22; refine (isMachine4_any _ _ _ _ m H9 _ x11.holds hh9.hs).mono ?_; rintro e w12 ⟨rfl, hb12⟩; rw [mm]; have x12 := x11.step (hb12.mono x11.below.size) (x11.holds.below hb12); have hw12 := x12.holds))
            go_ret
            exact ⟨rfl, x13.below⟩
          · have am := within_iff.1 mm
            obtain ⟨q, rfl⟩ : ∃ q : Nat, m = (q : Int) := ⟨m.toNat, by omega⟩
            have hqm : q < h.hs.ms.length := by omega
            have hq0 : (0 : Int) ≤ (q : Int) := by omega
            have hq1 : (q : Int) < (h.hs.ms.length : Int) := by omega
            have hvs := still_valid hv hqm
            have hleS := ((still_better h q).fewer hv hvs).2
            obtain ⟨NS, hNS⟩ : ∃ N, numC (still9 h q) zero12 = N := ⟨_, rfl⟩
            rw [hN, hNS] at hleS
            obtain ⟨mc, hmc⟩ := At.mk hqm
            have hmst : still9 h q = { h with hs := { h.hs with ms := h.hs.ms.set q { mc with s := 0 } } } := by unfold still9; rw [hmc.mach]
            go_upto_region 16 with (first
              | (have hgd := x12; clear hgd; go_at_call 23; refine (copy9_any _ _ _ _ _ h H9 _ x12.holds hh9 hsz hs2).mono ?_; rintro e w13 ⟨um, ub, ut, uo, ue, H13, rfl, x13, K⟩; obtain ⟨aM, cM, rfl, _, _⟩ := K.m.form; obtain ⟨aB, cB, rfl, _, _⟩ := K.b.form; obtain ⟨aT, cT, rfl, _, _⟩ := K.t.form; obtain ⟨aO, cO, rfl, _, _⟩ := K.o.form; obtain ⟨aE, cE, rfl, _, _⟩ := K.e.form)
              | (have hgd := x11; clear hgd; go_at_call 22; refine (isMachine4_any _ _ _ _ (q : Int) H9 _ x11.holds hh9.hs).mono ?_; rintro e w12 ⟨rfl, hb12⟩; rw [mm]; have x12 := x11.step (hb12.mono x11.below.size) (x11.holds.below hb12); have hw12 := x12.holds))
            have l13 := x13.le x12.holds
            have hb14 := KBox.make K x13.holds x13.below.size
            have x14 := (x12.trans x13).alloc (.cells #[.slice aM h.hs.ms.length cM, .slice aB h.hs.bs.length cB, .slice aT h.hs.ts.length cT, .int .i64 h.hs.ch, .slice aO h.bo.length cO, .slice aE h.ed.length cE] 29)
            have hwb14 : w.heap.size ≤ w12.heap.size := x12.below.size
            have hh13 := hh9.mono l13
            generalize w13.alloc (.cells #[.slice aM h.hs.ms.length cM, .slice aB h.hs.bs.length cB, .slice aT h.hs.ts.length cT, .int .i64 h.hs.ch, .slice aO h.bo.length cO, .slice aE h.ed.length cE] 29) = w14 at *
            generalize w13.heap.size = D at *
            clear K
            replace hc0 := lift l13 hc0
            replace hc1 := lift l13 hc1
            replace hc2 := lift l13 hc2
            replace hc3 := lift l13 hc3
            replace hc4 := lift l13 hc4
            replace hc5 := lift l13 hc5
            replace hX0 := lift l13 hX0
            replace hX1' := lift l13 hX1'
            replace hX2 := lift l13 hX2
            obtain ⟨g, cg, heg, ⟨i1, i2, i3⟩, q0, q1, q2, hf, hgb, hgH, hgl, hgC, hset⟩ := hb14.setM hmc
            cases heg
            obtain ⟨c0, c1, c2, c3, c4, c5⟩ := hb14.cells
            have hD := hb14.lt
            have hwE := x14.holds
            have hs3 := (hset { mc with s := 0 } i1 i2 (show I64 0 from ⟨by omega, by omega⟩)).alloc (.cells #[.int .i64 mc.r, .int .i64 mc.p, .int .i64 0] 58)
            rw [← hmst] at hs3
            have xS := (((x14.setCell (a := ⟨g, q * 3, none⟩) (Nat.le_trans hwb14 hgb) hgH (.int .i64 mc.r)).setCell (a := ⟨g, q * 3 + 1, none⟩) (Nat.le_trans hwb14 hgb) hgH (.int .i64 mc.p)).setCell (a := ⟨g, q * 3 + 2, none⟩) (Nat.le_trans hwb14 hgb) hgH (.int .i64 0)).alloc (.cells #[.int .i64 mc.r, .int .i64 mc.p, .int .i64 0] 58)
            have hf0 := hf (q * 3)
            have hf1 := hf (q * 3 + 1)
            have hf2 := hf (q * 3 + 2)
            clear hset hf
            replace hs3 := Lib.hid hs3
            replace xS := Lib.hid xS
            go_upto_region 19 with fail
            have hs4 := hs3.out
            have xT := xS.out
            generalize World.alloc (((World.setCell w14 ⟨g, q * 3, none⟩ (.int .i64 mc.r)).setCell ⟨g, q * 3 + 1, none⟩ (.int .i64 mc.p)).setCell ⟨g, q * 3 + 2, none⟩ (.int .i64 0)) (.cells #[.int .i64 mc.r, .int .i64 mc.p, .int .i64 0] 58) = wT at *
            obtain ⟨HT, xU, lU, hhU, hDU⟩ := (hs4.weaken hwb14).closeC xT
            obtain ⟨hd0, hd1, hd2, hd3, hd4, hd5⟩ := cellsHal (h := still9 h q) hDU
            have hwT := xU.holds
            go_wp2_with (first
              | (have hgd := xV; clear hgd; go_at_call 13; refine (works9_any HT _ xV.holds).mono ?_; rintro e wW ⟨rfl, hbW⟩; have xW := xV.step (hbW.mono xV.below.size) (xV.holds.below hbW))
              | (have hgd := xU; clear hgd; go_at_call 14; refine (fewestL9_any _ _ _ _ _ _ hvs HT _ xU.holds hhU).mono ?_; rintro e wV ⟨rfl, hbV⟩; rw [hNS]; have xV := xU.step (hbV.mono xU.below.size) (xU.holds.below hbV)))
            go_ret
            exact ⟨rfl, xW.below⟩

end Go.Proofs.Ytngdppajailpcaa

namespace Go.Proofs.Ytngdppajailpcaa
open Go.ChangeShapes Go.WideShapes Go.ChangeAt Go.RowKit

theorem machinesBetter_own : ownKnob Try.prog.godebug = none := by kernel_rfl
theorem machinesBetter_laid : laidOutB Try.prog = true := by kernel_rfl

set_option maxHeartbeats 1600000 in
set_option maxRecDepth 100000 in
theorem machinesBetter_lifted (os : Os) (started : os.Started) (H : Type) (enc : TypeId × Value → H) :
    ReturnsInHanded {} Try.checked os 6 .any (Rows.machinesBetterSpec.pre6 enc Try.prog Try.f6 Rows.machinesBetterRow.domain false) (Rows.machinesBetterSpec.post enc Try.prog Try.f6 false true false false) := by
  refine returnsInHanded_of_change_sized (C := Try.checked) machinesBetter_own started (by kernel_rfl) Try.func6
    (ChangeSpec.witness6 (enc := enc) (C := Try.checked) false ⟨#[], #[.agg #[.slice none 0 0, .slice none 0 0, .slice none 0 0, .int .i64 0, .slice none 0 0, .slice none 0 0], .agg #[.int .i64 0, .int .i64 0, .int .i64 0]], []⟩ 8 (by kernel_rfl) (by kernel_rfl) (by kernel_rfl) (by kernel_rfl)) ?_
  intro W base args ds gs before hval0 hW _ hsz _
  have hval : ∀ (j : Nat) t v, Try.f6.params[j]? = some t → args[j]? = some v → Value.okWide Try.prog W .any base t v := hval0
  have hW' := hW
  obtain ⟨p, q, hA0, hV, rfl, _, _⟩ := hW
  have hA : DataW.TrodAll enc Try.prog W 0 (fun _ => true) true Try.f6.params.toList args.toList ds p := hA0
  have hS : (DataW.weightsEach Try.prog (Try.f6.params.toList ++ []) (ds ++ gs)).all (· ≤ reachBytes) = true := hsz
  rw [Try.params6] at hA hval hS
  obtain ⟨v0, v1, d0, d1, p0, p1, rfl, rfl, rfl, h0, h1⟩ := trodAll_two hA
  obtain ⟨rfl, rfl⟩ := trodVars_none hV
  clear hA0 hval0 hsz
  simp only [List.append_nil] at hW' hS
  have hlt : ∀ x ∈ p0 ++ p1, x.block < W.heap.size := fun x hx => by simpa using hW'.lt x hx
  have harg0 : ∀ W', Below W.heap.size W W' → DataW.Trod enc Try.prog W' 0 (fun b => decide (b < W.heap.size)) true 29 v0 d0 p0 := fun W' hb =>
    Below.trod machinesBetter_laid (by kernel_rfl) (of_decide_eq_true (by kernel_rfl)) h0 hb (fun x hx => hlt x (List.mem_append.2 (.inl hx)))
  have hw0 : ∀ k ∈ d0.weights Try.prog 29, k ≤ reachBytes := fun k hk => by
    simpa using List.all_eq_true.1 hS k (DataW.weights_mem_each (j := 0) rfl rfl k hk)
  have harg1 : ∀ W', Below W.heap.size W W' → DataW.Trod enc Try.prog W' 0 (fun b => decide (b < W.heap.size)) true 56 v1 d1 p1 := fun W' hb =>
    Below.trod machinesBetter_laid (by kernel_rfl) (of_decide_eq_true (by kernel_rfl)) h1 hb (fun x hx => hlt x (List.mem_append.2 (.inr hx)))
  have hw1 : ∀ k ∈ d1.weights Try.prog 56, k ≤ reachBytes := fun k hk => by
    simpa using List.all_eq_true.1 hS k (DataW.weights_mem_each (j := 1) rfl rfl k hk)
  obtain ⟨vm, vb, vt, vo, ve, hs, rfl, hh⟩ := hall_opened (hval 0 29 v0 rfl rfl) h0 hw0
  obtain ⟨ma1, mb1, mc1, rfl, hp1, hq1, hr1⟩ := later_opened (hval 1 56 v1 rfl rfl) h1
  refine (machinesBetter_any vm vb vt vo ve hs ma1 mb1 mc1 (snapOf W) W (snapOf_holds W) hh hp1 hq1 hr1).mono fun e W' ⟨he, hb⟩ => ?_
  subst he
  refine ⟨_, rfl, _, _, _, [], _, [], hW', ?_, trodAll_mk2 (harg0 W' hb) (harg1 W' hb), rfl, hb.frame _, fun h => by cases h⟩
  exact trodAll_mk1 (shut_bool Try.underlying4 _)

theorem machinesBetter_said : Rows.MachinesBetterSaid :=
  OpenClaim.holds_of_wide 6 Try.f6 rfl rfl rfl rfl rfl rfl rfl ⟨rfl, rfl, rfl, rfl, rfl⟩ rfl rfl rfl rfl rfl (by kernel_rfl) Try.func6 (by kernel_rfl)
    (of_decide_eq_true (by kernel_rfl)) (by unfold Func.isWrapper; first | (rw [if_pos (by decide +kernel)]; kernel_rfl) | (rw [if_neg (by decide +kernel)]; exact ⟨rfl, rfl⟩))
    (fun os started H enc _ => machinesBetter_lifted os started H enc)

end Go.Proofs.Ytngdppajailpcaa
