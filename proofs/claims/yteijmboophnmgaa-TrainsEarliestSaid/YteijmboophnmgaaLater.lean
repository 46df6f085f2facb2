/- The walks of flonglaw04: later, without. -/
import Derived.Test.YteijmboophnmgaaBox
import Derived.Test.YteijmboophnmgaaWaitP
import Derived.Deep.CutBlock
import Derived.Deep.RegionLaw
namespace Go.Proofs.Yteijmboophnmgaa
open Go.RowKit

attribute [local go_sem] Holds.drew Holds.alloc Holds.drewN WB.holds

set_option maxRecDepth 100000 in
set_option maxHeartbeats 4000000 in
theorem later_any (vm vb vt : Value) (h : House) (t : Nat) (n : Int) (ht : t < h.ts.length) (hn : -9223372036854775808 ≤ h.ts.getD t 0 + n ∧ h.ts.getD t 0 + n ≤ 9223372036854775807) (H : Snap) (w : World) (hw : Holds H w) (hh : Hou H vm vb vt h) :
    Calls Try.prog 24 #[houV vm vb vt h, .int .i64 t, .int .i64 n] w (PostH w H (laterH h t n)) := by
  go_enter Try.func24, Try.ntmps24
  go_upto_region 1 with (refine wpList_boxF rfl _ rfl (Ext.refl hw) ?_; intro B w1 H1 hle hx hB hBw; obtain ⟨hc0, hc1, hc2, hc3⟩ := cellsHou hB; clear hB hw; have hw1 := hx.holds)
  have hxz := hx.alloc (.cells #[.slice none 0 0, .slice none 0 0, .slice none 0 0, .int .i64 0] 26); have hrz : Rdy w1.heap.size 26 (w1.alloc (.cells #[.slice none 0 0, .slice none 0 0, .slice none 0 0, .int .i64 0] 26)) := ⟨_, _, _, _, heap_alloc_new _ _⟩; have hgr : w.heap.size ≤ w1.heap.size := hx.below.size; have hnr : H1 w1.heap.size = none := hw1.none_of_ge (Nat.le_refl _); have hhm := hh.mono hle; generalize w1.heap.size = R at *; generalize w1.alloc (.cells #[.slice none 0 0, .slice none 0 0, .slice none 0 0, .int .i64 0] 26) = wz at *; clear hx hw1; have hwz := hxz.holds
  go_upto_region 2 with (go_at_call 29; refine (copy4_any _ _ _ _ H1 _ hwz hhm).mono ?_; rintro e w3 ⟨um, ub, ut, H3, rfl, y3, om, ob, ot⟩; obtain ⟨am, cm, rfl, _, _⟩ := om.form; obtain ⟨ab, cb, rfl, _, _⟩ := ob.form; obtain ⟨at', ct, rfl, _, _⟩ := ot.form)
  have hb4 := HBox.make (h := h) om ob ot hh.c y3.holds y3.below.size; have x4 := (hxz.trans y3).alloc (.cells #[.slice am h.ms.length cm, .slice ab h.bs.length cb, .slice at' h.ts.length ct, .int .i64 h.ch] 26); have hr4 := (hrz.below y3.below hrz.lt).alloc (.cells #[.slice am h.ms.length cm, .slice ab h.bs.length cb, .slice at' h.ts.length ct, .int .i64 h.ch] 26); have hRn : H3 R = none := (y3.same R hrz.lt).trans hnr; have hRb : R < wz.heap.size := hrz.lt; have hwb : w.heap.size ≤ wz.heap.size := hxz.below.size; have l3 := y3.le hwz; generalize w3.alloc (.cells #[.slice am h.ms.length cm, .slice ab h.bs.length cb, .slice at' h.ts.length ct, .int .i64 h.ch] 26) = w4 at *; generalize w3.heap.size = C at *; clear om ob ot hxz hrz hwz hhm
  obtain ⟨c0, c1, c2, c3⟩ := hb4.cells
  obtain ⟨z, hz⟩ := At.mk ht
  rw [hz.getD] at hn
  obtain ⟨g, c, hev, hzb, hgc, hgf, hgb, hgn, hset⟩ := hb4.setT hz
  cases hev
  have htl : t < h.ts.length := ht
  go_upto_region 3 with fail
  have hb5 := hset (z + n) hn
  have x5 := x4.setCell (a := ⟨g, t, none⟩) (Nat.le_trans hwb hgb) hgn (.int .i64 (z + n))
  have hr5 := hr4.other (a := ⟨g, t, none⟩) (fun e => by simp at e; omega) (.int .i64 (z + n))
  have hres : laterH h t n = { h with ts := h.ts.set t (z + n) } := by unfold laterH; rw [hz.getD]
  clear hset hb4 x4 hr4 c0 c1 c2 c3 hgc hgf
  generalize w4.setCell ⟨g, t, none⟩ (.int .i64 (z + n)) = w5 at *
  obtain ⟨c0, c1, c2, c3⟩ := hb5.cells; obtain ⟨r0, hr0⟩ := hr5.cell 0 (by omega); obtain ⟨r1, hr1⟩ := hr5.cell 1 (by omega); obtain ⟨r2, hr2⟩ := hr5.cell 2 (by omega); obtain ⟨r3, hr3⟩ := hr5.cell 3 (by omega); have hf0 := hr5.fz 0; have hf1 := hr5.fz 1; have hf2 := hr5.fz 2; have hf3 := hr5.fz 3; obtain ⟨hrow, H', hx', hh'⟩ := hb5.out x5 hr5 hRn hwb hRb hgr; replace hrow := Lib.hid hrow; replace hx' := Lib.hid hx'
  go_wp2
  refine bodyPost_ret (results_cell_row rfl _ _ R 26 _ (0, 0) _ rfl hrow.out Try.underlying26 rfl (by kernel_rfl)) rfl ?_
  exact ⟨_, H', rfl, hx'.out, _, _, _, rfl, by first | exact hh' | (rw [hres]; exact hh')⟩

set_option maxRecDepth 100000 in
set_option maxHeartbeats 4000000 in
theorem without_any (vm vb vt vl : Value) (h : House) (l : List Int) (hbl : h.bs.length ≤ 1000000) (H : Snap) (w : World) (hw : Holds H w) (hh : Hou H vm vb vt h) (hl : Sl H vl l) :
    Calls Try.prog 19 #[houV vm vb vt h, vl] w (PostH w H (lessH h l)) := by
  obtain ⟨ax, cx, rfl, _, _⟩ := hh.b.form
  obtain ⟨al, cl, rfl, _, _⟩ := hl.form
  go_enter Try.func19, Try.ntmps19
  go_upto_region 1 with (refine wpList_boxF rfl _ rfl (Ext.refl hw) ?_; intro B w1 H1 hle hx hB hBw; obtain ⟨hc0, hc1, hc2, hc3⟩ := cellsHou hB; clear hB hw; have hw1 := hx.holds)
  have hxz := hx.alloc (.cells #[.slice none 0 0, .slice none 0 0, .slice none 0 0, .int .i64 0] 26); have hrz : Rdy w1.heap.size 26 (w1.alloc (.cells #[.slice none 0 0, .slice none 0 0, .slice none 0 0, .int .i64 0] 26)) := ⟨_, _, _, _, heap_alloc_new _ _⟩; have hgr : w.heap.size ≤ w1.heap.size := hx.below.size; have hnr : H1 w1.heap.size = none := hw1.none_of_ge (Nat.le_refl _); have hhm := hh.mono hle; generalize w1.heap.size = R at *; generalize w1.alloc (.cells #[.slice none 0 0, .slice none 0 0, .slice none 0 0, .int .i64 0] 26) = wz at *; clear hx hw1; have hwz := hxz.holds
  go_upto_region 2 with (go_at_call 29; refine (copy4_any _ _ _ _ H1 _ hwz hhm).mono ?_; rintro e w3 ⟨um, ub, ut, H3, rfl, y3, om, ob, ot⟩; obtain ⟨am, cm, rfl, _, _⟩ := om.form; obtain ⟨ab, cb, rfl, _, _⟩ := ob.form; obtain ⟨at', ct, rfl, _, _⟩ := ot.form)
  have hhm' := hhm.mono (y3.le hwz)
  have hb4 := HBox.make (h := h) om ob ot hh.c y3.holds y3.below.size; have x4 := (hxz.trans y3).alloc (.cells #[.slice am h.ms.length cm, .slice ab h.bs.length cb, .slice at' h.ts.length ct, .int .i64 h.ch] 26); have hr4 := (hrz.below y3.below hrz.lt).alloc (.cells #[.slice am h.ms.length cm, .slice ab h.bs.length cb, .slice at' h.ts.length ct, .int .i64 h.ch] 26); have hRn : H3 R = none := (y3.same R hrz.lt).trans hnr; have hRb : R < wz.heap.size := hrz.lt; have hwb : w.heap.size ≤ wz.heap.size := hxz.below.size; have l3 := y3.le hwz; generalize w3.alloc (.cells #[.slice am h.ms.length cm, .slice ab h.bs.length cb, .slice at' h.ts.length ct, .int .i64 h.ch] 26) = w4 at *; generalize w3.heap.size = C at *; clear om ob ot hxz hrz hwz hhm
  obtain ⟨c0, c1, c2, c3⟩ := hb4.cells
  have hfC := hb4.fz 1
  go_upto_region 3 with fail
  have hb5 := hb4.putB (Own.nil _ _ _ _)
  have x5 := x4.setCell (a := ⟨C, 1, none⟩) (Nat.le_trans hwb hb4.ge) hb4.hC (.slice none 0 0)
  have hr5 := hr4.other (a := ⟨C, 1, none⟩) (fun e => by have := hb4.ge; simp at e; omega) (.slice none 0 0)
  have hl3 := (hl.mono hle).mono l3
  replace hc0 := lift l3 hc0
  replace hc1 := lift l3 hc1
  replace hc2 := lift l3 hc2
  replace hc3 := lift l3 hc3
  clear hb4 x4 hr4 c0 c1 c2 c3 hfC l3 y3
  generalize w4.setCell ⟨C, 1, none⟩ (.slice none 0 0) = w5 at *
  go_wp2_with fail
  go_loopw [6] (fun i wr => ∃ (k : Nat) (ub' : Value) (fl : List Bund), k ≤ h.bs.length ∧ i = .int .i64 k ∧ Hid (fl = (h.bs.take k).filter fun b => !decide (b.t ∈ l)) ∧ HBox H3 wz.heap.size wr C (.slice am h.ms.length cm) ub' (.slice at' h.ts.length ct) { h with bs := fl } ∧ Ext w H wr H3 ∧ Rdy R 26 wr) (fun i _ => h.bs.length - (intOf i).toNat)
  case atStart => exact ⟨0, _, [], Nat.zero_le _, rfl, rfl, hb5, x5, hr5⟩
  case round =>
    clear hb5 x5 hr5
    obtain ⟨k, ub', fl, hk, rfl, hfl, hbr, hxr, hrr⟩ := hrel
    have hwr := hxr.holds
    by_cases hlk : k < h.bs.length
    · obtain ⟨z, hzk⟩ := At.mk hlk
      obtain ⟨bb, ob', cb', hez, ⟨hy1, hy2, hy3⟩, q0, q1, q2⟩ := hhm'.b.bund hzk
      cases hez
      have hsucc : (h.bs.take (k + 1)).filter (fun b => !decide (b.t ∈ l)) = fl ++ (if decide (z.t ∈ l) then [] else [z]) := by
        rw [hfl.out, hzk.take, List.filter_append]
        by_cases hz : z.t ∈ l <;> simp [hz]
      cases hmem : decide (z.t ∈ l)
      · rw [hmem] at hsucc
        replace hsucc := Lib.hid hsucc
        go_wp2_with (go_at_call 37; refine (in_any _ _ _ _ _ hwr hl3).mono ?_; rintro e w' ⟨rfl, hb2⟩; rw [hmem])
        have hbr2 := hbr.below hwr hb2
        have hxr2 := hxr.step (hb2.mono hxr.below.size) (hwr.below hb2)
        have hrr2 := hrr.below hb2 hrr.lt
        have hown := hbr2.b
        have hnb : fl.length ≤ 1000000 := by
          rw [hfl.out]
          have := List.length_filter_le (fun b => !decide (b.t ∈ l)) (h.bs.take k)
          rw [List.length_take] at this; omega
        obtain ⟨au, cu, rfl, _, _⟩ := hown.form
        have hw2 := hxr2.holds
        have hltC := hbr2.lt
        have hbC := hbr2.ge
        have hCn := hbr2.hC
        obtain ⟨c0, c1, c2, c3⟩ := hbr2.cells
        have hfC := hbr2.fz 1
        dsimp only at c0 c1 c2 c3 hown
        clear hbr hxr hrr hwr
        go_region_law ((refine step_appC (H := H3) (base := wz.heap.size) eBund rfl _ _ rfl rfl (by exact (hown.alloc _).drew) (x := z) rfl ⟨rfl, hy1, hy2, hy3⟩ (three_cell (by first | exact heap_alloc_new _ _ | (simp [go_sem]; done))) (by first | exact hw2.drew.alloc _ | exact (hw2.alloc _).drew) (by simp [Enc.by_]; omega) (by omega) (by simp; omega) ?_; intro v' w4 hown' hgr hwA hat; have hA := HBox.appB (by first | exact (hbr2.alloc _).drew | exact hbr2.drew.alloc _) hown' hgr; obtain ⟨hrC, _, _⟩ := HBox.grownB (by first | exact (hbr2.alloc _).drew | exact hbr2.drew.alloc _) hown' hgr; have hcC : w4.cell? ⟨C, 1, none⟩ = _ := cell_of_row w4 C 1 _ _ _ hrC; have hfC2 : w4.frozen? ⟨C, 1, none⟩ = false := (by simp [World.frozen?, hrC]); have hxA := Ext.setCell (a := ⟨C, 1, none⟩) (Ext.grown (by first | exact (hxr2.alloc _).drew | exact hxr2.drew.alloc _) hgr (fun q e => Nat.le_trans hwb (hown.lt q e).1) (fun q e => hown.free q e)) (Nat.le_trans hwb hbC) hCn v'; have hrA := Rdy.other (a := ⟨C, 1, none⟩) (Rdy.grown (by first | exact (hrr2.alloc _).drew | exact hrr2.drew.alloc _) hgr (fun e => by have := (hown.lt _ e).1; omega)) (fun e => by simp at e; omega) v'; obtain ⟨a', c', rfl, _, _⟩ := hown'.form))
        all_goals
          rw [show (fl ++ [z]).length = fl.length + 1 by simp] at hA hxA hrA
          go_wp2_with fail
          go_roundw
          case rel => exact ⟨k + 1, _, fl ++ [z], by omega, by go_num, by show _ = _; rw [hsucc.out]; simp, hA, hxA, hrA⟩
          case measure => simp [intOf]; omega
      · rw [hmem] at hsucc
        replace hsucc := Lib.hid hsucc
        go_wp2_with (go_at_call 37; refine (in_any _ _ _ _ _ hwr hl3).mono ?_; rintro e w' ⟨rfl, hb2⟩; rw [hmem])
        go_roundw
        case rel => exact ⟨k + 1, ub', fl, by omega, by go_num, by show _ = _; rw [hsucc.out]; simp, hbr.below hwr hb2, hxr.step (hb2.mono hxr.below.size) (hwr.below hb2), hrr.below hb2 hrr.lt⟩
        case measure => simp [intOf]; omega
    · have hfe : fl = (lessH h l).bs := by rw [hfl.out, List.take_of_length_le (by omega)]; rfl
      subst hfe
      obtain ⟨au, cu, rfl, _, _⟩ := hbr.b.form
      obtain ⟨c0, c1, c2, c3⟩ := hbr.cells; obtain ⟨r0, hr0⟩ := hrr.cell 0 (by omega); obtain ⟨r1, hr1⟩ := hrr.cell 1 (by omega); obtain ⟨r2, hr2⟩ := hrr.cell 2 (by omega); obtain ⟨r3, hr3⟩ := hrr.cell 3 (by omega); have hf0 := hrr.fz 0; have hf1 := hrr.fz 1; have hf2 := hrr.fz 2; have hf3 := hrr.fz 3; obtain ⟨hrow, H', hx', hh'⟩ := hbr.out hxr hrr hRn hwb hRb hgr; replace hrow := Lib.hid hrow; replace hx' := Lib.hid hx'
      go_wp2_with fail
      refine bodyPost_ret (results_cell_row rfl _ _ R 26 _ (0, 0) _ rfl hrow.out Try.underlying26 rfl (by kernel_rfl)) rfl ?_
      exact ⟨_, H', rfl, hx'.out, _, _, _, rfl, hh'⟩

end Go.Proofs.Yteijmboophnmgaa
