/- The walk of flonglaw04.behind. -/
import Derived.Test.YteijmboophnmgaaLater
import Derived.Deep.RegionWith
namespace Go.Proofs.Yteijmboophnmgaa
open Go.RowKit

attribute [local go_sem] Holds.drew Holds.alloc Holds.drewN WB.holds

def readyBy (n : Int) (m : Mach) : Mach := ⟨m.r + n, m.p, m.s⟩
def mixM (h : House) (n : Int) (k : Nat) : List Mach := (h.ms.take k).map (readyBy n) ++ h.ms.drop k
theorem mixM_len (h : House) (n : Int) (k : Nat) : (mixM h n k).length = h.ms.length := by unfold mixM; simp; omega
theorem mixM_at {h : House} {n : Int} {k : Nat} {x : Mach} (hx : At h.ms k x) : At (mixM h n k) k x := by
  have hk := hx.lt
  unfold mixM At
  have hl : ((h.ms.take k).map (readyBy n)).length = k := by simp; omega
  rw [List.getElem?_append_right (by omega), hl, Nat.sub_self, List.getElem?_drop]
  exact hx
theorem mixM_succ {h : House} {n : Int} {k : Nat} {x : Mach} (hx : At h.ms k x) : (mixM h n k).set k (readyBy n x) = mixM h n (k + 1) := by
  have hk := hx.lt
  unfold mixM
  have hl : ((h.ms.take k).map (readyBy n)).length = k := by simp; omega
  have hd : h.ms.drop k = x :: h.ms.drop (k + 1) := by
    obtain ⟨h1, h2⟩ := hx.get
    rw [← h2]; exact List.drop_eq_getElem_cons h1
  rw [hx.take, List.map_append, hd, List.set_append_right _ _ (by omega), hl, Nat.sub_self]
  simp
theorem mixM_all (h : House) (n : Int) : mixM h n h.ms.length = (behindH h n).ms := by
  unfold mixM behindH
  rw [List.take_length, List.drop_length, List.append_nil]; rfl

theorem errT_val (h : House) : (errT (valid h) == 0) = valid h := by
  unfold errT; cases valid h <;> rfl

set_option maxRecDepth 100000 in
set_option maxHeartbeats 8000000 in
theorem behind_any (vm vb vt : Value) (h : House) (n : Int) (hv : Valid h) (hn : 0 ≤ n ∧ n ≤ 1000) (H : Snap) (w : World) (hw : Holds H w) (hh : Hou H vm vb vt h) :
    Calls Try.prog 27 #[houV vm vb vt h, .int .i64 n] w (Post w H fun v H' => ∃ um ub ut, v = .tuple #[houV um ub ut (behindH h n), .bool (valid (behindH h n))] ∧ Hou H' um ub ut (behindH h n)) := by
  obtain ⟨ax, cx, rfl, _, _⟩ := hh.m.form
  go_enter Try.func27, Try.ntmps27
  go_upto_region 1 with (refine wpList_boxF rfl _ rfl (Ext.refl hw) ?_; intro B w1 H1 hle hx hB hBw; obtain ⟨hc0, hc1, hc2, hc3⟩ := cellsHou hB; clear hB hw; have hw1 := hx.holds)
  have hxz := hx.alloc (.cells #[.slice none 0 0, .slice none 0 0, .slice none 0 0, .int .i64 0] 26); have hrz : Rdy w1.heap.size 26 (w1.alloc (.cells #[.slice none 0 0, .slice none 0 0, .slice none 0 0, .int .i64 0] 26)) := ⟨_, _, _, _, heap_alloc_new _ _⟩; have hgr : w.heap.size ≤ w1.heap.size := hx.below.size; have hnr : H1 w1.heap.size = none := hw1.none_of_ge (Nat.le_refl _); have hhm := hh.mono hle; generalize w1.heap.size = R at *; generalize w1.alloc (.cells #[.slice none 0 0, .slice none 0 0, .slice none 0 0, .int .i64 0] 26) = wz at *; clear hx hw1; have hwz := hxz.holds
  go_upto_region 2 with (go_at_call 29; refine (copy4_any _ _ _ _ H1 _ hwz hhm).mono ?_; rintro e w3 ⟨um, ub, ut, H3, rfl, y3, om, ob, ot⟩; obtain ⟨am, cm, rfl, _, _⟩ := om.form; obtain ⟨ab, cb, rfl, _, _⟩ := ob.form; obtain ⟨at', ct, rfl, _, _⟩ := ot.form)
  have hb4 := HBox.make (h := h) om ob ot hh.c y3.holds y3.below.size; have x4 := (hxz.trans y3).alloc (.cells #[.slice am h.ms.length cm, .slice ab h.bs.length cb, .slice at' h.ts.length ct, .int .i64 h.ch] 26); have hr4 := (hrz.below y3.below hrz.lt).alloc (.cells #[.slice am h.ms.length cm, .slice ab h.bs.length cb, .slice at' h.ts.length ct, .int .i64 h.ch] 26); have hRn : H3 R = none := (y3.same R hrz.lt).trans hnr; have hRb : R < wz.heap.size := hrz.lt; have hwb : w.heap.size ≤ wz.heap.size := hxz.below.size; have l3 := y3.le hwz; generalize w3.alloc (.cells #[.slice am h.ms.length cm, .slice ab h.bs.length cb, .slice at' h.ts.length ct, .int .i64 h.ch] 26) = w4 at *; generalize w3.heap.size = C at *; clear om ob ot hxz hrz hwz hhm
  replace hc0 := lift l3 hc0
  replace hc1 := lift l3 hc1
  replace hc2 := lift l3 hc2
  replace hc3 := lift l3 hc3
  clear l3 y3
  go_wp2_with fail
  go_loopw [7] (fun i wr => ∃ (k : Nat), k ≤ h.ms.length ∧ i = .int .i64 k ∧ HBox H3 wz.heap.size wr C (.slice am h.ms.length cm) (.slice ab h.bs.length cb) (.slice at' h.ts.length ct) { h with ms := mixM h n k } ∧ Ext w H wr H3 ∧ Rdy R 26 wr) (fun i _ => h.ms.length - (intOf i).toNat)
  case atStart => exact ⟨0, Nat.zero_le _, rfl, hb4, x4, hr4⟩
  case round =>
    clear hb4 x4 hr4
    obtain ⟨k, hk, rfl, hbr, hxr, hrr⟩ := hrel
    have hwr := hxr.holds
    by_cases hlk : k < h.ms.length
    · obtain ⟨z, hzk⟩ := At.mk hlk
      obtain ⟨g, c, hev, hi, q0, q1, q2, hgl, hgC, hgb, hgn, hgf⟩ := hbr.getM (mixM_at hzk)
      rw [mixM_len] at hev
      cases hev
      obtain ⟨c0, c1, c2, c3⟩ := hbr.cells
      have hltC := hbr.lt
      have hr := ready_bd hv hzk
      go_upto_region 7 with fail
      have hb7 := hbr.alloc (.cells #[.int .i64 (z.r + n), .int .i64 z.p, .int .i64 z.s] 54)
      have x7 := hxr.alloc (.cells #[.int .i64 (z.r + n), .int .i64 z.p, .int .i64 z.s] 54)
      have hr7 := hrr.alloc (.cells #[.int .i64 (z.r + n), .int .i64 z.p, .int .i64 z.s] 54)
      have hM := heap_alloc_new wr (.cells #[.int .i64 (z.r + n), .int .i64 z.p, .int .i64 z.s] 54)
      clear hbr hxr hrr hwr q0 q1 q2 c0 c1 c2 c3 hgf hltC hgl
      generalize wr.alloc (.cells #[.int .i64 (z.r + n), .int .i64 z.p, .int .i64 z.s] 54) = w7 at *
      generalize wr.heap.size = M at *
      obtain ⟨g', c', hev, _, q0, q1, q2, hgl, _, _, _, hgf⟩ := hb7.getM (mixM_at hzk)
      rw [mixM_len] at hev
      cases hev
      obtain ⟨c0, c1, c2, c3⟩ := hb7.cells
      have m0 := cell_of_row w7 M 0 _ _ _ hM
      have m1 := cell_of_row w7 M 1 _ _ _ hM
      have m2 := cell_of_row w7 M 2 _ _ _ hM
      simp at m0 m1 m2
      have f0 := hgf (k * 3)
      have f1 := hgf (k * 3 + 1)
      have f2 := hgf (k * 3 + 2)
      obtain ⟨g', c', cur, hev, _, _, _, _, _, hset⟩ := hb7.setM (i := k) (by show k < (mixM h n k).length; rw [mixM_len]; exact hlk)
      rw [mixM_len] at hev
      cases hev
      have hb8 := hset (readyBy n z) (show I64 (z.r + n) by unfold I64; omega) hi.2.1 hi.2.2
      rw [mixM_succ hzk] at hb8
      have x8 := ((x7.setCell (a := ⟨g, k * 3, none⟩) (Nat.le_trans hwb hgb) hgn (.int .i64 (z.r + n))).setCell (a := ⟨g, k * 3 + 1, none⟩) (Nat.le_trans hwb hgb) hgn (.int .i64 z.p)).setCell (a := ⟨g, k * 3 + 2, none⟩) (Nat.le_trans hwb hgb) hgn (.int .i64 z.s)
      have hgR : g ≠ R := by omega
      have hr8 := ((hr7.other (a := ⟨g, k * 3, none⟩) hgR (.int .i64 (z.r + n))).other (a := ⟨g, k * 3 + 1, none⟩) hgR (.int .i64 z.p)).other (a := ⟨g, k * 3 + 2, none⟩) hgR (.int .i64 z.s)
      replace hb8 := Lib.hid hb8
      replace x8 := Lib.hid x8
      replace hr8 := Lib.hid hr8
      clear hset hb7 x7 hr7
      go_wp2_with fail
      go_roundw
      case rel => exact ⟨k + 1, by omega, by go_num, hb8.out, x8.out, hr8.out⟩
      case measure => simp [intOf]; omega
    · obtain rfl : k = h.ms.length := by omega
      rw [mixM_all] at hbr
      have hres : ({ h with ms := (behindH h n).ms } : House) = behindH h n := rfl
      rw [hres] at hbr
      go_upto_region 8 with fail
      obtain ⟨H4, x4c, _, hho⟩ := (hbr.weaken hwb).close hxr
      obtain ⟨c0, c1, c2, c3⟩ := hbr.cells
      have hblen : h.bs.length = (behindH h n).bs.length := rfl
      have htlen : h.ts.length = (behindH h n).ts.length := rfl
      cases hvo : valid (behindH h n)
      all_goals
        have he := errT_val (behindH h n)
        rw [hvo] at he
        go_region_with (go_at_call 35; refine (check4_any _ _ _ _ H4 _ (by first | exact x4c.holds | exact x4c.holds.drew) hho).mono ?_; rintro e w9 ⟨rfl, hb9⟩; have hbW := HBox.below (by first | exact hbr | exact hbr.drew) (by first | exact hwr | exact hwr.drew) hb9; have xW := Ext.step (by first | exact hxr | exact hxr.drew) (hb9.mono hxr.below.size) (Holds.below (by first | exact hwr | exact hwr.drew) hb9); have hrW := Rdy.below (by first | exact hrr | exact hrr.drew) hb9 hrr.lt; obtain ⟨c0, c1, c2, c3⟩ := hbW.cells; obtain ⟨r0, hr0⟩ := hrW.cell 0 (by omega); obtain ⟨r1, hr1⟩ := hrW.cell 1 (by omega); obtain ⟨r2, hr2⟩ := hrW.cell 2 (by omega); obtain ⟨r3, hr3⟩ := hrW.cell 3 (by omega); have hf0 := hrW.fz 0; have hf1 := hrW.fz 1; have hf2 := hrW.fz 2; have hf3 := hrW.fz 3; obtain ⟨hrow, H', hx', hh'⟩ := hbW.out xW hrW hRn hwb hRb hgr; replace hrow := Lib.hid hrow; replace hx' := Lib.hid hx')
        all_goals
          go_wp2_with fail
          refine bodyPost_ret (results_cell_slot rfl _ _ R 26 _ (0, 0) _ rfl hrow.out Try.underlying26 rfl (by kernel_rfl)) rfl ?_
          exact ⟨_, H', rfl, hx'.out, .slice am h.ms.length cm, .slice ab h.bs.length cb, .slice at' h.ts.length ct, by first | rfl | (simp [hvo, errT]; done) | (simp [hvo, errT]; rfl), hh'⟩

end Go.Proofs.Yteijmboophnmgaa
