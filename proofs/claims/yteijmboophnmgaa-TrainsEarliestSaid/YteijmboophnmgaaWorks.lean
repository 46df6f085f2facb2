/- The walk of flonglaw04.works: the chapter's examples. -/
import Derived.Test.YteijmboophnmgaaEx2
import Derived.Test.YteijmboophnmgaaLaw4b
namespace Go.Proofs.Yteijmboophnmgaa
open Go.RowKit

attribute [local go_sem] Holds.drew Holds.alloc Holds.drewN WB.holds

theorem ints_lit {w0 w : World} {H0 H : Snap} (hx : Ext w0 H0 w H) (xs : List Int) (h : ∀ x ∈ xs, I64 x) (hl : xs.length ≤ 100) :
    ∃ H2, SLe H H2 ∧ Ext w0 H0 (w.alloc (.cells (xs.map (Value.int .i64)).toArray 3)) H2 ∧ Sl H2 (.slice (some ⟨w.heap.size, 0, none⟩) xs.length xs.length) xs :=
  Ext.lit hx (reps_int.2 ⟨rfl, h⟩) _ (by simp only [Enc.by_]; omega) (by omega)
theorem ints_lit1 {w0 w : World} {H0 H : Snap} (hx : Ext w0 H0 w H) (x : Int) (h : I64 x) :
    ∃ H2, SLe H H2 ∧ Ext w0 H0 (w.alloc (.cells #[.int .i64 x] 3)) H2 ∧ Sl H2 (.slice (some ⟨w.heap.size, 0, none⟩) 1 1) [x] := ints_lit hx [x] (by simpa using h) (by simp)
theorem ints_lit2 {w0 w : World} {H0 H : Snap} (hx : Ext w0 H0 w H) (x y : Int) (h : I64 x) (h' : I64 y) :
    ∃ H2, SLe H H2 ∧ Ext w0 H0 (w.alloc (.cells #[.int .i64 x, .int .i64 y] 3)) H2 ∧ Sl H2 (.slice (some ⟨w.heap.size, 0, none⟩) 2 2) [x, y] := ints_lit hx [x, y] (by simp [h, h']) (by simp)
theorem lists_lit2 {w0 w : World} {H0 H : Snap} (hx : Ext w0 H0 w H) {a b : Value} {xs ys : List Int} (h1 : Sl H a xs) (h2 : Sl H b ys) :
    ∃ H2, SLe H H2 ∧ Ext w0 H0 (w.alloc (.cells #[a, b] 24)) H2 ∧ Sl H2 (.slice (some ⟨w.heap.size, 0, none⟩) 2 2) [xs, ys] :=
  Ext.lit (xs := [xs, ys]) (cs := [a, b]) hx ⟨[a], [b], rfl, show Enc.rep H xs [a] from ⟨_, rfl, h1⟩, [b], [], rfl, show Enc.rep H ys [b] from ⟨_, rfl, h2⟩, rfl⟩ _ (by simp [Enc.by_]) (by simp)

theorem exLate (vm vb vt vp : Value) (H : Snap) (w : World) (hw : Holds H w) (hh : Hou H vm vb vt exH) (hp : Sl H vp [[(2 : Int)], [0]]) :
    Calls Try.prog 38 #[houV vm vb vt exH, vp] w (Post w H fun v H' => ∃ u, v = .tuple #[u, .int .i64 0] ∧ Sl H' u [(0 : Int), 1]) := by
  have h := lateA_any vm vb vt vp exH [[2], [0]] H w hw hh hp
  rw [exH_late, exH_valid, exH_isPlan] at h
  exact h
theorem exPlan (vm vb vt : Value) (H : Snap) (w : World) (hw : Holds H w) (hh : Hou H vm vb vt exH) :
    Calls Try.prog 57 #[houV vm vb vt exH] w (Post w H fun v H' => ∃ u, v = .tuple #[u, .int .i64 0] ∧ Sl H' u [[(0 : Int)], [1, 2]]) := by
  have h := planT_any vm vb vt exH H w hw hh
  rw [exH_plan, exH_valid] at h
  exact h
theorem exWait (vm vb vt : Value) (H : Snap) (w : World) (hw : Holds H w) (hh : Hou H vm vb vt exH) :
    Calls Try.prog 23 #[houV vm vb vt exH, .int .i64 0] w (PostV w (.tuple #[.int .i64 33, .int .i64 0])) := by
  have h := wait_any vm vb vt exH 0 (by constructor <;> decide) H w hw hh
  rw [exH_wait.1, exH_wait.2] at h
  exact h
theorem exSpare (vm vb vt : Value) (H : Snap) (w : World) (hw : Holds H w) (hh : Hou H vm vb vt exG) :
    Calls Try.prog 26 #[houV vm vb vt exG] w (PostV w (.tuple #[.int .i64 2, .int .i64 0])) := by
  have h := spare_any vm vb vt exG H w hw hh
  rw [exG_spare.1, exG_spare.2] at h
  exact h
theorem exTold (vm vb vt : Value) (H : Snap) (w : World) (hw : Holds H w) (hh : Hou H vm vb vt exH) :
    Calls Try.prog 41 #[houV vm vb vt exH] w (Post w H fun v H' => ∃ u, v = .tuple #[u, .int .i64 0] ∧ Sl H' u [(0 : Int)]) := by
  have h := toldT_any vm vb vt exH H w hw hh
  rw [exH_told, exH_valid] at h
  exact h
theorem exSure (vm vb vt : Value) (H : Snap) (w : World) (hw : Holds H w) (hh : Hou H vm vb vt exG) :
    Calls Try.prog 39 #[houV vm vb vt exG] w (PostV w (.tuple #[.bool true, .int .i64 0])) := by
  have h := sureT_any vm vb vt exG H w hw hh
  rw [exG_sure, exG_valid] at h
  exact h
theorem exSame (va vb : Value) (xs : List Int) (H : Snap) (w : World) (hw : Holds H w) (ha : Sl H va xs) (hb : Sl H vb xs) :
    Calls Try.prog 36 #[va, vb] w (PostV w (.bool true)) := by
  have h := sameInts_any va vb xs xs H w hw ha hb
  simpa using h
theorem exSameP (va vb : Value) (xs : List (List Int)) (H : Snap) (w : World) (hw : Holds H w) (ha : Sl H va xs) (hb : Sl H vb xs) :
    Calls Try.prog 54 #[va, vb] w (PostV w (.bool true)) := by
  have h := samePlan_any va vb xs xs H w hw ha hb
  simpa using h

set_option maxRecDepth 100000 in
set_option maxHeartbeats 4000000 in
theorem works_any (H : Snap) (w : World) (hw : Holds H w) :
    Calls Try.prog 16 #[] w (PostV w (.bool true)) := by
  go_enter Try.func16, Try.ntmps16
  go_upto_region 2 with (go_at_call 66; refine (example_any H _ hw).mono ?_; rintro e w1 ⟨v, H1, rfl, hx1, vm, vb, vt, um, ub, ut, rfl, hh, hg⟩; obtain ⟨am, cm, rfl, _, _⟩ := hh.m.form; obtain ⟨ab, cb, rfl, _, _⟩ := hh.b.form; obtain ⟨at', ct, rfl, _, _⟩ := hh.t.form; obtain ⟨dm, em, rfl, _, _⟩ := hg.m.form; obtain ⟨db, eb, rfl, _, _⟩ := hg.b.form; obtain ⟨dt, et, rfl, _, _⟩ := hg.t.form)
  obtain ⟨x1, l1, p1⟩ := hx1.newF #[.slice am exH.ms.length cm, .slice ab exH.bs.length cb, .slice at' exH.ts.length ct, .int .i64 exH.ch] 26
  generalize H1.put w1.heap.size (.cells #[.slice am exH.ms.length cm, .slice ab exH.bs.length cb, .slice at' exH.ts.length ct, .int .i64 exH.ch] 26 (0, 0)) = HA at *
  obtain ⟨x2, l2, p2⟩ := x1.newF #[.slice dm exG.ms.length em, .slice db exG.bs.length eb, .slice dt exG.ts.length et, .int .i64 exG.ch] 26
  rw [show (w1.alloc (.cells #[.slice am exH.ms.length cm, .slice ab exH.bs.length cb, .slice at' exH.ts.length ct, .int .i64 exH.ch] 26)).heap.size = w1.heap.size + 1 by simp] at x2 l2 p2
  generalize HA.put (w1.heap.size + 1) (.cells #[.slice dm exG.ms.length em, .slice db exG.bs.length eb, .slice dt exG.ts.length et, .int .i64 exG.ch] 26 (0, 0)) = H2 at *
  generalize (w1.alloc (.cells #[.slice am exH.ms.length cm, .slice ab exH.bs.length cb, .slice at' exH.ts.length ct, .int .i64 exH.ch] 26)).alloc (.cells #[.slice dm exG.ms.length em, .slice db exG.bs.length eb, .slice dt exG.ts.length et, .int .i64 exG.ch] 26) = w2 at *
  generalize w1.heap.size = B at *
  generalize B + 1 = C at *
  obtain ⟨hc0, hc1, hc2, hc3⟩ := cellsHou (h := exH) (l2 _ _ p1)
  obtain ⟨hd0, hd1, hd2, hd3⟩ := cellsHou (h := exG) p2
  replace hh := (hh.mono l1).mono l2
  replace hg := (hg.mono l1).mono l2
  have ho2 := x2.holds
  clear p1 p2 l1 l2 x1 hx1 hw
  go_wp2_with (first
    | (have hgd := x10; clear hgd; go_at_call 36; obtain ⟨Hk, lk, xk, sk⟩ := ints_lit1 x10 0 (by constructor <;> decide); refine (exSame _ _ _ Hk _ xk.holds (s7.mono lk) sk).mono ?_; rintro e w11 ⟨rfl, hb11⟩; have x11 := xk.step (hb11.mono xk.below.size) (xk.holds.below hb11))
    | (have hgd := x9; clear hgd; go_at_call 54; obtain ⟨Hh, lh, xh, sh⟩ := ints_lit1 x9 0 (by constructor <;> decide); obtain ⟨Hi, li, xi, si⟩ := ints_lit2 xh 1 2 (by constructor <;> decide) (by constructor <;> decide); rw [heap_alloc_size'] at si; obtain ⟨Hj, lj, xj, sj⟩ := lists_lit2 xi (sh.mono li) si; rw [heap_alloc_size', heap_alloc_size'] at sj; refine (exSameP _ _ _ Hj _ xj.holds (s4.mono ((lh.trans li).trans lj)) sj).mono ?_; rintro e w10 ⟨rfl, hb10⟩; have x10 := xj.step (hb10.mono xj.below.size) (xj.holds.below hb10); replace s7 := s7.mono ((lh.trans li).trans lj))
    | (have hgd := x8; clear hgd; go_at_call 36; obtain ⟨Hg, lg, xg, sg⟩ := ints_lit2 x8 0 1 (by constructor <;> decide) (by constructor <;> decide); refine (exSame _ _ _ Hg _ xg.holds (s3.mono lg) sg).mono ?_; rintro e w9 ⟨rfl, hb9⟩; have x9 := xg.step (hb9.mono xg.below.size) (xg.holds.below hb9); replace s4 := s4.mono lg; replace s7 := s7.mono lg)
    | (have hgd := x7; clear hgd; go_at_call 39; refine (exSure _ _ _ H7 _ x7.holds (hg.mono le7)).mono ?_; rintro e w8 ⟨rfl, hb8⟩; have x8 := x7.step (hb8.mono x7.below.size) (x7.holds.below hb8); have ho8 := ho7.below hb8)
    | (have hgd := x6; clear hgd; go_at_call 41; refine (exTold _ _ _ H4 _ x6.holds (hh.mono le4)).mono ?_; rintro e w7 ⟨v7, H7, rfl, y7, u7, rfl, s7⟩; obtain ⟨a7, c7, rfl, _, _⟩ := s7.form; have x7 := x6.trans y7; have le47 := y7.le x6.holds; have le7 := le4.trans le47; have ho7 := x7.holds.mono le7; replace s3 := s3.mono le47; replace s4 := s4.mono le47)
    | (have hgd := x5; clear hgd; go_at_call 26; refine (exSpare _ _ _ H4 _ x5.holds (hg.mono le4)).mono ?_; rintro e w6 ⟨rfl, hb6⟩; have x6 := x5.step (hb6.mono x5.below.size) (x5.holds.below hb6); have ho6 := ho5.below hb6)
    | (have hgd := x4; clear hgd; go_at_call 23; refine (exWait _ _ _ H4 _ x4.holds (hh.mono le4)).mono ?_; rintro e w5 ⟨rfl, hb5⟩; have x5 := x4.step (hb5.mono x4.below.size) (x4.holds.below hb5); have ho5 := ho4.below hb5)
    | (have hgd := x3; clear hgd; go_at_call 57; refine (exPlan _ _ _ H3 _ x3.holds (hh.mono le3)).mono ?_; rintro e w4 ⟨v4, H4, rfl, y4, u4, rfl, s4⟩; obtain ⟨a4, c4, rfl, _, _⟩ := s4.form; have x4 := x3.trans y4; have le34 := y4.le x3.holds; have le4 := le3.trans le34; have ho4 := x4.holds.mono le4; replace s3 := s3.mono le34)
    | (go_at_call 38; obtain ⟨Ha, la, xa, sa⟩ := ints_lit1 x2 2 (by constructor <;> decide); obtain ⟨Hb, lb, xb, sb⟩ := ints_lit1 xa 0 (by constructor <;> decide); rw [heap_alloc_size'] at sb; obtain ⟨Hc, lc, xc, sc⟩ := lists_lit2 xb (sa.mono lb) sb; rw [heap_alloc_size', heap_alloc_size'] at sc; refine (exLate _ _ _ _ Hc _ xc.holds (hh.mono ((la.trans lb).trans lc)) sc).mono ?_; rintro e w3 ⟨v3, H3, rfl, y3, u3, rfl, s3⟩; obtain ⟨a3, c3, rfl, _, _⟩ := s3.form; have x3 := xc.trans y3; have le3 := ((la.trans lb).trans lc).trans (y3.le xc.holds); have ho3 := x3.holds.mono le3))
  go_ret
  exact ⟨rfl, x11.below⟩

end Go.Proofs.Yteijmboophnmgaa
