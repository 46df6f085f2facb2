/- The chapter's example house: what the plain functions say of it. The walks of flonglaw04's machine, bundle and Example. -/
import Derived.Test.YteijmboophnmgaaTold
import Derived.Test.YteijmboophnmgaaTop
import Derived.Test.YteijmboophnmgaaWait
import Derived.Test.YteijmboophnmgaaSpare
import Derived.Test.YteijmboophnmgaaCopy2
import Derived.Test.YteijmboophnmgaaSame

namespace Go.Proofs.Yteijmboophnmgaa
open Go.RowKit

def exH : House := ⟨[⟨0, 2, 1⟩, ⟨5, 3, 0⟩], [⟨0, 4, 0⟩, ⟨1, 3, 0⟩, ⟨1, 5, 1⟩], [10, 31], 2⟩
def exG : House := ⟨[⟨0, 2, 0⟩, ⟨5, 3, 0⟩], [⟨0, 4, 0⟩, ⟨1, 3, 0⟩, ⟨1, 5, 1⟩], [10, 31], 2⟩
theorem exH_valid : valid exH = true := by decide +kernel
theorem exG_valid : valid exG = true := by decide +kernel
theorem exH_isPlan : isPlan exH [[2], [0]] = true := by decide +kernel
theorem exH_late : lateA exH [[2], [0]] = [0, 1] := by decide +kernel
theorem exH_plan : planOf exH = [[0], [1, 2]] := by decide +kernel
theorem exH_wait : waitTV exH 0 = 33 ∧ waitTE exH 0 = 0 := by decide +kernel
theorem exG_spare : spareTV exG = 2 ∧ spareTE exG = 0 := by decide +kernel
theorem exH_told : toldT exH = [0] := by decide +kernel
theorem exG_sure : sureT exG = true := by decide +kernel

end Go.Proofs.Yteijmboophnmgaa

namespace Go.Proofs.Yteijmboophnmgaa
open Go.RowKit

attribute [local go_sem] Holds.drew Holds.alloc Holds.drewN WB.holds Oper.semAt_some FW_fn FW_dep FW_round

set_option maxRecDepth 100000 in
theorem machine_any (r p s : Int) (w : World) :
    Calls Try.prog 99 #[.int .i64 r, .int .i64 p, .int .i64 s] w (PostV w (.agg #[.int .i64 r, .int .i64 p, .int .i64 s])) := by
  go_enter Try.func99, Try.ntmps99
  go_wp2
  refine bodyPost_ret (results_cell_row rfl _ _ w.heap.size 54 _ (0, 0) _ rfl (heap_alloc_new w _) Try.underlying54 rfl (by kernel_rfl)) rfl ?_
  exact ⟨rfl, (Below.refl _ _).alloc (Nat.le_refl _) _⟩

set_option maxRecDepth 100000 in
theorem bundle_any (r p s : Int) (w : World) :
    Calls Try.prog 100 #[.int .i64 r, .int .i64 p, .int .i64 s] w (PostV w (.agg #[.int .i64 r, .int .i64 p, .int .i64 s])) := by
  go_enter Try.func100, Try.ntmps100
  go_wp2
  refine bodyPost_ret (results_cell_row rfl _ _ w.heap.size 58 _ (0, 0) _ rfl (heap_alloc_new w _) Try.underlying58 rfl (by kernel_rfl)) rfl ?_
  exact ⟨rfl, (Below.refl _ _).alloc (Nat.le_refl _) _⟩

theorem heap_setCell_ne (w : World) (a : Addr) (v : Value) {b : Nat} (h : b ≠ a.block) : (w.setCell a v).heap[b]? = w.heap[b]? := by
  show (w.heap.modify a.block _)[b]? = _
  rw [Array.getElem?_modify, if_neg (Ne.symm h)]
theorem heap_alloc_size' (w : World) (o : Obj) : (w.alloc o).heap.size = w.heap.size + 1 := by simp
theorem machRep (H : Snap) (m : Mach) (h1 : I64 m.r) (h2 : I64 m.p) (h3 : I64 m.s) : Enc.rep H m [.int .i64 m.r, .int .i64 m.p, .int .i64 m.s] := show MachRep m _ from ⟨rfl, h1, h2, h3⟩
theorem bundRep (H : Snap) (b : Bund) (h1 : I64 b.t) (h2 : I64 b.h) (h3 : I64 b.e) : Enc.rep H b [.int .i64 b.t, .int .i64 b.h, .int .i64 b.e] := show BundRep b _ from ⟨rfl, h1, h2, h3⟩
theorem exM_lit {w0 w : World} {H0 H : Snap} (hx : Ext w0 H0 w H) : ∃ H2, SLe H H2 ∧ Ext w0 H0 (w.alloc (.cells #[.int .i64 0, .int .i64 2, .int .i64 1, .int .i64 5, .int .i64 3, .int .i64 0] 54)) H2 ∧ Sl H2 (.slice (some ⟨w.heap.size, 0, none⟩) 2 2) exH.ms :=
  Ext.lit (xs := exH.ms) (cs := [.int .i64 0, .int .i64 2, .int .i64 1, .int .i64 5, .int .i64 3, .int .i64 0]) hx
    ⟨_, [.int .i64 5, .int .i64 3, .int .i64 0], rfl, machRep H ⟨0, 2, 1⟩ (by constructor <;> decide) (by constructor <;> decide) (by constructor <;> decide), _, [], rfl, machRep H ⟨5, 3, 0⟩ (by constructor <;> decide) (by constructor <;> decide) (by constructor <;> decide), rfl⟩ _ (by simp [exH, Enc.by_]) (by simp [exH])
theorem exB_lit {w0 w : World} {H0 H : Snap} (hx : Ext w0 H0 w H) : ∃ H2, SLe H H2 ∧ Ext w0 H0 (w.alloc (.cells #[.int .i64 0, .int .i64 4, .int .i64 0, .int .i64 1, .int .i64 3, .int .i64 0, .int .i64 1, .int .i64 5, .int .i64 1] 58)) H2 ∧ Sl H2 (.slice (some ⟨w.heap.size, 0, none⟩) 3 3) exH.bs :=
  Ext.lit (xs := exH.bs) (cs := [.int .i64 0, .int .i64 4, .int .i64 0, .int .i64 1, .int .i64 3, .int .i64 0, .int .i64 1, .int .i64 5, .int .i64 1]) hx
    ⟨_, [.int .i64 1, .int .i64 3, .int .i64 0, .int .i64 1, .int .i64 5, .int .i64 1], rfl, bundRep H ⟨0, 4, 0⟩ (by constructor <;> decide) (by constructor <;> decide) (by constructor <;> decide), _, [.int .i64 1, .int .i64 5, .int .i64 1], rfl, bundRep H ⟨1, 3, 0⟩ (by constructor <;> decide) (by constructor <;> decide) (by constructor <;> decide), _, [], rfl, bundRep H ⟨1, 5, 1⟩ (by constructor <;> decide) (by constructor <;> decide) (by constructor <;> decide), rfl⟩ _ (by simp [exH, Enc.by_]) (by simp [exH])
theorem exT_lit {w0 w : World} {H0 H : Snap} (hx : Ext w0 H0 w H) : ∃ H2, SLe H H2 ∧ Ext w0 H0 (w.alloc (.cells #[.int .i64 10, .int .i64 31] 3)) H2 ∧ Sl H2 (.slice (some ⟨w.heap.size, 0, none⟩) 2 2) exH.ts :=
  Ext.lit (xs := exH.ts) (cs := [.int .i64 10, .int .i64 31]) hx (reps_int.2 ⟨rfl, fun x hx => by simp [exH] at hx; unfold I64; omega⟩) _ (by simp [exH, Enc.by_]) (by simp [exH])

set_option maxRecDepth 100000 in
set_option maxHeartbeats 4000000 in
theorem example_any (H : Snap) (w : World) (hw : Holds H w) :
    Calls Try.prog 66 #[] w (Post w H fun v H' => ∃ vm vb vt um ub ut, v = .tuple #[houV vm vb vt exH, houV um ub ut exG] ∧ Hou H' vm vb vt exH ∧ Hou H' um ub ut exG) := by
  go_enter Try.func66, Try.ntmps66
  go_upto_region 1 with fail
  have hx0 := ((Ext.refl hw).alloc (.cells #[.slice none 0 0, .slice none 0 0, .slice none 0 0, .int .i64 0] 26)).alloc (.cells #[.slice none 0 0, .slice none 0 0, .slice none 0 0, .int .i64 0] 26)
  have hr0 : Rdy w.heap.size 26 ((w.alloc (.cells #[.slice none 0 0, .slice none 0 0, .slice none 0 0, .int .i64 0] 26)).alloc (.cells #[.slice none 0 0, .slice none 0 0, .slice none 0 0, .int .i64 0] 26)) := Rdy.alloc ⟨_, _, _, _, heap_alloc_new _ _⟩ _
  have hr1 : Rdy (w.heap.size + 1) 26 ((w.alloc (.cells #[.slice none 0 0, .slice none 0 0, .slice none 0 0, .int .i64 0] 26)).alloc (.cells #[.slice none 0 0, .slice none 0 0, .slice none 0 0, .int .i64 0] 26)) := by
    have h := heap_alloc_new (w.alloc (.cells #[.slice none 0 0, .slice none 0 0, .slice none 0 0, .int .i64 0] 26)) (.cells #[.slice none 0 0, .slice none 0 0, .slice none 0 0, .int .i64 0] 26)
    rw [show (w.alloc (.cells #[.slice none 0 0, .slice none 0 0, .slice none 0 0, .int .i64 0] 26)).heap.size = w.heap.size + 1 by simp] at h
    exact ⟨_, _, _, _, h⟩
  generalize (w.alloc (.cells #[.slice none 0 0, .slice none 0 0, .slice none 0 0, .int .i64 0] 26)).alloc (.cells #[.slice none 0 0, .slice none 0 0, .slice none 0 0, .int .i64 0] 26) = W0 at *
  have hg0 : w.heap.size ≤ w.heap.size := Nat.le_refl _
  have hg1 : w.heap.size ≤ w.heap.size + 1 := Nat.le_succ _
  have hn0 : H w.heap.size = none := hw.none_of_ge (Nat.le_refl _)
  have hn1 : H (w.heap.size + 1) = none := hw.none_of_ge (Nat.le_succ _)
  have hne : w.heap.size ≠ w.heap.size + 1 := by omega
  generalize hR0 : w.heap.size = R0 at *
  generalize hR1 : R0 + 1 = R1 at *
  have hy0 := Ext.refl hx0.holds
  go_upto_region 2 with (first
    | (have hgd := hy4; clear hgd; go_at_call 100; refine (bundle_any _ _ _ _).mono ?_; rintro e w5 ⟨rfl, hb5⟩; have hy5 := hy4.step (hb5.mono hy4.below.size) (hy4.holds.below hb5); have hr05 := hr0.below hy5.below hr0.lt; obtain ⟨c0, hc0⟩ := hr05.cell 0 (by omega); obtain ⟨c1, hc1⟩ := hr05.cell 1 (by omega); obtain ⟨c2, hc2⟩ := hr05.cell 2 (by omega); obtain ⟨c3, hc3⟩ := hr05.cell 3 (by omega); have hf0 := hr05.fz 0; have hf1 := hr05.fz 1; have hf2 := hr05.fz 2; have hf3 := hr05.fz 3; have hlt0 := hr05.lt)
    | (have hgd := hy3; clear hgd; go_at_call 100; refine (bundle_any _ _ _ _).mono ?_; rintro e w4 ⟨rfl, hb4⟩; have hy4 := hy3.step (hb4.mono hy3.below.size) (hy3.holds.below hb4))
    | (have hgd := hy2; clear hgd; go_at_call 100; refine (bundle_any _ _ _ _).mono ?_; rintro e w3 ⟨rfl, hb3⟩; obtain ⟨HA, hleA, hyA, hsM⟩ := exM_lit hy2; have hy3 := hyA.step (hb3.mono hyA.below.size) (hyA.holds.below hb3))
    | (have hgd := hy1; clear hgd; go_at_call 99; refine (machine_any _ _ _ _).mono ?_; rintro e w2 ⟨rfl, hb2⟩; have hy2 := hy1.step (hb2.mono hy1.below.size) (hy1.holds.below hb2))
    | (go_at_call 99; refine (machine_any _ _ _ _).mono ?_; rintro e w1 ⟨rfl, hb1⟩; have hy1 := hy0.step (hb1.mono hy0.below.size) (hy0.holds.below hb1)))
  have q0 := ((hx0.trans hy5).setCell (a := ⟨R0, 0, none⟩) (by rw [hR0]; exact hg0) ((hy5.same R0 hr0.lt).trans hn0) (.slice (some ⟨w2.heap.size, 0, none⟩) 2 2))
  have q1 := q0.setCell (a := ⟨R0, 1, none⟩) (by rw [hR0]; exact hg0) ((hy5.same R0 hr0.lt).trans hn0) (.slice (some ⟨w5.heap.size, 0, none⟩) 3 3)
  have q2 := q1.setCell (a := ⟨R0, 2, none⟩) (by rw [hR0]; exact hg0) ((hy5.same R0 hr0.lt).trans hn0) (.slice (some ⟨w5.heap.size + 1, 0, none⟩) 2 2)
  have q3 := q2.setCell (a := ⟨R0, 3, none⟩) (by rw [hR0]; exact hg0) ((hy5.same R0 hr0.lt).trans hn0) (.int .i64 2)
  clear q0 q1 q2
  have hrow := hr05.row (.slice (some ⟨w2.heap.size, 0, none⟩) 2 2) (.slice (some ⟨w5.heap.size, 0, none⟩) 3 3) (.slice (some ⟨w5.heap.size + 1, 0, none⟩) 2 2) (.int .i64 2)
  have hr15 := (((((hr1.below hy5.below hr1.lt).other (a := ⟨R0, 0, none⟩) hne (.slice (some ⟨w2.heap.size, 0, none⟩) 2 2)).other (a := ⟨R0, 1, none⟩) hne (.slice (some ⟨w5.heap.size, 0, none⟩) 3 3)).other (a := ⟨R0, 2, none⟩) hne (.slice (some ⟨w5.heap.size + 1, 0, none⟩) 2 2)).other (a := ⟨R0, 3, none⟩) hne (.int .i64 2))
  have hsz : ((((w5.setCell ⟨R0, 0, none⟩ (.slice (some ⟨w2.heap.size, 0, none⟩) 2 2)).setCell ⟨R0, 1, none⟩ (.slice (some ⟨w5.heap.size, 0, none⟩) 3 3)).setCell ⟨R0, 2, none⟩ (.slice (some ⟨w5.heap.size + 1, 0, none⟩) 2 2)).setCell ⟨R0, 3, none⟩ (.int .i64 2)).heap.size = w5.heap.size := by simp
  generalize (((w5.setCell ⟨R0, 0, none⟩ (.slice (some ⟨w2.heap.size, 0, none⟩) 2 2)).setCell ⟨R0, 1, none⟩ (.slice (some ⟨w5.heap.size, 0, none⟩) 3 3)).setCell ⟨R0, 2, none⟩ (.slice (some ⟨w5.heap.size + 1, 0, none⟩) 2 2)).setCell ⟨R0, 3, none⟩ (.int .i64 2) = w6 at *
  obtain ⟨HB, hleB, yB, hsB⟩ := exB_lit (Ext.refl q3.holds)
  obtain ⟨HC, hleC, yC, hsT⟩ := exT_lit yB
  rw [heap_alloc_size', hsz] at hsT
  rw [hsz] at hsB
  have q8 := q3.trans yC
  have hN0 : HC R0 = none := (yC.same R0 (by rw [hsz]; exact hlt0)).trans ((hy5.same R0 hr0.lt).trans hn0)
  have hN1 : HC R1 = none := (yC.same R1 hr15.lt).trans ((hy5.same R1 hr1.lt).trans hn1)
  have hrow8 := (yC.below.block R0 (by rw [hsz]; exact hlt0)).trans hrow
  have hr18 := hr15.below yC.below hr15.lt
  have hsM8 := (hsM.mono hleB).mono hleC
  have hsB8 := hsB.mono hleC
  clear q3 yB yC hrow hr15 hsM hsB hr05 hc0 hc1 hc2 hc3 hf0 hf1 hf2 hf3 hr0 hr1 hy5 hx0 hy0 hy1 hy2 hy3 hy4 hyA hb1 hb2 hb3 hb4 hb5
  generalize (w6.alloc (.cells #[.int .i64 0, .int .i64 4, .int .i64 0, .int .i64 1, .int .i64 3, .int .i64 0, .int .i64 1, .int .i64 5, .int .i64 1] 58)).alloc (.cells #[.int .i64 10, .int .i64 31] 3) = w8 at *
  generalize (Value.slice (some ⟨w2.heap.size, 0, none⟩) 2 2) = vm at *
  generalize (Value.slice (some ⟨w5.heap.size, 0, none⟩) 3 3) = vb at *
  generalize (Value.slice (some ⟨w5.heap.size + 1, 0, none⟩) 2 2) = vt at *
  have hH : Hou HC vm vb vt exH := ⟨hsM8, hsB8, hsT, by decide⟩
  have hcell : ∀ i, w8.cell? ⟨R0, i, none⟩ = (#[vm, vb, vt, .int .i64 2] : Array Value)[i]? := fun i => cell_of_row w8 R0 i _ _ _ hrow8
  have d0 := hcell 0
  have d1 := hcell 1
  have d2 := hcell 2
  have d3 := hcell 3
  simp at d0 d1 d2 d3
  have hw8 := q8.holds
  have hcopy : Calls Try.prog 29 #[.agg #[vm, vb, vt, .int .i64 2]] w8 (PostC w8 HC exH) := copy4_any vm vb vt exH HC w8 hw8 hH
  clear hsz hlt0
  go_upto_region 3 with (go_at_call 29; refine hcopy.mono ?_; rintro e w9 ⟨um, ub, ut, H9, rfl, hx9, om, ob, ot⟩; obtain ⟨am, cm, rfl, _, _⟩ := om.form; obtain ⟨ab, cb, rfl, _, _⟩ := ob.form; obtain ⟨at', ct, rfl, _, _⟩ := ot.form; have hr19 := hr18.below hx9.below hr18.lt; obtain ⟨c0, hc0⟩ := hr19.cell 0 (by omega); obtain ⟨c1, hc1⟩ := hr19.cell 1 (by omega); obtain ⟨c2, hc2⟩ := hr19.cell 2 (by omega); obtain ⟨c3, hc3⟩ := hr19.cell 3 (by omega); have hf0 := hr19.fz 0; have hf1 := hr19.fz 1; have hf2 := hr19.fz 2; have hf3 := hr19.fz 3)
  have hrl := hr18.lt
  have hrow9 := hr19.row (.slice am exH.ms.length cm) (.slice ab exH.bs.length cb) (.slice at' exH.ts.length ct) (.int .i64 exH.ch)
  have om9 := om.set4 hrl (i := 0) (j := 1) (k := 2) (l := 3) (.slice am exH.ms.length cm) (.slice ab exH.bs.length cb) (.slice at' exH.ts.length ct) (.int .i64 exH.ch)
  have ob9 := ob.set4 hrl (i := 0) (j := 1) (k := 2) (l := 3) (.slice am exH.ms.length cm) (.slice ab exH.bs.length cb) (.slice at' exH.ts.length ct) (.int .i64 exH.ch)
  have ot9 := ot.set4 hrl (i := 0) (j := 1) (k := 2) (l := 3) (.slice am exH.ms.length cm) (.slice ab exH.bs.length cb) (.slice at' exH.ts.length ct) (.int .i64 exH.ch)
  have hN19 : H9 R1 = none := (hx9.same R1 hrl).trans hN1
  have hN09 : H9 R0 = none := (hx9.same R0 (Array.getElem?_eq_some_iff.1 hrow8).1).trans hN0
  have hg1' : w.heap.size ≤ R1 := by rw [hR0]; exact hg1
  have q9 := ((((q8.trans hx9).setCell (a := ⟨R1, 0, none⟩) hg1' hN19 (.slice am exH.ms.length cm)).setCell (a := ⟨R1, 1, none⟩) hg1' hN19 (.slice ab exH.bs.length cb)).setCell (a := ⟨R1, 2, none⟩) hg1' hN19 (.slice at' exH.ts.length ct)).setCell (a := ⟨R1, 3, none⟩) hg1' hN19 (.int .i64 exH.ch)
  have hrow09 : ((((w9.setCell ⟨R1, 0, none⟩ (.slice am exH.ms.length cm)).setCell ⟨R1, 1, none⟩ (.slice ab exH.bs.length cb)).setCell ⟨R1, 2, none⟩ (.slice at' exH.ts.length ct)).setCell ⟨R1, 3, none⟩ (.int .i64 exH.ch)).heap[R0]? = some (.cells #[vm, vb, vt, .int .i64 2] 26 (0, 0)) := by
    rw [heap_setCell_ne _ _ _ hne, heap_setCell_ne _ _ _ hne, heap_setCell_ne _ _ _ hne, heap_setCell_ne _ _ _ hne, hx9.below.block R0 (Array.getElem?_eq_some_iff.1 hrow8).1]
    exact hrow8
  have hwB : w.heap.size ≤ w8.heap.size := q8.below.size
  have hhC := hH.mono (hx9.le hw8)
  clear hc0 hc1 hc2 hc3 hf0 hf1 hf2 hf3 hr19 om ob ot hcopy d0 d1 d2 d3 hcell
  generalize (((w9.setCell ⟨R1, 0, none⟩ (.slice am exH.ms.length cm)).setCell ⟨R1, 1, none⟩ (.slice ab exH.bs.length cb)).setCell ⟨R1, 2, none⟩ (.slice at' exH.ts.length ct)).setCell ⟨R1, 3, none⟩ (.int .i64 exH.ch) = V at *
  obtain ⟨g, cg, hev, hgb, hgn, hglt, ⟨cur, hgc, hgs⟩, hset⟩ := om9.at3 rfl (k := 0) (by decide)
  cases hev
  have hgR1 : g ≠ R1 := by omega
  have hgR0 : g ≠ R0 := by have := (Array.getElem?_eq_some_iff.1 hrow8).1; omega
  have hpR := Snap.put_same H9 R1 (.cells #[.slice (some ⟨g, 0, none⟩) exH.ms.length cm, .slice ab exH.bs.length cb, .slice at' exH.ts.length ct, .int .i64 exH.ch] 26 (0, 0))
  have hwV := (q9.holds.put hrow9)
  have hleR := Snap.le_put hN19 (.cells #[.slice (some ⟨g, 0, none⟩) exH.ms.length cm, .slice ab exH.bs.length cb, .slice at' exH.ts.length ct, .int .i64 exH.ch] 26 (0, 0))
  have hngR : (H9.put R1 (.cells #[.slice (some ⟨g, 0, none⟩) exH.ms.length cm, .slice ab exH.bs.length cb, .slice at' exH.ts.length ct, .int .i64 exH.ch] 26 (0, 0))) g = none := (Snap.put_other _ _ hgR1).trans hgn
  generalize H9.put R1 (.cells #[.slice (some ⟨g, 0, none⟩) exH.ms.length cm, .slice ab exH.bs.length cb, .slice at' exH.ts.length ct, .int .i64 exH.ch] 26 (0, 0)) = HR at *
  have e0 : ∀ w, Holds HR w → w.cell? ⟨R1, 0, none⟩ = some (.slice (some ⟨g, 0, none⟩) exH.ms.length cm) := fun w hw => cellH hpR hw 0
  have e1 : ∀ w, Holds HR w → w.cell? ⟨R1, 1, none⟩ = some (.slice ab exH.bs.length cb) := fun w hw => cellH hpR hw 1
  have e2 : ∀ w, Holds HR w → w.cell? ⟨R1, 2, none⟩ = some (.slice at' exH.ts.length ct) := fun w hw => cellH hpR hw 2
  have e3 : ∀ w, Holds HR w → w.cell? ⟨R1, 3, none⟩ = some (.int .i64 exH.ch) := fun w hw => cellH hpR hw 3
  refine (wpIn_wide (n := 3)).1 ?_
  show Code.wpIn (FW none) 3 _ _ _ _ _
  have hnq : Nonempty (WB HR V) := ⟨⟨V, hwV, Below.refl _ _⟩⟩
  refine wpIn_region_qtail (C := fun w' => ∃ x : WB HR V, w' = x.w) 4 (by kernel_rfl) (by kernel_rfl) (by kernel_rfl) ⟨⟨V.drew, hwV.drew, (Below.refl _ _).drew⟩, rfl⟩ ?_
  simp only [List.take_succ_cons, List.take_zero, List.drop_succ_cons, List.drop_zero]
  have hl2 : (0 : Int) < (exH.ms.length : Int) := by decide
  repeat go_big_quiet_step ((go_at_call 99; exact Calls.quietB (machine_any _ _ _ _)))
  refine wpQuiet_nil ?_
  clear hnq
  rintro V2 ⟨⟨_, hV2, hb2⟩, rfl⟩
  have hgc2 := (hb2.block g hglt).trans hgc
  have z0 := cell_of_row V2 g 0 _ _ _ hgc2
  have z1 := cell_of_row V2 g 1 _ _ _ hgc2
  have z2 := cell_of_row V2 g 2 _ _ _ hgc2
  rw [Array.getElem?_eq_getElem (by have : exH.ms.length = 2 := rfl; omega)] at z0 z1 z2
  have f0 : V2.frozen? ⟨g, 0, none⟩ = false := by simp [World.frozen?, hgc2]
  have f1 : V2.frozen? ⟨g, 1, none⟩ = false := by simp [World.frozen?, hgc2]
  have f2 : V2.frozen? ⟨g, 2, none⟩ = false := by simp [World.frozen?, hgc2]
  gi_wp2
  have xV : Ext V H9 V2 H9 := ⟨hb2, hV2.mono hleR, fun _ _ => rfl⟩
  have om2 := om9.ext q9.holds xV
  have ob2 := ob9.ext q9.holds xV
  have ot2 := ot9.ext q9.holds xV
  obtain ⟨g', cg', hev', _, _, _, _, hset2⟩ := om2.at3 rfl (k := 0) (by decide)
  cases hev'
  have hgw : w.heap.size ≤ g := Nat.le_trans hwB hgb
  have omG := hset2 ⟨0, 2, 0⟩ _ _ _ (machRep H9 ⟨0, 2, 0⟩ (by constructor <;> decide) (by constructor <;> decide) (by constructor <;> decide))
  have nb : (Value.slice ab exH.bs.length cb).ownBlock ≠ some g := by
    rcases ob2.apart om2 (by decide) with e | e
    · rw [e]; simp
    · exact e
  have nt : (Value.slice at' exH.ts.length ct).ownBlock ≠ some g := by
    rcases ot2.apart om2 (by decide) with e | e
    · rw [e]; simp
    · exact e
  have obG := ((ob2.setCell (a := ⟨g, 0, none⟩) nb (.int .i64 0)).setCell (a := ⟨g, 1, none⟩) nb (.int .i64 2)).setCell (a := ⟨g, 2, none⟩) nb (.int .i64 0)
  have otG := ((ot2.setCell (a := ⟨g, 0, none⟩) nt (.int .i64 0)).setCell (a := ⟨g, 1, none⟩) nt (.int .i64 2)).setCell (a := ⟨g, 2, none⟩) nt (.int .i64 0)
  have qG := (((q9.step (hb2.mono q9.below.size) (hV2.mono hleR)).setCell (a := ⟨g, 0, none⟩) hgw hgn (.int .i64 0)).setCell (a := ⟨g, 1, none⟩) hgw hgn (.int .i64 2)).setCell (a := ⟨g, 2, none⟩) hgw hgn (.int .i64 0)
  have hrA : (((V2.setCell ⟨g, 0, none⟩ (.int .i64 0)).setCell ⟨g, 1, none⟩ (.int .i64 2)).setCell ⟨g, 2, none⟩ (.int .i64 0)).heap[R0]? = some (.cells #[vm, vb, vt, .int .i64 2] 26 (0, 0)) := by
    rw [heap_setCell_ne _ _ _ (Ne.symm hgR0), heap_setCell_ne _ _ _ (Ne.symm hgR0), heap_setCell_ne _ _ _ (Ne.symm hgR0), hb2.block R0 (Array.getElem?_eq_some_iff.1 hrow09).1]
    exact hrow09
  have hrB : (((V2.setCell ⟨g, 0, none⟩ (.int .i64 0)).setCell ⟨g, 1, none⟩ (.int .i64 2)).setCell ⟨g, 2, none⟩ (.int .i64 0)).heap[R1]? = some (.cells #[.slice (some ⟨g, 0, none⟩) exH.ms.length cm, .slice ab exH.bs.length cb, .slice at' exH.ts.length ct, .int .i64 exH.ch] 26 (0, 0)) := by
    rw [heap_setCell_ne _ _ _ (Ne.symm hgR1), heap_setCell_ne _ _ _ (Ne.symm hgR1), heap_setCell_ne _ _ _ (Ne.symm hgR1)]
    exact hV2.at_ _ _ hpR
  clear hset hset2 om2 ob2 ot2 om9 ob9 ot9 xV z0 z1 z2 f0 f1 f2 hgc2 hpR hwV hleR hngR e0 e1 e2 e3 hV2 hb2 q9 hrow09 hrow9 hgc hgs
  generalize ((V2.setCell ⟨g, 0, none⟩ (.int .i64 0)).setCell ⟨g, 1, none⟩ (.int .i64 2)).setCell ⟨g, 2, none⟩ (.int .i64 0) = W at *
  obtain ⟨ma, mc, rfl, _, _⟩ := hhC.m.form
  obtain ⟨ba, bc, rfl, _, _⟩ := hhC.b.form
  obtain ⟨ta, tc, rfl, _, _⟩ := hhC.t.form
  have a0 := cell_of_row W R0 0 _ _ _ hrA
  have a1 := cell_of_row W R0 1 _ _ _ hrA
  have a2 := cell_of_row W R0 2 _ _ _ hrA
  have a3 := cell_of_row W R0 3 _ _ _ hrA
  have b0 := cell_of_row W R1 0 _ _ _ hrB
  have b1 := cell_of_row W R1 1 _ _ _ hrB
  have b2 := cell_of_row W R1 2 _ _ _ hrB
  have b3 := cell_of_row W R1 3 _ _ _ hrB
  simp at a0 a1 a2 a3 b0 b1 b2 b3
  have fa := fun i => (show W.frozen? ⟨R0, i, none⟩ = false by simp [World.frozen?, hrA])
  have fb := fun i => (show W.frozen? ⟨R1, i, none⟩ = false by simp [World.frozen?, hrB])
  have fa0 := fa 0
  have fa1 := fa 1
  have fa2 := fa 2
  have fa3 := fa 3
  have fb0 := fb 0
  have fb1 := fb 1
  have fb2 := fb 2
  have fb3 := fb 3
  go_wp2
  go_region
  all_goals go_wp2
  have hl0 : R0 < w8.heap.size := (Array.getElem?_eq_some_iff.1 hrow8).1
  have rA : Rdy R0 26 W := ⟨_, _, _, _, hrA⟩
  have rB : Rdy R1 26 W := ⟨_, _, _, _, hrB⟩
  have rA' := rA.row (.slice ma exH.ms.length mc) (.slice ba exH.bs.length bc) (.slice ta exH.ts.length tc) (.int .i64 2)
  have rB' := ((((rB.other (a := ⟨R0, 0, none⟩) hne (.slice ma exH.ms.length mc)).other (a := ⟨R0, 1, none⟩) hne (.slice ba exH.bs.length bc)).other (a := ⟨R0, 2, none⟩) hne (.slice ta exH.ts.length tc)).other (a := ⟨R0, 3, none⟩) hne (.int .i64 2)).row (.slice (some ⟨g, 0, none⟩) exH.ms.length cm) (.slice ab exH.bs.length cb) (.slice at' exH.ts.length ct) (.int .i64 exH.ch)
  have hg0' : w.heap.size ≤ R0 := by rw [hR0]; exact hg0
  have qF := (((((((qG.setCell (a := ⟨R0, 0, none⟩) hg0' hN09 (.slice ma exH.ms.length mc)).setCell (a := ⟨R0, 1, none⟩) hg0' hN09 (.slice ba exH.bs.length bc)).setCell (a := ⟨R0, 2, none⟩) hg0' hN09 (.slice ta exH.ts.length tc)).setCell (a := ⟨R0, 3, none⟩) hg0' hN09 (.int .i64 2)).setCell (a := ⟨R1, 0, none⟩) hg1' hN19 (.slice (some ⟨g, 0, none⟩) exH.ms.length cm)).setCell (a := ⟨R1, 1, none⟩) hg1' hN19 (.slice ab exH.bs.length cb)).setCell (a := ⟨R1, 2, none⟩) hg1' hN19 (.slice at' exH.ts.length ct)).setCell (a := ⟨R1, 3, none⟩) hg1' hN19 (.int .i64 exH.ch)
  have omF := ((omG.set4 hl0 (i := 0) (j := 1) (k := 2) (l := 3) (.slice ma exH.ms.length mc) (.slice ba exH.bs.length bc) (.slice ta exH.ts.length tc) (.int .i64 2)).set4 hrl (i := 0) (j := 1) (k := 2) (l := 3) (.slice (some ⟨g, 0, none⟩) exH.ms.length cm) (.slice ab exH.bs.length cb) (.slice at' exH.ts.length ct) (.int .i64 exH.ch)).weaken hwB
  have obF := ((obG.set4 hl0 (i := 0) (j := 1) (k := 2) (l := 3) (.slice ma exH.ms.length mc) (.slice ba exH.bs.length bc) (.slice ta exH.ts.length tc) (.int .i64 2)).set4 hrl (i := 0) (j := 1) (k := 2) (l := 3) (.slice (some ⟨g, 0, none⟩) exH.ms.length cm) (.slice ab exH.bs.length cb) (.slice at' exH.ts.length ct) (.int .i64 exH.ch)).weaken hwB
  have otF := ((otG.set4 hl0 (i := 0) (j := 1) (k := 2) (l := 3) (.slice ma exH.ms.length mc) (.slice ba exH.bs.length bc) (.slice ta exH.ts.length tc) (.int .i64 2)).set4 hrl (i := 0) (j := 1) (k := 2) (l := 3) (.slice (some ⟨g, 0, none⟩) exH.ms.length cm) (.slice ab exH.bs.length cb) (.slice at' exH.ts.length ct) (.int .i64 exH.ch)).weaken hwB
  obtain ⟨HF, xF, lF, s1, s2, s3⟩ := Own.close3 qF.drew omF.drew obF.drew otF.drew (by decide) (by decide) (by decide)
  have hdr : ∀ W' : World, W'.drew.heap = W'.heap := fun _ => rfl
  have s1' : Sl HF (.slice (some ⟨g, 0, none⟩) exH.ms.length cm) exG.ms := s1
  have s2' : Sl HF (.slice ab exH.bs.length cb) exG.bs := s2
  have s3' : Sl HF (.slice at' exH.ts.length ct) exG.ts := s3
  refine bodyPost_ret (results_cell_row2 rfl _ _ R0 R1 26 26 _ _ (0, 0) (0, 0) _ _ rfl rfl
    (by
      rw [hdr, heap_setCell_ne _ _ _ hne, heap_setCell_ne _ _ _ hne, heap_setCell_ne _ _ _ hne, heap_setCell_ne _ _ _ hne]; exact rA') (by rw [hdr]; exact rB')
    Try.underlying26 rfl (by kernel_rfl) Try.underlying26 rfl (by kernel_rfl)) rfl ?_
  exact ⟨_, HF, rfl, xF, _, _, _, _, _, _, rfl, hhC.mono lF, ⟨s1', s2', s3', by decide⟩⟩

end Go.Proofs.Yteijmboophnmgaa
