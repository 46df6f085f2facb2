/- Lemmas and walks on which the claims of this seat lean: MCopy. -/
import Derived.Test.YtngdppajailpcaaGreatG08
import Derived.Test.YtngdppajailpcaaGreatG09

set_option linter.all false

namespace Go.Proofs.YtngdppajailpcaaGreat
open Go.RowKit

attribute [local go_sem] Holds.drew Holds.alloc Holds.drewN WB.holds Oper.semAt_some FW_fn FW_dep FW_round

theorem reps_flat {α : Type} [Enc α] {A B : Snap} (hf : ∀ (x : α) cs, Enc.rep A x cs → Enc.rep B x cs) : ∀ {xs : List α} {cs : List Value}, reps A xs cs → reps B xs cs
  | [], _, h => h
  | _ :: _, _, ⟨c1, c2, e, h1, h2⟩ => ⟨c1, c2, e, hf _ _ h1, reps_flat hf h2⟩
/-- A slice of plain numbers does not lean on what is frozen. -/
theorem Own.flat {α : Type} [Enc α] {A B : Snap} {base : Nat} {w : World} {e : TypeId} {v : Value} {xs : List α} (h : Own A base w e v xs) (hf : ∀ (x : α) cs, Enc.rep A x cs → Enc.rep B x cs) (hle : SLe B A) : Own B base w e v xs := by
  obtain ⟨cells, ho, hr, hn, hb⟩ := h
  refine ⟨cells, ho, reps_flat hf hr, fun k hk => ?_, hb⟩
  cases e : B k with
  | none => rfl
  | some o => have := hle k o e; rw [hn k hk] at this; cases this

theorem Own.flatM {A B : Snap} {base : Nat} {w : World} {e : TypeId} {v : Value} {xs : List Mach} (h : Own A base w e v xs) (hle : SLe B A) : Own B base w e v xs := h.flat (fun _ _ h => h) hle
theorem Own.flatB {A B : Snap} {base : Nat} {w : World} {e : TypeId} {v : Value} {xs : List Bund} (h : Own A base w e v xs) (hle : SLe B A) : Own B base w e v xs := h.flat (fun _ _ h => h) hle
theorem Own.flatT {A B : Snap} {base : Nat} {w : World} {e : TypeId} {v : Value} {xs : List Int} (h : Own A base w e v xs) (hle : SLe B A) : Own B base w e v xs := h.flat (fun _ _ h => h) hle

/-- The five slices of a hall, all of them the call's own. -/
structure KOwn (H : Snap) (base : Nat) (w : World) (um ub ut uo ue : Value) (h : Hall) : Prop where
  m : Own H base w 97 um h.hs.ms
  b : Own H base w 120 ub h.hs.bs
  t : Own H base w 3 ut h.hs.ts
  o : Own H base w 3 uo h.bo
  e : Own H base w 24 ue h.ed
  ap : ut.ownBlock = none ∨ ut.ownBlock ≠ uo.ownBlock
  c : -9223372036854775808 ≤ h.hs.ch ∧ h.hs.ch ≤ 9223372036854775807
def PostK (w : World) (H : Snap) (h : Hall) (f : Ending) (w' : World) : Prop :=
  ∃ um ub ut uo ue H', f = .returned (halV um ub ut uo ue h) ∧ Ext w H w' H' ∧ KOwn H' w.heap.size w' um ub ut uo ue h

/-- A block of six cells that may be written. -/
def Rdy6 (rb : Nat) (t : TypeId) (w : World) : Prop := ∃ a b c d e f : Value, w.heap[rb]? = some (.cells #[a, b, c, d, e, f] t (0, 0))
theorem Rdy6.below {rb base : Nat} {t : TypeId} {w w' : World} (h : Rdy6 rb t w) (hb : Below base w w') (hrb : rb < base) : Rdy6 rb t w' := by
  obtain ⟨a, b, c, d, e, f, hr⟩ := h
  exact ⟨a, b, c, d, e, f, (hb.block rb hrb).trans hr⟩
theorem Rdy6.drew {rb : Nat} {t : TypeId} {w : World} (h : Rdy6 rb t w) : Rdy6 rb t w.drew := h
theorem Rdy6.lt {rb : Nat} {t : TypeId} {w : World} (h : Rdy6 rb t w) : rb < w.heap.size := by
  obtain ⟨a, b, c, d, e, f, hr⟩ := h
  exact (Array.getElem?_eq_some_iff.1 hr).1
theorem Rdy6.alloc {rb : Nat} {t : TypeId} {w : World} (h : Rdy6 rb t w) (o : Obj) : Rdy6 rb t (w.alloc o) := by
  have hl := h.lt
  obtain ⟨a, b, c, d, e, f, hr⟩ := h
  exact ⟨a, b, c, d, e, f, (heap_alloc_old w o hl).trans hr⟩
theorem Rdy6.cell {rb : Nat} {t : TypeId} {w : World} (h : Rdy6 rb t w) (i : Nat) (hi : i < 6) : ∃ v, w.cell? ⟨rb, i, none⟩ = some v := by
  obtain ⟨a, b, c, d, e, f, hr⟩ := h
  rw [cell_of_row w rb i _ _ _ hr]
  exact ⟨_, Array.getElem?_eq_getElem (by simpa using hi)⟩
theorem Rdy6.fz {rb : Nat} {t : TypeId} {w : World} (h : Rdy6 rb t w) (i : Nat) : w.frozen? ⟨rb, i, none⟩ = false := by
  obtain ⟨a, b, c, d, e, f, hr⟩ := h
  simp [World.frozen?, hr]
/-- Six cells are written. -/
def set6 (w : World) (rb : Nat) (u1 u2 u3 u4 u5 u6 : Value) : World := (((((w.setCell ⟨rb, 0, none⟩ u1).setCell ⟨rb, 1, none⟩ u2).setCell ⟨rb, 2, none⟩ u3).setCell ⟨rb, 3, none⟩ u4).setCell ⟨rb, 4, none⟩ u5).setCell ⟨rb, 5, none⟩ u6
theorem Rdy6.row {rb : Nat} {t : TypeId} {w : World} (h : Rdy6 rb t w) (u1 u2 u3 u4 u5 u6 : Value) : (set6 w rb u1 u2 u3 u4 u5 u6).heap[rb]? = some (.cells #[u1, u2, u3, u4, u5, u6] t (0, 0)) := by
  obtain ⟨a, b, c, d, e, f, hr⟩ := h
  have h1 := heap_setCell_row (i := 0) hr u1
  have h2 := heap_setCell_row (i := 1) h1 u2
  have h3 := heap_setCell_row (i := 2) h2 u3
  have h4 := heap_setCell_row (i := 3) h3 u4
  have h5 := heap_setCell_row (i := 4) h4 u5
  have h6 := heap_setCell_row (i := 5) h5 u6
  simpa [set6] using h6
theorem Rdy6.set6 {rb : Nat} {t : TypeId} {w : World} (h : Rdy6 rb t w) (u1 u2 u3 u4 u5 u6 : Value) : Rdy6 rb t (set6 w rb u1 u2 u3 u4 u5 u6) := ⟨_, _, _, _, _, _, h.row u1 u2 u3 u4 u5 u6⟩
theorem Holds.set6 {H : Snap} {w : World} (h : Holds H w) {rb : Nat} (hn : H rb = none) (u1 u2 u3 u4 u5 u6 : Value) : Holds H (Go.Proofs.YtngdppajailpcaaGreat.set6 w rb u1 u2 u3 u4 u5 u6) :=
  (((((h.setCell (a := ⟨rb, 0, none⟩) hn u1).setCell (a := ⟨rb, 1, none⟩) hn u2).setCell (a := ⟨rb, 2, none⟩) hn u3).setCell (a := ⟨rb, 3, none⟩) hn u4).setCell (a := ⟨rb, 4, none⟩) hn u5).setCell (a := ⟨rb, 5, none⟩) hn u6
theorem Below.set6 {w0 w : World} {rb : Nat} (h : Below rb w0 w) (u1 u2 u3 u4 u5 u6 : Value) : Below rb w0 (Go.Proofs.YtngdppajailpcaaGreat.set6 w rb u1 u2 u3 u4 u5 u6) := by
  have k : ∀ i, rb ≤ (⟨rb, i, none⟩ : Addr).block := fun _ => Nat.le_refl _
  exact (((((h.setCell (k 0) u1).setCell (k 1) u2).setCell (k 2) u3).setCell (k 3) u4).setCell (k 4) u5).setCell (k 5) u6
theorem size_set6 (w : World) (rb : Nat) (u1 u2 u3 u4 u5 u6 : Value) : (set6 w rb u1 u2 u3 u4 u5 u6).heap.size = w.heap.size := by simp [set6]
theorem Ext.set6 {w0 w : World} {H0 H : Snap} (x : Ext w0 H0 w H) {rb : Nat} (hb : w0.heap.size ≤ rb) (hn : H rb = none) (u1 u2 u3 u4 u5 u6 : Value) : Ext w0 H0 (set6 w rb u1 u2 u3 u4 u5 u6) H :=
  (((((x.setCell (a := ⟨rb, 0, none⟩) hb hn u1).setCell (a := ⟨rb, 1, none⟩) hb hn u2).setCell (a := ⟨rb, 2, none⟩) hb hn u3).setCell (a := ⟨rb, 3, none⟩) hb hn u4).setCell (a := ⟨rb, 4, none⟩) hb hn u5).setCell (a := ⟨rb, 5, none⟩) hb hn u6
theorem Own.set6 {α : Type} [Enc α] {H : Snap} {base rb : Nat} {w : World} {e : TypeId} {v : Value} {xs : List α} (h : Own H base w e v xs) (hb : v.ownBlock ≠ some rb) (u1 u2 u3 u4 u5 u6 : Value) : Own H base (Go.Proofs.YtngdppajailpcaaGreat.set6 w rb u1 u2 u3 u4 u5 u6) e v xs :=
  (((((h.setCell (a := ⟨rb, 0, none⟩) hb u1).setCell (a := ⟨rb, 1, none⟩) hb u2).setCell (a := ⟨rb, 2, none⟩) hb u3).setCell (a := ⟨rb, 3, none⟩) hb u4).setCell (a := ⟨rb, 4, none⟩) hb u5).setCell (a := ⟨rb, 5, none⟩) hb u6
theorem Own.ne_of_lt {α : Type} [Enc α] {H : Snap} {base rb : Nat} {w : World} {e : TypeId} {v : Value} {xs : List α} (h : Own H base w e v xs) (hb : rb < base) : v.ownBlock ≠ some rb := fun e => by have := (h.lt rb e).1; omega
theorem Own.ne_of_ge {α : Type} [Enc α] {H : Snap} {base rb : Nat} {w : World} {e : TypeId} {v : Value} {xs : List α} (h : Own H base w e v xs) (hb : w.heap.size ≤ rb) : v.ownBlock ≠ some rb := fun e => by have := (h.lt rb e).2; omega

set_option maxRecDepth 100000 in
set_option maxHeartbeats 8000000 in
theorem copy9_any (vm vb vt vo ve : Value) (h : Hall) (H : Snap) (w : World) (hw : Holds H w) (hh : Hal H vm vb vt vo ve h) (hsz : h.ed.length ≤ 1000000) (hs2 : ∀ l ∈ h.ed, l.length ≤ 1000000) :
    Calls Tryz.prog 10 #[halV vm vb vt vo ve h] w (PostK w H h) := by
  obtain ⟨am, cm, rfl, hm1, hm2⟩ := hh.hs.m.form
  obtain ⟨ab, cb, rfl, hb1, hb2⟩ := hh.hs.b.form
  obtain ⟨at', ct, rfl, ht1, ht2⟩ := hh.hs.t.form
  obtain ⟨ao, co, rfl, ho1, ho2⟩ := hh.bo.form
  obtain ⟨ae, ce, rfl, he1, he2⟩ := hh.ed.form
  go_enter Tryz.func10, Tryz.ntmps10
  go_upto_region 1 with (refine wpList_boxF rfl _ rfl (Ext.refl hw) ?_; intro B w1 H1 hle hx hB hBw; obtain ⟨hc0, hc1, hc2, hc3, hc4, hc5⟩ := cellsHal hB; clear hB hw; have hw1 := hx.holds)
  have hhc := hh.mono hle
  have hxz := hx.alloc (.cells #[.slice none 0 0, .slice none 0 0, .slice none 0 0, .int .i64 0, .slice none 0 0, .slice none 0 0] 29)
  have hrow : Rdy6 w1.heap.size 29 (w1.alloc (.cells #[.slice none 0 0, .slice none 0 0, .slice none 0 0, .int .i64 0, .slice none 0 0, .slice none 0 0] 29)) := ⟨_, _, _, _, _, _, heap_alloc_new _ _⟩
  have hRlt : w1.heap.size < (w1.alloc (.cells #[.slice none 0 0, .slice none 0 0, .slice none 0 0, .int .i64 0, .slice none 0 0, .slice none 0 0] 29)).heap.size := by simp
  have hRn : H1 w1.heap.size = none := hw1.none_of_ge (Nat.le_refl _)
  have hRb := hx.below.size
  generalize w1.alloc (.cells #[.slice none 0 0, .slice none 0 0, .slice none 0 0, .int .i64 0, .slice none 0 0, .slice none 0 0] 29) = wz at *
  generalize w1.heap.size = R at *
  clear hx hw1
  have hwz := hxz.holds
  go_region_held3 (fun w' => Holds H1 w' ∧ Below R wz w' ∧ wz.heap.size ≤ w'.heap.size ∧ Rdy6 R 29 w')
    (first
      | with_reducible assumption
      | (refine ⟨?_, ?_, ?_, ?_⟩ <;> first
          | with_reducible assumption
          | ((repeat (first | with_reducible assumption | with_reducible refine Holds.drew ?_ | with_reducible refine Holds.alloc ?_ _)); done)
          | ((repeat (first | with_reducible assumption | with_reducible exact Below.refl _ _ | with_reducible refine Below.drew ?_ | refine Below.alloc ?_ (by omega) _)); done)
          | ((repeat (first | with_reducible assumption | with_reducible refine Rdy6.drew ?_ | with_reducible refine Rdy6.alloc ?_ _)); done)
          | with_reducible exact Nat.le_refl _
          | (refine Holds.set6 (rb := R) ?_ hRn _ _ _ _ _ _; with_reducible assumption)
          | (refine Below.set6 (rb := R) ?_ _ _ _ _ _ _; with_reducible assumption)
          | (refine Rdy6.set6 (rb := R) ?_ _ _ _ _ _ _; with_reducible assumption)
          | (simp <;> omega))
      | (go_split_ands; refine ⟨?_, ?_, ?_, ?_⟩ <;> first
          | with_reducible assumption
          | ((repeat (first | with_reducible assumption | with_reducible refine Holds.drew ?_ | with_reducible refine Holds.alloc ?_ _)); done)
          | ((repeat (first | with_reducible assumption | with_reducible exact Below.refl _ _ | with_reducible refine Below.drew ?_ | refine Below.alloc ?_ (by omega) _)); done)
          | ((repeat (first | with_reducible assumption | with_reducible refine Rdy6.drew ?_ | with_reducible refine Rdy6.alloc ?_ _)); done)
          | with_reducible exact Nat.le_refl _
          | (refine Holds.set6 (rb := R) ?_ hRn _ _ _ _ _ _; with_reducible assumption)
          | (refine Below.set6 (rb := R) ?_ _ _ _ _ _ _; with_reducible assumption)
          | (refine Rdy6.set6 (rb := R) ?_ _ _ _ _ _ _; with_reducible assumption)
          | (simp <;> omega)))
    (first
      | (go_at_call 45; go_split_ands; rename_i hA hB hC hD; refine (copy4_any _ _ _ _ H1 _ hA hhc.hs).mono ?_; rintro e w2 ⟨um, ub, ut, H2, rfl, x2, om', ob', ot'⟩; have k1 : Holds H1 w2 := x2.old hA; have kl : SLe H1 H2 := x2.le hA; have j2 : Below R wz w2 := hB.trans (x2.below.mono (by omega)); have k2 : wz.heap.size ≤ w2.heap.size := Nat.le_trans hC x2.below.size; have d2 : Rdy6 R 29 w2 := hD.below x2.below hD.lt; have om := Own.flatM om' kl; have ob := Own.flatB ob' kl; have ot := Own.flatT ot' kl; clear om' ob' ot' kl; obtain ⟨aM, cM, rfl, _, _⟩ := om.form; obtain ⟨aB, cB, rfl, _, _⟩ := ob.form; obtain ⟨aT, cT, rfl, _, _⟩ := ot.form)
      | (go_split_ands; have hgd := om; clear hgd
         (first
           | (refine step_app (H := H1) (base := wz.heap.size) eInt rfl _ _ rfl (by rfl) (Own.emptyAt (heap_alloc_new _ _) k2 (k1.none_of_ge (Nat.le_refl _))) (by rfl) hhc.bo (k1.alloc _) (by have := hhc.bo.bytes; simpa using this) (by have := hhc.bo.le; simpa using this) (by simp; omega) ?_
              intro vO wO oO gO hO atO
              rw [List.nil_append] at oO
              have sM := (om.alloc _).kept gO (.inr (om.ne_of_ge (Nat.le_refl _)))
              have sB := (ob.alloc _).kept gO (.inr (ob.ne_of_ge (Nat.le_refl _)))
              have sT := (ot.alloc _).kept gO (.inr (ot.ne_of_ge (Nat.le_refl _)))
              have ap : (Value.slice aT h.hs.ts.length cT).ownBlock = none ∨ (Value.slice aT h.hs.ts.length cT).ownBlock ≠ vO.ownBlock := by
                rcases atO with e | e
                · rw [e]; exact .inr (ot.ne_of_ge (Nat.le_refl _))
                · rw [e]; exact .inr (ot.ne_of_ge (by simp))
              have j3 : Below R wz wO := (j2.alloc (by omega) _).grown gO (by simp; omega) (fun k e => by cases e; exact (show R ≤ w2.heap.size by omega))
              have k3 : wz.heap.size ≤ wO.heap.size := by have := gO.size; simp at this; omega
              have d3 : Rdy6 R 29 wO := by
                obtain ⟨a, b, c, d, e, f, hr⟩ := d2.alloc (.cells #[] 3)
                exact ⟨a, b, c, d, e, f, (gO.block R (by simp; omega) (by intro e; have e2 : R = w2.heap.size := Option.some.inj e; omega)).trans hr⟩)
           | (refine step_app (H := H1) (base := wz.heap.size) eInt rfl _ _ rfl (by rfl) (Own.emptyAt ((x2.below.block _ (by simp)).trans (heap_alloc_new _ _)) (Nat.le_refl _) (hwz.none_of_ge (Nat.le_refl _))) (by rfl) hhc.bo k1 (by have := hhc.bo.bytes; simpa using this) (by have := hhc.bo.le; simpa using this) k2 ?_
              intro vO wO oO gO hO atO
              rw [List.nil_append] at oO
              have sM := om.kept gO (.inr (om.ne_of_lt (by simp)))
              have sB := ob.kept gO (.inr (ob.ne_of_lt (by simp)))
              have sT := ot.kept gO (.inr (ot.ne_of_lt (by simp)))
              have ap : (Value.slice aT h.hs.ts.length cT).ownBlock = none ∨ (Value.slice aT h.hs.ts.length cT).ownBlock ≠ vO.ownBlock := by
                rcases atO with e | e
                · rw [e]; exact .inr (ot.ne_of_lt (by simp))
                · rw [e]; exact .inr (ot.ne_of_ge (Nat.le_refl _))
              have j3 : Below R wz wO := j2.grown gO (by omega) (fun k e => by cases e; exact (show R ≤ wz.heap.size by omega))
              have k3 : wz.heap.size ≤ wO.heap.size := Nat.le_trans k2 gO.size
              have d3 : Rdy6 R 29 wO := by
                obtain ⟨a, b, c, d, e, f, hr⟩ := d2
                exact ⟨a, b, c, d, e, f, (gO.block R (by omega) (by intro e; have e2 : R = wz.heap.size := Option.some.inj e; omega)).trans hr⟩))
         obtain ⟨aO, cO, rfl, _, _⟩ := oO.form
         clear om ob ot gO atO)
      | (go_split_ands; have hgd := sM; clear hgd; go_at_call 46; refine (copyPlan4_any _ h.ed H1 wO hO hhc.ed hsz hs2).mono ?_; rintro e w3 ⟨ue, H3, rfl, x3, oE⟩
         have k4 : Holds H1 w3 := x3.old hO
         have j5 : Below R wz w3 := j3.trans (x3.below.mono (by omega))
         have k5 : wz.heap.size ≤ w3.heap.size := Nat.le_trans k3 x3.below.size
         have x5 : Ext w H w3 H3 := ⟨hxz.below.trans (j5.mono hRb), x3.holds, fun b hb => (x3.same b (by omega)).trans (hxz.same b hb)⟩
         have hsw : w.heap.size ≤ wz.heap.size := hxz.below.size
         replace sM := sM.ext hO x3
         replace sB := sB.ext hO x3
         replace sT := sT.ext hO x3
         replace oO := oO.ext hO x3
         have nM := sM.ne_of_lt (show R < _ by first | exact hRlt | (simp; omega))
         have nB := sB.ne_of_lt (show R < _ by first | exact hRlt | (simp; omega))
         have nT := sT.ne_of_lt (show R < _ by first | exact hRlt | (simp; omega))
         have nO := oO.ne_of_lt hRlt
         have nE := oE.ne_of_lt (show R < _ by omega)
         replace sM := sM.weaken (show w.heap.size ≤ _ by first | exact hsw | (simp; omega))
         replace sB := sB.weaken (show w.heap.size ≤ _ by first | exact hsw | (simp; omega))
         replace sT := sT.weaken (show w.heap.size ≤ _ by first | exact hsw | (simp; omega))
         replace oO := oO.weaken hsw
         replace oE := oE.weaken (show w.heap.size ≤ _ by omega)
         have hRn3 : H3 R = none := (x3.same R (by omega)).trans hRn
         have hr6 : Rdy6 R 29 w3 := d3.below x3.below d3.lt
         obtain ⟨aE, cE, rfl, _, _⟩ := oE.form
         obtain ⟨r0, hr0⟩ := hr6.cell 0 (by omega)
         obtain ⟨r1, hr1⟩ := hr6.cell 1 (by omega)
         obtain ⟨r2, hr2⟩ := hr6.cell 2 (by omega)
         obtain ⟨r3, hr3⟩ := hr6.cell 3 (by omega)
         obtain ⟨r4, hr4⟩ := hr6.cell 4 (by omega)
         obtain ⟨r5, hr5⟩ := hr6.cell 5 (by omega)
         have hf0 := hr6.fz 0
         have hf1 := hr6.fz 1
         have hf2 := hr6.fz 2
         have hf3 := hr6.fz 3
         have hf4 := hr6.fz 4
         have hf5 := hr6.fz 5))
  all_goals
    go_wp2
    refine bodyPost_ret (results_cell_row rfl _ _ R 29 _ (0, 0) _ rfl (hr6.row _ _ _ _ _ _) Tryz.underlying29 rfl (by kernel_rfl)) rfl ?_
    exact ⟨_, _, _, _, _, H3, rfl, x5.set6 hRb hRn3 _ _ _ _ _ _, sM.set6 nM _ _ _ _ _ _, sB.set6 nB _ _ _ _ _ _, sT.set6 nT _ _ _ _ _ _, oO.set6 nO _ _ _ _ _ _, oE.set6 nE _ _ _ _ _ _, ap, hhc.hs.c⟩

end Go.Proofs.YtngdppajailpcaaGreat
