/- The walks of flongref04: Copy, CopyPlan. The walk of flongref04.CopyPlan. -/
import Derived.Test.YteijmboophnmgaaRef4a
import Derived.Test.YteijmboophnmgaaBase
import Derived.Deep.DeepCutAuto

namespace Go.Proofs.Yteijmboophnmgaa
open Go.RowKit

attribute [local go_sem] Holds.drew Holds.alloc Holds.drewN WB.holds

theorem Own.setLow {α : Type} [Enc α] {H : Snap} {base b i : Nat} {w : World} {e : TypeId} {v : Value} {xs : List α} (h : Own H base w e v xs) (hb : b < base) (u : Value) : Own H base (w.setCell ⟨b, i, none⟩ u) e v xs :=
  h.setCell (fun e => by have := (h.lt _ e).1; simp at this; omega) u
theorem Own.set4 {α : Type} [Enc α] {H : Snap} {base b i j k l : Nat} {w : World} {e : TypeId} {v : Value} {xs : List α} (h : Own H base w e v xs) (hb : b < base) (u1 u2 u3 u4 : Value) : Own H base ((((w.setCell ⟨b, i, none⟩ u1).setCell ⟨b, j, none⟩ u2).setCell ⟨b, k, none⟩ u3).setCell ⟨b, l, none⟩ u4) e v xs :=
  (((h.setLow hb u1).setLow hb u2).setLow hb u3).setLow hb u4

/-- A house of the call's own. -/
def PostC (w : World) (H : Snap) (h : House) (f : Ending) (w' : World) : Prop :=
  ∃ um ub ut H', f = .returned (houV um ub ut h) ∧ Ext w H w' H' ∧ Own H' w.heap.size w' 54 um h.ms ∧ Own H' w.heap.size w' 58 ub h.bs ∧ Own H' w.heap.size w' 3 ut h.ts

set_option maxRecDepth 100000 in
set_option maxHeartbeats 80000000 in
theorem copy4_any (vm vb vt : Value) (h : House) (H : Snap) (w : World) (hw : Holds H w) (hh : Hou H vm vb vt h) :
    Calls Try.prog 29 #[houV vm vb vt h] w (PostC w H h) := by
  obtain ⟨am, cm, rfl, hm1, hm2⟩ := hh.m.form
  obtain ⟨ab, cb, rfl, hb1, hb2⟩ := hh.b.form
  obtain ⟨at', ct, rfl, ht1, ht2⟩ := hh.t.form
  go_enter Try.func29, Try.ntmps29
  go_upto_region 1 with (refine wpList_boxF rfl _ rfl (Ext.refl hw) ?_; intro B w1 H1 hle hx hB hBw; obtain ⟨hc0, hc1, hc2, hc3⟩ := cellsHou hB; clear hB hw; have hw1 := hx.holds)
  have hxz := hx.alloc (.cells #[.slice none 0 0, .slice none 0 0, .slice none 0 0, .int .i64 0] 26)
  have hzs : w1.heap.size < (w1.alloc (.cells #[.slice none 0 0, .slice none 0 0, .slice none 0 0, .int .i64 0] 26)).heap.size := by simp
  have hgr : w.heap.size ≤ w1.heap.size := hx.below.size
  have hnr : H1 w1.heap.size = none := hw1.none_of_ge (Nat.le_refl _)
  have hhm := hh.mono hle
  have hrz : Rdy w1.heap.size 26 (w1.alloc (.cells #[.slice none 0 0, .slice none 0 0, .slice none 0 0, .int .i64 0] 26)) := ⟨_, _, _, _, heap_alloc_new _ _⟩
  generalize hrb : w1.heap.size = rb at *
  generalize w1.alloc (.cells #[.slice none 0 0, .slice none 0 0, .slice none 0 0, .int .i64 0] 26) = wz at *
  clear hrb hx hw1
  have hwz := hxz.holds
  have hbz : w.heap.size ≤ wz.heap.size := by omega
  go_region_held3 (fun w' => Ext w H w' H1 ∧ Holds H1 w' ∧ wz.heap.size ≤ w'.heap.size ∧ Rdy rb 26 w')
    (first
      | with_reducible assumption
      | (refine ⟨?_, ?_, ?_, ?_⟩ <;> first
          | with_reducible assumption
          | ((repeat (first | with_reducible assumption | with_reducible refine Ext.drew ?_ | with_reducible refine Ext.alloc ?_ _)); done)
          | ((repeat (first | with_reducible assumption | with_reducible refine Holds.drew ?_ | with_reducible refine Holds.alloc ?_ _)); done)
          | ((repeat (first | with_reducible assumption | with_reducible refine Rdy.drew ?_ | with_reducible refine Rdy.alloc ?_ _)); done)
          | (refine Ext.setCell (a := ⟨rb, _, none⟩) (Ext.setCell (a := ⟨rb, _, none⟩) (Ext.setCell (a := ⟨rb, _, none⟩) (Ext.setCell (a := ⟨rb, _, none⟩) ?_ hgr hnr _) hgr hnr _) hgr hnr _) hgr hnr _; with_reducible assumption)
          | (refine Holds.setCell (a := ⟨rb, _, none⟩) (Holds.setCell (a := ⟨rb, _, none⟩) (Holds.setCell (a := ⟨rb, _, none⟩) (Holds.setCell (a := ⟨rb, _, none⟩) ?_ hnr _) hnr _) hnr _) hnr _; with_reducible assumption)
          | (refine Rdy.setCell (Rdy.setCell (Rdy.setCell (Rdy.setCell ?_ 0 (by omega) _) 1 (by omega) _) 2 (by omega) _) 3 (by omega) _; with_reducible assumption)
          | with_reducible exact Nat.le_refl _
          | (simp <;> omega))
      | (go_split_ands; (refine ⟨?_, ?_, ?_, ?_⟩ <;> first
          | with_reducible assumption
          | ((repeat (first | with_reducible assumption | with_reducible refine Ext.drew ?_ | with_reducible refine Ext.alloc ?_ _)); done)
          | ((repeat (first | with_reducible assumption | with_reducible refine Holds.drew ?_ | with_reducible refine Holds.alloc ?_ _)); done)
          | ((repeat (first | with_reducible assumption | with_reducible refine Rdy.drew ?_ | with_reducible refine Rdy.alloc ?_ _)); done)
          | (refine Ext.setCell (a := ⟨rb, _, none⟩) (Ext.setCell (a := ⟨rb, _, none⟩) (Ext.setCell (a := ⟨rb, _, none⟩) (Ext.setCell (a := ⟨rb, _, none⟩) ?_ hgr hnr _) hgr hnr _) hgr hnr _) hgr hnr _; with_reducible assumption)
          | (refine Holds.setCell (a := ⟨rb, _, none⟩) (Holds.setCell (a := ⟨rb, _, none⟩) (Holds.setCell (a := ⟨rb, _, none⟩) (Holds.setCell (a := ⟨rb, _, none⟩) ?_ hnr _) hnr _) hnr _) hnr _; with_reducible assumption)
          | (refine Rdy.setCell (Rdy.setCell (Rdy.setCell (Rdy.setCell ?_ 0 (by omega) _) 1 (by omega) _) 2 (by omega) _) 3 (by omega) _; with_reducible assumption)
          | with_reducible exact Nat.le_refl _
          | (simp <;> omega))))
    (first
      | (go_split_ands; refine step_appN (w0 := w) (H0 := H) (base := wz.heap.size) eMach rfl _ _ rfl (by with_reducible assumption) hbz rfl (by (repeat (first | with_reducible refine Own.drew ?_ | with_reducible refine hkT _ _ _ _ (by decide) ?_ | with_reducible refine hkB _ _ _ _ (by decide) ?_ | with_reducible refine hkM _ _ _ _ (by decide) ?_ | exact Own.emptyG (by simp; done) (by (repeat (first | with_reducible assumption | with_reducible refine Holds.alloc ?_ _ | with_reducible refine Holds.drew ?_))) (by (first | with_reducible assumption | with_reducible exact Nat.le_refl _ | (simp <;> omega))) | with_reducible refine Own.alloc ?_ _))) rfl hhm.m (by (first | with_reducible assumption | with_reducible exact Nat.le_refl _ | (simp <;> omega))) ?_; intro vM wM hownM hxM hwM hsM hlM hkM; have hrM := Rdy.below (by assumption : Rdy rb 26 _) hlM hzs; obtain ⟨aM, cM, rfl, _, _⟩ := hownM.form)
      | (go_split_ands; refine step_appN (w0 := w) (H0 := H) (base := wz.heap.size) eBund rfl _ _ rfl (by with_reducible assumption) hbz rfl (by (repeat (first | with_reducible refine Own.drew ?_ | with_reducible refine hkT _ _ _ _ (by decide) ?_ | with_reducible refine hkB _ _ _ _ (by decide) ?_ | with_reducible refine hkM _ _ _ _ (by decide) ?_ | exact Own.emptyG (by simp; done) (by (repeat (first | with_reducible assumption | with_reducible refine Holds.alloc ?_ _ | with_reducible refine Holds.drew ?_))) (by (first | with_reducible assumption | with_reducible exact Nat.le_refl _ | (simp <;> omega))) | with_reducible refine Own.alloc ?_ _))) rfl hhm.b (by (first | with_reducible assumption | with_reducible exact Nat.le_refl _ | (simp <;> omega))) ?_; intro vB wB hownB hxB hwB hsB hlB hkB; have hrB := Rdy.below (by assumption : Rdy rb 26 _) hlB hzs; obtain ⟨aB, cB, rfl, _, _⟩ := hownB.form)
      | (go_split_ands; refine step_appN (w0 := w) (H0 := H) (base := wz.heap.size) eInt rfl _ _ rfl (by with_reducible assumption) hbz rfl (by (repeat (first | with_reducible refine Own.drew ?_ | with_reducible refine hkT _ _ _ _ (by decide) ?_ | with_reducible refine hkB _ _ _ _ (by decide) ?_ | with_reducible refine hkM _ _ _ _ (by decide) ?_ | exact Own.emptyG (by simp; done) (by (repeat (first | with_reducible assumption | with_reducible refine Holds.alloc ?_ _ | with_reducible refine Holds.drew ?_))) (by (first | with_reducible assumption | with_reducible exact Nat.le_refl _ | (simp <;> omega))) | with_reducible refine Own.alloc ?_ _))) rfl hhm.t (by (first | with_reducible assumption | with_reducible exact Nat.le_refl _ | (simp <;> omega))) ?_; intro vT wT hownT hxT hwT hsT hlT hkT; have hrT := Rdy.below (by assumption : Rdy rb 26 _) hlT hzs; obtain ⟨aT, cT, rfl, _, _⟩ := hownT.form; obtain ⟨r0, hr0⟩ := hrT.cell 0 (by omega); obtain ⟨r1, hr1⟩ := hrT.cell 1 (by omega); obtain ⟨r2, hr2⟩ := hrT.cell 2 (by omega); obtain ⟨r3, hr3⟩ := hrT.cell 3 (by omega); have hf0 := hrT.fz 0; have hf1 := hrT.fz 1; have hf2 := hrT.fz 2; have hf3 := hrT.fz 3))
  all_goals
    go_wp2_with fail
    refine bodyPost_ret (results_cell_row rfl _ _ rb 26 _ (0, 0) _ rfl (hrT.row _ _ _ _) Try.underlying26 rfl (by kernel_rfl)) rfl ?_
    refine ⟨_, _, _, H1, rfl, ?_, ?_, ?_, ?_⟩
    · exact Ext.setCell (a := ⟨rb, 3, none⟩) (Ext.setCell (a := ⟨rb, 2, none⟩) (Ext.setCell (a := ⟨rb, 1, none⟩) (Ext.setCell (a := ⟨rb, 0, none⟩) hxT hgr hnr _) hgr hnr _) hgr hnr _) hgr hnr _
    · refine Own.weaken (Own.set4 ?_ hzs _ _ _ _) hbz
      repeat (first | with_reducible assumption | with_reducible refine hkT _ _ _ _ (by decide) ?_ | with_reducible refine hkB _ _ _ _ (by decide) ?_ | with_reducible refine hkM _ _ _ _ (by decide) ?_ | with_reducible refine Own.alloc ?_ _ | with_reducible refine Own.drew ?_)
    · refine Own.weaken (Own.set4 ?_ hzs _ _ _ _) hbz
      repeat (first | with_reducible assumption | with_reducible refine hkT _ _ _ _ (by decide) ?_ | with_reducible refine hkB _ _ _ _ (by decide) ?_ | with_reducible refine hkM _ _ _ _ (by decide) ?_ | with_reducible refine Own.alloc ?_ _ | with_reducible refine Own.drew ?_)
    · refine Own.weaken (Own.set4 ?_ hzs _ _ _ _) hbz
      repeat (first | with_reducible assumption | with_reducible refine hkT _ _ _ _ (by decide) ?_ | with_reducible refine hkB _ _ _ _ (by decide) ?_ | with_reducible refine hkM _ _ _ _ (by decide) ?_ | with_reducible refine Own.alloc ?_ _ | with_reducible refine Own.drew ?_)

end Go.Proofs.Yteijmboophnmgaa

namespace Go.Proofs.Yteijmboophnmgaa
open Go.RowKit

attribute [local go_sem] Holds.drew Holds.alloc Holds.drewN WB.holds

set_option maxRecDepth 100000 in
set_option maxHeartbeats 4000000 in
theorem copyPlan4_any (vp : Value) (plan : List (List Int)) (H : Snap) (w : World) (hw : Holds H w) (hp : Sl H vp plan) (hsz : plan.length ≤ 1000000) (hs2 : ∀ l ∈ plan, l.length ≤ 1000000) :
    Calls Try.prog 47 #[vp] w (PostO w H 24 plan) := by
  obtain ⟨ap, cp, rfl, hp1, hp2⟩ := hp.form
  go_enter Try.func47, Try.ntmps47
  go_wp2
  go_loopw [3, 4] (fun v i wr => ∃ (k : Nat) (acc : List (List Int)) (Hr : Snap), k ≤ plan.length ∧ i = .int .i64 k ∧ Hid (acc = plan.take k) ∧ acc.length ≤ k ∧ Ext w H wr Hr ∧ SLe H Hr ∧ Own Hr w.heap.size wr 24 v acc) (fun _ i _ => plan.length - (intOf i).toNat)
  case atStart => exact ⟨0, [], H, Nat.zero_le _, rfl, rfl, by simp, Ext.refl hw, SLe.refl _, Own.nil _ _ _ _⟩
  case round =>
    obtain ⟨k, acc, Hr, hk, rfl, hacc, hacl, hxr, hle, hown⟩ := hrel
    have hwr := hxr.holds
    obtain ⟨av, cv, ev, _, _⟩ := hown.form
    subst ev
    by_cases hlk : k < plan.length
    · obtain ⟨l, hlk'⟩ := At.mk hlk
      obtain ⟨b, o, c, u, he, hu, hr⟩ := (hp.mono hle).list hlk'
      cases he
      obtain ⟨al, cl, rfl, _, _⟩ := hu.form
      have hl5 := hs2 l hlk'.mem
      go_wp2_with (first | ((at_builtin; have hgd := hx4; clear hgd; go_must (refine wpList_app1L eList _ _ hxO hownO l hs4 (by omega) rfl rfl rfl rfl ?_); intro vD wD hownD hxD hwD)) | ((refine wpList_appX (w0 := wr) (H0 := Hr) eInt rfl _ _ rfl ((Ext.refl hwr).alloc _) rfl (Own.emptyAt (heap_alloc_new _ _) (Nat.le_refl _) (hwr.none_of_ge (Nat.le_refl _))) rfl hu (by simp [Enc.by_]; omega) (by simp; omega) ?_; intro vB wB hownB hxB hwB hgB; rw [List.nil_append] at hownB; obtain ⟨avB, cvB, evB, _, _⟩ := hownB.form; subst evB; obtain ⟨H4, hx4, hle4, hs4, _⟩ := hownB.close hxB; have hownO := hown.ext hwr hx4; have hxO := hxr.trans hx4)))
      go_roundw
      case rel => exact ⟨k + 1, acc ++ [l], H4, by omega, by go_num, by show _ = _; rw [hacc.out, hlk'.take], by simp; omega, hxD, hle.trans hle4, hownD⟩
      case measure => simp [intOf]; omega
    · go_wp2_with fail
      go_ret
      exact ⟨_, Hr, rfl, hxr, hown.congr (by rw [hacc.out, take_all (xs := plan) (k := k) (by omega)])⟩

end Go.Proofs.Yteijmboophnmgaa
