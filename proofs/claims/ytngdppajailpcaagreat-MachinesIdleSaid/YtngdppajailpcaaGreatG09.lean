/- Lemmas and walks on which the claims of this seat lean: Copy2 Same Box. -/
import Derived.Test.YtngdppajailpcaaGreatG01
import Derived.Test.YtngdppajailpcaaGreatG02
import Derived.Test.YtngdppajailpcaaGreatG03
import Derived.Deep.DeepCutAuto

set_option linter.all false

namespace Go.Proofs.YtngdppajailpcaaGreat
open Go.RowKit

attribute [local go_sem] Holds.drew Holds.alloc Holds.drewN WB.holds

theorem Own.setLow {α : Type} [Enc α] {H : Snap} {base b i : Nat} {w : World} {e : TypeId} {v : Value} {xs : List α} (h : Own H base w e v xs) (hb : b < base) (u : Value) : Own H base (w.setCell ⟨b, i, none⟩ u) e v xs :=
  h.setCell (fun e => by have := (h.lt _ e).1; simp at this; omega) u
theorem Own.set4 {α : Type} [Enc α] {H : Snap} {base b i j k l : Nat} {w : World} {e : TypeId} {v : Value} {xs : List α} (h : Own H base w e v xs) (hb : b < base) (u1 u2 u3 u4 : Value) : Own H base ((((w.setCell ⟨b, i, none⟩ u1).setCell ⟨b, j, none⟩ u2).setCell ⟨b, k, none⟩ u3).setCell ⟨b, l, none⟩ u4) e v xs :=
  (((h.setLow hb u1).setLow hb u2).setLow hb u3).setLow hb u4

/-- A house of the call's own. -/
def PostC (w : World) (H : Snap) (h : House) (f : Ending) (w' : World) : Prop :=
  ∃ um ub ut H', f = .returned (houV um ub ut h) ∧ Ext w H w' H' ∧ Own H' w.heap.size w' 97 um h.ms ∧ Own H' w.heap.size w' 120 ub h.bs ∧ Own H' w.heap.size w' 3 ut h.ts

set_option maxRecDepth 100000 in
set_option maxHeartbeats 80000000 in
theorem copy4_any (vm vb vt : Value) (h : House) (H : Snap) (w : World) (hw : Holds H w) (hh : Hou H vm vb vt h) :
    Calls Tryz.prog 45 #[houV vm vb vt h] w (PostC w H h) := by
  obtain ⟨am, cm, rfl, hm1, hm2⟩ := hh.m.form
  obtain ⟨ab, cb, rfl, hb1, hb2⟩ := hh.b.form
  obtain ⟨at', ct, rfl, ht1, ht2⟩ := hh.t.form
  go_enter Tryz.func45, Tryz.ntmps45
  go_upto_region 1 with (refine wpList_boxF rfl _ rfl (Ext.refl hw) ?_; intro B w1 H1 hle hx hB hBw; obtain ⟨hc0, hc1, hc2, hc3⟩ := cellsHou hB; clear hB hw; have hw1 := hx.holds)
  have hxz := hx.alloc (.cells #[.slice none 0 0, .slice none 0 0, .slice none 0 0, .int .i64 0] 26)
  have hzs : w1.heap.size < (w1.alloc (.cells #[.slice none 0 0, .slice none 0 0, .slice none 0 0, .int .i64 0] 26)).heap.size := by simp
  have hgr : w.heap.size ≤ w1.heap.size := hx.below.size
  have hnr : H1 w1.heap.size = none := hw1.none_of_ge (Nat.le_refl _)
  have hhm := hh.mono hle
  have hrz : Rdy w1.heap.size 26 (w1.alloc (.cells #[.slice none 0 0, .slice none 0 0, .slice none 0 0, .int .i64 0] 26)) := ⟨_, _, _, _, heap_alloc_new _ _⟩
  generalize hrb : w1.heap.size = rb at *
  generalize w1.alloc (.cells #[.slice none 0 0, .slice none 0 0, .slice none 0 0, .int .i64 0] 26) = wz at *
  clear hrb hx hw1
  have hwz := hxz.holds
  have hbz : w.heap.size ≤ wz.heap.size := by omega
  go_region_held3 (fun w' => Ext w H w' H1 ∧ Holds H1 w' ∧ wz.heap.size ≤ w'.heap.size ∧ Rdy rb 26 w')
    (first
      | with_reducible assumption
      | (refine ⟨?_, ?_, ?_, ?_⟩ <;> first
          | with_reducible assumption
          | ((repeat (first | with_reducible assumption | with_reducible refine Ext.drew ?_ | with_reducible refine Ext.alloc ?_ _)); done)
          | ((repeat (first | with_reducible assumption | with_reducible refine Holds.drew ?_ | with_reducible refine Holds.alloc ?_ _)); done)
          | ((repeat (first | with_reducible assumption | with_reducible refine Rdy.drew ?_ | with_reducible refine Rdy.alloc ?_ _)); done)
          | (refine Ext.setCell (a := ⟨rb, _, none⟩) (Ext.setCell (a := ⟨rb, _, none⟩) (Ext.setCell (a := ⟨rb, _, none⟩) (Ext.setCell (a := ⟨rb, _, none⟩) ?_ hgr hnr _) hgr hnr _) hgr hnr _) hgr hnr _; with_reducible assumption)
          | (refine Holds.setCell (a := ⟨rb, _, none⟩) (Holds.setCell (a := ⟨rb, _, none⟩) (Holds.setCell (a := ⟨rb, _, none⟩) (Holds.setCell (a := ⟨rb, _, none⟩) ?_ hnr _) hnr _) hnr _) hnr _; with_reducible assumption)
          | (refine Rdy.setCell (Rdy.setCell (Rdy.setCell (Rdy.setCell ?_ 0 (by omega) _) 1 (by omega) _) 2 (by omega) _) 3 (by omega) _; with_reducible assumption)
          | with_reducible exact Nat.le_refl _
          | (simp <;> omega))
      | (go_split_ands; (refine ⟨?_, ?_, ?_, ?_⟩ <;> first
          | with_reducible assumption
          | ((repeat (first | with_reducible assumption | with_reducible refine Ext.drew ?_ | with_reducible refine Ext.alloc ?_ _)); done)
          | ((repeat (first | with_reducible assumption | with_reducible refine Holds.drew ?_ | with_reducible refine Holds.alloc ?_ _)); done)
          | ((repeat (first | with_reducible assumption | with_reducible refine Rdy.drew ?_ | with_reducible refine Rdy.alloc ?_ _)); done)
          | (refine Ext.setCell (a := ⟨rb, _, none⟩) (Ext.setCell (a := ⟨rb, _, none⟩) (Ext.setCell (a := ⟨rb, _, none⟩) (Ext.setCell (a := ⟨rb, _, none⟩) ?_ hgr hnr _) hgr hnr _) hgr hnr _) hgr hnr _; with_reducible assumption)
          | (refine Holds.setCell (a := ⟨rb, _, none⟩) (Holds.setCell (a := ⟨rb, _, none⟩) (Holds.setCell (a := ⟨rb, _, none⟩) (Holds.setCell (a := ⟨rb, _, none⟩) ?_ hnr _) hnr _) hnr _) hnr _; with_reducible assumption)
          | (refine Rdy.setCell (Rdy.setCell (Rdy.setCell (Rdy.setCell ?_ 0 (by omega) _) 1 (by omega) _) 2 (by omega) _) 3 (by omega) _; with_reducible assumption)
          | with_reducible exact Nat.le_refl _
          | (simp <;> omega))))
    (first
      | (go_split_ands; refine step_appN (w0 := w) (H0 := H) (base := wz.heap.size) eMach rfl _ _ rfl (by with_reducible assumption) hbz rfl (by (repeat (first | with_reducible refine Own.drew ?_ | with_reducible refine hkT _ _ _ _ (by decide) ?_ | with_reducible refine hkB _ _ _ _ (by decide) ?_ | with_reducible refine hkM _ _ _ _ (by decide) ?_ | exact Own.emptyG (by simp; done) (by (repeat (first | with_reducible assumption | with_reducible refine Holds.alloc ?_ _ | with_reducible refine Holds.drew ?_))) (by (first | with_reducible assumption | with_reducible exact Nat.le_refl _ | (simp <;> omega))) | with_reducible refine Own.alloc ?_ _))) rfl hhm.m (by (first | with_reducible assumption | with_reducible exact Nat.le_refl _ | (simp <;> omega))) ?_; intro vM wM hownM hxM hwM hsM hlM hkM; have hrM := Rdy.below (by assumption : Rdy rb 26 _) hlM hzs; obtain ⟨aM, cM, rfl, _, _⟩ := hownM.form)
      | (go_split_ands; refine step_appN (w0 := w) (H0 := H) (base := wz.heap.size) eBund rfl _ _ rfl (by with_reducible assumption) hbz rfl (by (repeat (first | with_reducible refine Own.drew ?_ | with_reducible refine hkT _ _ _ _ (by decide) ?_ | with_reducible refine hkB _ _ _ _ (by decide) ?_ | with_reducible refine hkM _ _ _ _ (by decide) ?_ | exact Own.emptyG (by simp; done) (by (repeat (first | with_reducible assumption | with_reducible refine Holds.alloc ?_ _ | with_reducible refine Holds.drew ?_))) (by (first | with_reducible assumption | with_reducible exact Nat.le_refl _ | (simp <;> omega))) | with_reducible refine Own.alloc ?_ _))) rfl hhm.b (by (first | with_reducible assumption | with_reducible exact Nat.le_refl _ | (simp <;> omega))) ?_; intro vB wB hownB hxB hwB hsB hlB hkB; have hrB := Rdy.below (by assumption : Rdy rb 26 _) hlB hzs; obtain ⟨aB, cB, rfl, _, _⟩ := hownB.form)
      | (go_split_ands; refine step_appN (w0 := w) (H0 := H) (base := wz.heap.size) eInt rfl _ _ rfl (by with_reducible assumption) hbz rfl (by (repeat (first | with_reducible refine Own.drew ?_ | with_reducible refine hkT _ _ _ _ (by decide) ?_ | with_reducible refine hkB _ _ _ _ (by decide) ?_ | with_reducible refine hkM _ _ _ _ (by decide) ?_ | exact Own.emptyG (by simp; done) (by (repeat (first | with_reducible assumption | with_reducible refine Holds.alloc ?_ _ | with_reducible refine Holds.drew ?_))) (by (first | with_reducible assumption | with_reducible exact Nat.le_refl _ | (simp <;> omega))) | with_reducible refine Own.alloc ?_ _))) rfl hhm.t (by (first | with_reducible assumption | with_reducible exact Nat.le_refl _ | (simp <;> omega))) ?_; intro vT wT hownT hxT hwT hsT hlT hkT; have hrT := Rdy.below (by assumption : Rdy rb 26 _) hlT hzs; obtain ⟨aT, cT, rfl, _, _⟩ := hownT.form; obtain ⟨r0, hr0⟩ := hrT.cell 0 (by omega); obtain ⟨r1, hr1⟩ := hrT.cell 1 (by omega); obtain ⟨r2, hr2⟩ := hrT.cell 2 (by omega); obtain ⟨r3, hr3⟩ := hrT.cell 3 (by omega); have hf0 := hrT.fz 0; have hf1 := hrT.fz 1; have hf2 := hrT.fz 2; have hf3 := hrT.fz 3))
  all_goals
    go_wp2_with fail
    refine bodyPost_ret (results_cell_row rfl _ _ rb 26 _ (0, 0) _ rfl (hrT.row _ _ _ _) Tryz.underlying26 rfl (by kernel_rfl)) rfl ?_
    refine ⟨_, _, _, H1, rfl, ?_, ?_, ?_, ?_⟩
    · exact Ext.setCell (a := ⟨rb, 3, none⟩) (Ext.setCell (a := ⟨rb, 2, none⟩) (Ext.setCell (a := ⟨rb, 1, none⟩) (Ext.setCell (a := ⟨rb, 0, none⟩) hxT hgr hnr _) hgr hnr _) hgr hnr _) hgr hnr _
    · refine Own.weaken (Own.set4 ?_ hzs _ _ _ _) hbz
      repeat (first | with_reducible assumption | with_reducible refine hkT _ _ _ _ (by decide) ?_ | with_reducible refine hkB _ _ _ _ (by decide) ?_ | with_reducible refine hkM _ _ _ _ (by decide) ?_ | with_reducible refine Own.alloc ?_ _ | with_reducible refine Own.drew ?_)
    · refine Own.weaken (Own.set4 ?_ hzs _ _ _ _) hbz
      repeat (first | with_reducible assumption | with_reducible refine hkT _ _ _ _ (by decide) ?_ | with_reducible refine hkB _ _ _ _ (by decide) ?_ | with_reducible refine hkM _ _ _ _ (by decide) ?_ | with_reducible refine Own.alloc ?_ _ | with_reducible refine Own.drew ?_)
    · refine Own.weaken (Own.set4 ?_ hzs _ _ _ _) hbz
      repeat (first | with_reducible assumption | with_reducible refine hkT _ _ _ _ (by decide) ?_ | with_reducible refine hkB _ _ _ _ (by decide) ?_ | with_reducible refine hkM _ _ _ _ (by decide) ?_ | with_reducible refine Own.alloc ?_ _ | with_reducible refine Own.drew ?_)

end Go.Proofs.YtngdppajailpcaaGreat

namespace Go.Proofs.YtngdppajailpcaaGreat
open Go.RowKit

attribute [local go_sem] Holds.drew Holds.alloc Holds.drewN WB.holds

set_option maxRecDepth 100000 in
set_option maxHeartbeats 4000000 in
theorem copyPlan4_any (vp : Value) (plan : List (List Int)) (H : Snap) (w : World) (hw : Holds H w) (hp : Sl H vp plan) (hsz : plan.length ≤ 1000000) (hs2 : ∀ l ∈ plan, l.length ≤ 1000000) :
    Calls Tryz.prog 46 #[vp] w (PostO w H 24 plan) := by
  obtain ⟨ap, cp, rfl, hp1, hp2⟩ := hp.form
  go_enter Tryz.func46, Tryz.ntmps46
  go_wp2
  go_loopw [3, 4] (fun v i wr => ∃ (k : Nat) (acc : List (List Int)) (Hr : Snap), k ≤ plan.length ∧ i = .int .i64 k ∧ Hid (acc = plan.take k) ∧ acc.length ≤ k ∧ Ext w H wr Hr ∧ SLe H Hr ∧ Own Hr w.heap.size wr 24 v acc) (fun _ i _ => plan.length - (intOf i).toNat)
  case atStart => exact ⟨0, [], H, Nat.zero_le _, rfl, rfl, by simp, Ext.refl hw, SLe.refl _, Own.nil _ _ _ _⟩
  case round =>
    obtain ⟨k, acc, Hr, hk, rfl, hacc, hacl, hxr, hle, hown⟩ := hrel
    have hwr := hxr.holds
    obtain ⟨av, cv, ev, _, _⟩ := hown.form
    subst ev
    by_cases hlk : k < plan.length
    · obtain ⟨l, hlk'⟩ := At.mk hlk
      obtain ⟨b, o, c, u, he, hu, hr⟩ := (hp.mono hle).list hlk'
      cases he
      obtain ⟨al, cl, rfl, _, _⟩ := hu.form
      have hl5 := hs2 l hlk'.mem
      go_wp2_with (first | ((at_builtin; have hgd := hx4; clear hgd; go_must (refine wpList_app1L eList _ _ hxO hownO l hs4 (by omega) rfl rfl rfl rfl ?_); intro vD wD hownD hxD hwD)) | ((refine wpList_appX (w0 := wr) (H0 := Hr) eInt rfl _ _ rfl ((Ext.refl hwr).alloc _) rfl (Own.emptyAt (heap_alloc_new _ _) (Nat.le_refl _) (hwr.none_of_ge (Nat.le_refl _))) rfl hu (by simp [Enc.by_]; omega) (by simp; omega) ?_; intro vB wB hownB hxB hwB hgB; rw [List.nil_append] at hownB; obtain ⟨avB, cvB, evB, _, _⟩ := hownB.form; subst evB; obtain ⟨H4, hx4, hle4, hs4, _⟩ := hownB.close hxB; have hownO := hown.ext hwr hx4; have hxO := hxr.trans hx4)))
      go_roundw
      case rel => exact ⟨k + 1, acc ++ [l], H4, by omega, by go_num, by show _ = _; rw [hacc.out, hlk'.take], by simp; omega, hxD, hle.trans hle4, hownD⟩
      case measure => simp [intOf]; omega
    · go_wp2_with fail
      go_ret
      exact ⟨_, Hr, rfl, hxr, hown.congr (by rw [hacc.out, take_all (xs := plan) (k := k) (by omega)])⟩

end Go.Proofs.YtngdppajailpcaaGreat

namespace Go.Proofs.YtngdppajailpcaaGreat
open Go.RowKit

theorem reps_set3 {α : Type} [Enc α] (h3 : Enc.sz α = 3) {H : Snap} {y : α} {a b c : Value} (hy : Enc.rep H y [a, b, c]) : ∀ {xs : List α} {cs : List Value} {k : Nat}, reps H xs cs → k < xs.length →
    reps H (xs.set k y) (((cs.set (k * 3) a).set (k * 3 + 1) b).set (k * 3 + 2) c)
  | [], _, _, _, hk => by simp at hk
  | x :: xs, cs, k, ⟨c1, c2, e, h1, h2⟩, hk => by
    have hl := Enc.len h1
    rw [h3] at hl
    match c1, hl with
    | [p, q, r], _ =>
      subst e
      cases k with
      | zero => exact ⟨[a, b, c], c2, rfl, hy, h2⟩
      | succ k =>
        have hi := reps_set3 h3 hy h2 (k := k) (by simpa using hk)
        rw [show (k + 1) * 3 = k * 3 + 3 by omega]
        exact ⟨[p, q, r], _, rfl, h1, hi⟩

/-- The element at a place of a slice of the call's own: where it lies, and what is left if another one is written there. -/
theorem Own.at3 {α : Type} [Enc α] (h3 : Enc.sz α = 3) {H : Snap} {base : Nat} {w : World} {e : TypeId} {v : Value} {xs : List α} {k : Nat} (h : Own H base w e v xs) (hk : k < xs.length) :
    ∃ g c, v = .slice (some ⟨g, 0, none⟩) xs.length c ∧ base ≤ g ∧ H g = none ∧ g < w.heap.size ∧ (∃ cur : Array Value, w.heap[g]? = some (.cells cur e (0, 0)) ∧ xs.length * 3 ≤ cur.size) ∧
      ∀ (y : α) (p q r : Value), Enc.rep H y [p, q, r] → Own H base (((w.setCell ⟨g, k * 3, none⟩ p).setCell ⟨g, k * 3 + 1, none⟩ q).setCell ⟨g, k * 3 + 2, none⟩ r) e v (xs.set k y) := by
  obtain ⟨cells, ⟨hl, ho⟩, hr, hf, hb⟩ := h
  rcases ho with ⟨rfl, hn⟩ | ⟨g, cap, cur, rfl, hbg, hg, hnc, hcm, hcs, htake⟩
  · omega
  · rw [h3] at hl hcs htake
    have hle : xs.length * 3 ≤ cur.size := by rw [hcs]; exact Nat.mul_le_mul_right _ hnc
    refine ⟨g, cap, rfl, hbg, hf g rfl, (Array.getElem?_eq_some_iff.1 hg).1, ⟨cur, hg, hle⟩, fun y p q r hy => ?_⟩
    refine ⟨_, ⟨?_, .inr ⟨g, cap, ((cur.setIfInBounds (k * 3) p).setIfInBounds (k * 3 + 1) q).setIfInBounds (k * 3 + 2) r, by rw [List.length_set], hbg, heap_setCell_row (heap_setCell_row (heap_setCell_row hg _) _) _, by rw [List.length_set]; exact hnc, hcm, by simp [h3, hcs], ?_⟩⟩, reps_set3 h3 hy hr hk, hf, by rw [List.length_set]; exact hb⟩
    · simp [h3, hl]
    · rw [List.length_set, h3]
      simp only [Array.toList_setIfInBounds]
      rw [List.take_set, List.take_set, List.take_set, htake]

theorem Rdy.other {rb : Nat} {t : TypeId} {w : World} (h : Rdy rb t w) {a : Addr} (ha : a.block ≠ rb) (v : Value) : Rdy rb t (w.setCell a v) := by
  obtain ⟨x, y, z, u, e⟩ := h
  refine ⟨x, y, z, u, ?_⟩
  show (w.heap.modify a.block _)[rb]? = _
  rw [Array.getElem?_modify, if_neg ha]
  exact e

theorem results_cell_row2 {P : Program} {fn : Func} {p q : Tmp} {ty tz : TypeId} (h : fn.results = #[.cell p ty, .cell q tz]) (tmps : Array Value) (w : World) (g k : Nat) (t u : TypeId) (cs ds : Array Value) (fr gr : Nat × Nat) (d e : TypeDesc)
    (hp : tmps.getD p undef = .pointer (some ⟨g, 0, none⟩)) (hq : tmps.getD q undef = .pointer (some ⟨k, 0, none⟩)) (hg : w.heap[g]? = some (.cells cs t fr)) (hk : w.heap[k]? = some (.cells ds u gr))
    (hu : P.underlying ty = some d) (hd : (match d with | .struct _ | .array _ _ => true | _ => false) = true) (hi : (P.info? ty).map (·.size) = some cs.size)
    (hu' : P.underlying tz = some e) (hd' : (match e with | .struct _ | .array _ _ => true | _ => false) = true) (hi' : (P.info? tz).map (·.size) = some ds.size) :
    (results fn tmps).run P w = .ok (.tuple #[.agg cs, .agg ds]) w := by
  have hp' : tmps[p]?.getD undef = .pointer (some ⟨g, 0, none⟩) := by simpa using hp
  have hq' : tmps[q]?.getD undef = .pointer (some ⟨k, 0, none⟩) := by simpa using hq
  simp [results, h, hp', hq', asAddr, Sem.run_bind, run_loadVar_row w g t ty cs fr d hg hu hd hi, run_loadVar_row w k u tz ds gr e hk hu' hd' hi']

theorem Own.snapS {α : Type} [Enc α] {H H' : Snap} {base : Nat} {w : World} {e : TypeId} {v : Value} {xs : List α} (h : Own H base w e v xs) (k : SLe H H') (hf : ∀ b, v.ownBlock = some b → H' b = none) : Own H' base w e v xs := by
  obtain ⟨cells, ho, hr, _, hb⟩ := h
  exact ⟨cells, ho, hr.mono k, hf, hb⟩
/-- Three slices of the call's own, of three types, are frozen. -/
theorem Own.close3 {α β γ : Type} [Enc α] [Enc β] [Enc γ] {w0 W : World} {H0 H : Snap} {t1 t2 t3 : TypeId} {v1 v2 v3 : Value} {xs : List α} {ys : List β} {zs : List γ} (hx : Ext w0 H0 W H)
    (h1 : Own H w0.heap.size W t1 v1 xs) (h2 : Own H w0.heap.size W t2 v2 ys) (h3 : Own H w0.heap.size W t3 v3 zs) (n12 : t1 ≠ t2) (n13 : t1 ≠ t3) (n23 : t2 ≠ t3) :
    ∃ H', Ext w0 H0 W H' ∧ SLe H H' ∧ Sl H' v1 xs ∧ Sl H' v2 ys ∧ Sl H' v3 zs := by
  obtain ⟨HA, xA, lA, sA, nA⟩ := h1.close hx
  have k2 : Own HA w0.heap.size W t2 v2 ys := h2.snapS lA (fun b hb => by
    rw [nA b (by rcases h1.apart h2 n12 with e | e; · rw [e]; simp
                 · rw [← hb]; exact e)]
    exact h2.free b hb)
  have k3 : Own HA w0.heap.size W t3 v3 zs := h3.snapS lA (fun b hb => by
    rw [nA b (by rcases h1.apart h3 n13 with e | e; · rw [e]; simp
                 · rw [← hb]; exact e)]
    exact h3.free b hb)
  obtain ⟨HB, xB, lB, sB, nB⟩ := k2.close xA
  have m3 : Own HB w0.heap.size W t3 v3 zs := k3.snapS lB (fun b hb => by
    rw [nB b (by rcases h2.apart h3 n23 with e | e; · rw [e]; simp
                 · rw [← hb]; exact e)]
    exact k3.free b hb)
  obtain ⟨HC, xC, lC, sC, _⟩ := m3.close xB
  exact ⟨HC, xC, (lA.trans lB).trans lC, (sA.mono lB).mono lC, sB.mono lC, sC⟩

end Go.Proofs.YtngdppajailpcaaGreat

namespace Go.Proofs.YtngdppajailpcaaGreat
open Go.RowKit

attribute [local go_sem] Holds.drew Holds.alloc Holds.drewN WB.holds

theorem copyH_any (vm vb vt : Value) (h : House) (H : Snap) (w : World) (hw : Holds H w) (hh : Hou H vm vb vt h) :
    Calls Tryz.prog 45 #[houV vm vb vt h] w (Post w H fun v H' => ∃ um ub ut, v = houV um ub ut h ∧ Hou H' um ub ut h) := by
  refine (copy4_any vm vb vt h H w hw hh).mono ?_
  rintro e w' ⟨um, ub, ut, H', rfl, hx, om, ob, ot⟩
  obtain ⟨H2, hx2, _, s1, s2, s3⟩ := Own.close3 hx om ob ot (by decide) (by decide) (by decide)
  exact ⟨_, H2, rfl, hx2, um, ub, ut, rfl, s1, s2, s3, hh.c⟩
theorem copyP_any (vp : Value) (plan : List (List Int)) (H : Snap) (w : World) (hw : Holds H w) (hp : Sl H vp plan) (hsz : plan.length ≤ 1000000) (hs2 : ∀ l ∈ plan, l.length ≤ 1000000) :
    Calls Tryz.prog 46 #[vp] w (Post w H fun v H' => Sl H' v plan) :=
  (copyPlan4_any vp plan H w hw hp hsz hs2).mono fun _ _ h => h.post

set_option maxRecDepth 100000 in
set_option maxHeartbeats 4000000 in
theorem same_any (um ub ut vm vb vt : Value) (h : House) (H : Snap) (w : World) (hw : Holds H w) (ho : Hou H um ub ut h) (hh : Hou H vm vb vt h) :
    Calls Tryz.prog 53 #[houV um ub ut h, houV vm vb vt h] w (PostV w (.bool true)) := by
  obtain ⟨am, cm, rfl, hm1, hm2⟩ := hh.m.form
  obtain ⟨ab, cb, rfl, hb1, hb2⟩ := hh.b.form
  obtain ⟨at', ct, rfl, ht1, ht2⟩ := hh.t.form
  obtain ⟨dm, em, rfl, hm3, hm4⟩ := ho.m.form
  obtain ⟨db, eb, rfl, hb3, hb4⟩ := ho.b.form
  obtain ⟨dt, et, rfl, ht3, ht4⟩ := ho.t.form
  have hsame : ∀ (H' : Snap) (w : World), Holds H' w → SLe H H' → Calls Tryz.prog 26 #[.slice dt h.ts.length et, .slice at' h.ts.length ct] w (PostV w (.bool true)) := fun H' w hw k => by
    have h := sameInts_any _ _ _ _ H' w hw (ho.t.mono k) (hh.t.mono k)
    simpa using h
  replace hsame := Lib.hid hsame
  go_enter Tryz.func53, Tryz.ntmps53
  go_wp2_with (first | ((have hgd := hx; refine wpList_boxF rfl _ rfl hx ?_; intro C w2 H2 hle2 hx2 hC hCw; obtain ⟨hd0, hd1, hd2, hd3⟩ := cellsHou hC; replace hc0 := lift hle2 hc0; replace hc1 := lift hle2 hc1; replace hc2 := lift hle2 hc2; replace hc3 := lift hle2 hc3; clear hC hx hw1; have hw2 := hx2.holds; have hl2 := hle.trans hle2)) | (refine wpList_boxF rfl _ rfl (Ext.refl hw) ?_; intro B w1 H1 hle hx hB hBw; obtain ⟨hc0, hc1, hc2, hc3⟩ := cellsHou hB; clear hB hw; have hw1 := hx.holds) | ((go_at_call 26; refine (hsame.out H2 _ hw2 hl2).mono ?_; rintro e w3 ⟨rfl, hb3⟩; have hw3 := hw2.below hb3; have hx3 := hx2.step (hb3.mono hx2.below.size) hw3)))
  have hhm := hh.mono hl2
  have hom := ho.mono hl2
  clear hh ho hgd hw2 hx2 hb3
  go_loopw [5] (fun i wr => ∃ k : Nat, k ≤ h.ms.length ∧ i = .int .i64 k ∧ Ext w H wr H2) (fun i _ => h.ms.length - (intOf i).toNat)
  case atStart => exact ⟨0, Nat.zero_le _, rfl, hx3⟩
  case round =>
    clear hx3 hw3
    obtain ⟨k, hk, rfl, hxr⟩ := hrel
    have hwr := hxr.holds
    by_cases hlk : k < h.ms.length
    · obtain ⟨z, hzk⟩ := At.mk hlk
      obtain ⟨bb, ob', cb', hez, ⟨hy1, hy2, hy3⟩, q0, q1, q2⟩ := hhm.m.mach hzk
      cases hez
      obtain ⟨bo, oo, co, hez, _, p0, p1, p2⟩ := hom.m.mach hzk
      cases hez
      go_upto_region 6 with fail
      refine wp_region_quietB H2 (by kernel_rfl) (by kernel_rfl) hwr (fun hne => ?_)
      repeat go_big_quiet_step ((first | fail))
      refine wpQuiet_nil ?_
      rintro ⟨w2, hw2, hb2⟩
      clear hne
      go_wp2_with fail
      go_roundw
      case rel => exact ⟨k + 1, by omega, by go_num, hxr.step (hb2.mono hxr.below.size) hw2⟩
      case measure => simp [intOf]; omega
    · go_wp2_with fail
      go_loopw [6] (fun i wr => ∃ k : Nat, k ≤ h.bs.length ∧ i = .int .i64 k ∧ Ext w H wr H2) (fun i _ => h.bs.length - (intOf i).toNat)
      case atStart => exact ⟨0, Nat.zero_le _, rfl, hxr⟩
      case round =>
        clear hxr hwr
        obtain ⟨k, hk, rfl, hxr⟩ := hrel
        have hwr := hxr.holds
        by_cases hlk : k < h.bs.length
        · obtain ⟨z, hzk⟩ := At.mk hlk
          obtain ⟨bb, ob', cb', hez, ⟨hy1, hy2, hy3⟩, q0, q1, q2⟩ := hhm.b.bund hzk
          cases hez
          obtain ⟨bo, oo, co, hez, _, p0, p1, p2⟩ := hom.b.bund hzk
          cases hez
          go_upto_region 11 with fail
          refine wp_region_quietB H2 (by kernel_rfl) (by kernel_rfl) hwr (fun hne => ?_)
          repeat go_big_quiet_step ((first | fail))
          refine wpQuiet_nil ?_
          rintro ⟨w2, hw2, hb2⟩
          clear hne
          go_wp2_with fail
          go_roundw
          case rel => exact ⟨k + 1, by omega, by go_num, hxr.step (hb2.mono hxr.below.size) hw2⟩
          case measure => simp [intOf]; omega
        · go_wp2_with fail
          go_ret
          exact ⟨rfl, hxr.below⟩

end Go.Proofs.YtngdppajailpcaaGreat

namespace Go.Proofs.YtngdppajailpcaaGreat
open Go.RowKit

theorem heap_setCell_off (w : World) (a : Addr) (v : Value) {b : Nat} (h : b ≠ a.block) : (w.setCell a v).heap[b]? = w.heap[b]? := by
  show (w.heap.modify a.block _)[b]? = _
  rw [Array.getElem?_modify, if_neg (Ne.symm h)]

/-- A house that lies in block C, all of it the call's own. -/
structure HBox (H : Snap) (base : Nat) (w : World) (C : Nat) (um ub ut : Value) (h : House) : Prop where
  row : w.heap[C]? = some (.cells #[um, ub, ut, .int .i64 h.ch] 26 (0, 0))
  hC : H C = none
  ge : base ≤ C
  m : Own H base w 97 um h.ms
  b : Own H base w 120 ub h.bs
  t : Own H base w 3 ut h.ts
  c : -9223372036854775808 ≤ h.ch ∧ h.ch ≤ 9223372036854775807

section
variable {H : Snap} {base C : Nat} {w : World} {um ub ut : Value} {h : House}
theorem HBox.lt (x : HBox H base w C um ub ut h) : C < w.heap.size := (Array.getElem?_eq_some_iff.1 x.row).1
theorem HBox.cell (x : HBox H base w C um ub ut h) (i : Nat) : w.cell? ⟨C, i, none⟩ = (#[um, ub, ut, .int .i64 h.ch] : Array Value)[i]? := cell_of_row w C i _ _ _ x.row
theorem HBox.cells (x : HBox H base w C um ub ut h) : w.cell? ⟨C, 0, none⟩ = some um ∧ w.cell? ⟨C, 1, none⟩ = some ub ∧ w.cell? ⟨C, 2, none⟩ = some ut ∧ w.cell? ⟨C, 3, none⟩ = some (.int .i64 h.ch) :=
  ⟨x.cell 0, x.cell 1, x.cell 2, x.cell 3⟩
theorem HBox.fz (x : HBox H base w C um ub ut h) (i : Nat) : w.frozen? ⟨C, i, none⟩ = false := by simp [World.frozen?, x.row]
theorem HBox.ext {w' : World} {H' : Snap} (x : HBox H base w C um ub ut h) (hw : Holds H w) (k : Ext w H w' H') : HBox H' base w' C um ub ut h :=
  ⟨(k.below.block C x.lt).trans x.row, (k.same C x.lt).trans x.hC, x.ge, x.m.ext hw k, x.b.ext hw k, x.t.ext hw k, x.c⟩
theorem HBox.below {w' : World} (x : HBox H base w C um ub ut h) (hw : Holds H w) (k : Below w.heap.size w w') : HBox H base w' C um ub ut h :=
  x.ext hw ⟨k, hw.below k, fun _ _ => rfl⟩
theorem HBox.drew (x : HBox H base w C um ub ut h) : HBox H base w.drew C um ub ut h := ⟨x.row, x.hC, x.ge, x.m, x.b, x.t, x.c⟩
theorem HBox.alloc (x : HBox H base w C um ub ut h) (o : Obj) : HBox H base (w.alloc o) C um ub ut h :=
  ⟨(heap_alloc_old w o x.lt).trans x.row, x.hC, x.ge, x.m.alloc o, x.b.alloc o, x.t.alloc o, x.c⟩
theorem HBox.weaken {base' : Nat} (x : HBox H base' w C um ub ut h) (hb : base ≤ base') : HBox H base w C um ub ut h :=
  ⟨x.row, x.hC, Nat.le_trans hb x.ge, x.m.weaken hb, x.b.weaken hb, x.t.weaken hb, x.c⟩

theorem Own.not_row {α : Type} [Enc α] {v : Value} {xs : List α} {e t : TypeId} {cs : Array Value} (o : Own H base w e v xs) (hr : w.heap[C]? = some (.cells cs t (0, 0))) (ne : e ≠ t) : v.ownBlock ≠ some C := fun e1 => by
  obtain ⟨cur, h1⟩ := o.row_type e1
  rw [hr] at h1
  simp only [Option.some.injEq, Obj.cells.injEq] at h1
  exact ne h1.2.1.symm

/-- A write elsewhere. -/
theorem HBox.other {a : Addr} (x : HBox H base w C um ub ut h) (hC : a.block ≠ C) (hm : um.ownBlock ≠ some a.block) (hb : ub.ownBlock ≠ some a.block) (ht : ut.ownBlock ≠ some a.block) (v : Value) : HBox H base (w.setCell a v) C um ub ut h :=
  ⟨(heap_setCell_off w a v (Ne.symm hC)).trans x.row, x.hC, x.ge, x.m.setCell hm v, x.b.setCell hb v, x.t.setCell ht v, x.c⟩
theorem HBox.low {a : Addr} (x : HBox H base w C um ub ut h) (ha : a.block < base) (v : Value) : HBox H base (w.setCell a v) C um ub ut h :=
  x.other (by have := x.ge; omega) (fun e => by have := (x.m.lt _ e).1; omega) (fun e => by have := (x.b.lt _ e).1; omega) (fun e => by have := (x.t.lt _ e).1; omega) v
/-- A write in another row of another type. -/
theorem HBox.rowWrite {g i : Nat} {t : TypeId} {cs : Array Value} (x : HBox H base w C um ub ut h) (hr : w.heap[g]? = some (.cells cs t (0, 0))) (hg : g ≠ C) (h1 : 97 ≠ t) (h2 : 120 ≠ t) (h3 : 3 ≠ t) (v : Value) : HBox H base (w.setCell ⟨g, i, none⟩ v) C um ub ut h :=
  x.other (a := ⟨g, i, none⟩) hg (x.m.not_row hr h1) (x.b.not_row hr h2) (x.t.not_row hr h3) v

/-- The variable is made. -/
theorem HBox.make (om : Own H base w 97 um h.ms) (ob : Own H base w 120 ub h.bs) (ot : Own H base w 3 ut h.ts) (hc : -9223372036854775808 ≤ h.ch ∧ h.ch ≤ 9223372036854775807) (hw : Holds H w) (hb : base ≤ w.heap.size) :
    HBox H base (w.alloc (.cells #[um, ub, ut, .int .i64 h.ch] 26)) w.heap.size um ub ut h :=
  ⟨heap_alloc_new _ _, hw.none_of_ge (Nat.le_refl _), hb, om.alloc _, ob.alloc _, ot.alloc _, hc⟩

/-- A number of the trains' list, and what is left if another one is written there. -/
theorem HBox.setT {i : Nat} {z : Int} (x : HBox H base w C um ub ut h) (hz : At h.ts i z) :
    ∃ g c, ut = .slice (some ⟨g, 0, none⟩) h.ts.length c ∧ (-9223372036854775808 ≤ z ∧ z ≤ 9223372036854775807) ∧ w.cell? ⟨g, i, none⟩ = some (.int .i64 z) ∧ w.frozen? ⟨g, i, none⟩ = false ∧ base ≤ g ∧ H g = none ∧
      (∀ y : Int, (-9223372036854775808 ≤ y ∧ y ≤ 9223372036854775807) → HBox H base (w.setCell ⟨g, i, none⟩ (.int .i64 y)) C um ub ut { h with ts := h.ts.set i y }) := by
  obtain ⟨g, c, rfl, hzb, hc, hf, hg, hn, hlt, hset⟩ := x.t.int_at hz
  have hgC : g ≠ C := fun e => x.t.not_row x.row (by decide) (by simp [Value.ownBlock, e])
  refine ⟨g, c, rfl, hzb, hc, hf, hg, hn, fun y hy => ⟨(heap_setCell_off w _ _ (Ne.symm hgC)).trans x.row, x.hC, x.ge, x.m.setCell ?_ _, x.b.setCell ?_ _, hset y hy, x.c⟩⟩
  · rcases x.m.apart x.t (by decide) with e | e
    · rw [e]; simp
    · simpa [Value.ownBlock] using e
  · rcases x.b.apart x.t (by decide) with e | e
    · rw [e]; simp
    · simpa [Value.ownBlock] using e
/-- A machine, and what is left if another one is written there. -/
theorem HBox.setM {i : Nat} (x : HBox H base w C um ub ut h) (hi : i < h.ms.length) :
    ∃ g c cur, um = .slice (some ⟨g, 0, none⟩) h.ms.length c ∧ base ≤ g ∧ H g = none ∧ g ≠ C ∧ w.heap[g]? = some (.cells cur 97 (0, 0)) ∧ h.ms.length * 3 ≤ cur.size ∧
      (∀ y : Mach, I64 y.r → I64 y.p → I64 y.s → HBox H base (((w.setCell ⟨g, i * 3, none⟩ (.int .i64 y.r)).setCell ⟨g, i * 3 + 1, none⟩ (.int .i64 y.p)).setCell ⟨g, i * 3 + 2, none⟩ (.int .i64 y.s)) C um ub ut { h with ms := h.ms.set i y }) := by
  obtain ⟨g, c, rfl, hg, hn, hlt, ⟨cur, hcur, hle⟩, hset⟩ := x.m.at3 rfl hi
  have hgC : g ≠ C := fun e => x.m.not_row x.row (by decide) (by simp [Value.ownBlock, e])
  refine ⟨g, c, cur, rfl, hg, hn, hgC, hcur, hle, fun y h1 h2 h3 => ⟨?_, x.hC, x.ge, hset y _ _ _ (show MachRep y _ from ⟨rfl, h1, h2, h3⟩), ?_, ?_, x.c⟩⟩
  · rw [heap_setCell_off _ _ _ (Ne.symm hgC), heap_setCell_off _ _ _ (Ne.symm hgC), heap_setCell_off _ _ _ (Ne.symm hgC)]
    exact x.row
  · have hne : ub.ownBlock ≠ some g := by
      rcases x.b.apart x.m (by decide) with e | e
      · rw [e]; simp
      · simpa [Value.ownBlock] using e
    exact ((x.b.setCell (a := ⟨g, _, none⟩) hne _).setCell (a := ⟨g, _, none⟩) hne _).setCell (a := ⟨g, _, none⟩) hne _
  · have hne : ut.ownBlock ≠ some g := by
      rcases x.t.apart x.m (by decide) with e | e
      · rw [e]; simp
      · simpa [Value.ownBlock] using e
    exact ((x.t.setCell (a := ⟨g, _, none⟩) hne _).setCell (a := ⟨g, _, none⟩) hne _).setCell (a := ⟨g, _, none⟩) hne _
/-- A bundle. -/
theorem HBox.setB {i : Nat} (x : HBox H base w C um ub ut h) (hi : i < h.bs.length) :
    ∃ g c cur, ub = .slice (some ⟨g, 0, none⟩) h.bs.length c ∧ base ≤ g ∧ H g = none ∧ g ≠ C ∧ w.heap[g]? = some (.cells cur 120 (0, 0)) ∧ h.bs.length * 3 ≤ cur.size ∧
      (∀ y : Bund, I64 y.t → I64 y.h → I64 y.e → HBox H base (((w.setCell ⟨g, i * 3, none⟩ (.int .i64 y.t)).setCell ⟨g, i * 3 + 1, none⟩ (.int .i64 y.h)).setCell ⟨g, i * 3 + 2, none⟩ (.int .i64 y.e)) C um ub ut { h with bs := h.bs.set i y }) := by
  obtain ⟨g, c, rfl, hg, hn, hlt, ⟨cur, hcur, hle⟩, hset⟩ := x.b.at3 rfl hi
  have hgC : g ≠ C := fun e => x.b.not_row x.row (by decide) (by simp [Value.ownBlock, e])
  refine ⟨g, c, cur, rfl, hg, hn, hgC, hcur, hle, fun y h1 h2 h3 => ⟨?_, x.hC, x.ge, ?_, hset y _ _ _ (show BundRep y _ from ⟨rfl, h1, h2, h3⟩), ?_, x.c⟩⟩
  · rw [heap_setCell_off _ _ _ (Ne.symm hgC), heap_setCell_off _ _ _ (Ne.symm hgC), heap_setCell_off _ _ _ (Ne.symm hgC)]
    exact x.row
  · have hne : um.ownBlock ≠ some g := by
      rcases x.m.apart x.b (by decide) with e | e
      · rw [e]; simp
      · simpa [Value.ownBlock] using e
    exact ((x.m.setCell (a := ⟨g, _, none⟩) hne _).setCell (a := ⟨g, _, none⟩) hne _).setCell (a := ⟨g, _, none⟩) hne _
  · have hne : ut.ownBlock ≠ some g := by
      rcases x.t.apart x.b (by decide) with e | e
      · rw [e]; simp
      · simpa [Value.ownBlock] using e
    exact ((x.t.setCell (a := ⟨g, _, none⟩) hne _).setCell (a := ⟨g, _, none⟩) hne _).setCell (a := ⟨g, _, none⟩) hne _

theorem Own.get {α : Type} [Enc α] {v : Value} {xs : List α} {e : TypeId} {k : Nat} {x : α} (o : Own H base w e v xs) (hx : At xs k x) : ∃ g c ds, v = .slice (some ⟨g, 0, none⟩) xs.length c ∧ Enc.rep H x ds ∧ base ≤ g ∧ H g = none ∧ g < w.heap.size ∧ (∀ (j : Nat) (u : Value), ds[j]? = some u → w.cell? ⟨g, k * Enc.sz α + j, none⟩ = some u) ∧ ∀ i, w.frozen? ⟨g, i, none⟩ = false := by
  obtain ⟨cells, ⟨hl, ho⟩, hr, hf, hb⟩ := o
  have hlt := hx.lt
  rcases ho with ⟨rfl, hn⟩ | ⟨g, cap, cur, rfl, hbg, hg, hnc, hcm, hcs, htake⟩
  · omega
  · obtain ⟨ds, hd, hj⟩ := reps.get hr hx
    refine ⟨g, cap, ds, rfl, hd, hbg, hf g rfl, (Array.getElem?_eq_some_iff.1 hg).1, fun j u hu => ?_, fun i => by simp [World.frozen?, hg]⟩
    have h1 := hj j u hu
    rw [← htake, List.getElem?_take] at h1
    split at h1
    · rw [cell_of_row w g _ _ _ _ hg]
      simpa using h1
    · cases h1
theorem HBox.getM {k : Nat} {z : Mach} (x : HBox H base w C um ub ut h) (hz : At h.ms k z) : ∃ g c, um = .slice (some ⟨g, 0, none⟩) h.ms.length c ∧ (I64 z.r ∧ I64 z.p ∧ I64 z.s) ∧ w.cell? ⟨g, k * 3, none⟩ = some (.int .i64 z.r) ∧ w.cell? ⟨g, k * 3 + 1, none⟩ = some (.int .i64 z.p) ∧ w.cell? ⟨g, k * 3 + 2, none⟩ = some (.int .i64 z.s) ∧ g < w.heap.size ∧ g ≠ C ∧ base ≤ g ∧ H g = none ∧ ∀ i, w.frozen? ⟨g, i, none⟩ = false := by
  obtain ⟨g, c, ds, rfl, ⟨hd, h1, h2, h3⟩, hb, hn, hlt, hc, hf⟩ := x.m.get hz
  have hgC : g ≠ C := fun e => x.m.not_row x.row (by decide) (by simp [Value.ownBlock, e])
  exact ⟨g, c, rfl, ⟨h1, h2, h3⟩, hc 0 _ (by rw [hd]; rfl), hc 1 _ (by rw [hd]; rfl), hc 2 _ (by rw [hd]; rfl), hlt, hgC, hb, hn, hf⟩

theorem results_cell_slot {P : Program} {fn : Func} {p q : Tmp} {ty : TypeId} (h : fn.results = #[.cell p ty, .tmp q]) (tmps : Array Value) (w : World) (g : Nat) (t : TypeId) (cs : Array Value) (fr : Nat × Nat) (d : TypeDesc)
    (hp : tmps.getD p undef = .pointer (some ⟨g, 0, none⟩)) (hg : w.heap[g]? = some (.cells cs t fr))
    (hu : P.underlying ty = some d) (hd : (match d with | .struct _ | .array _ _ => true | _ => false) = true) (hi : (P.info? ty).map (·.size) = some cs.size) :
    (results fn tmps).run P w = .ok (.tuple #[.agg cs, tmps.getD q undef]) w := by
  have hp' : tmps[p]?.getD undef = .pointer (some ⟨g, 0, none⟩) := by simpa using hp
  simp [results, h, hp', asAddr, run_loadVar_row w g t ty cs fr d hg hu hd hi]

/-- A field is written. -/
theorem HBox.putB {ub' : Value} {bs' : List Bund} (x : HBox H base w C um ub ut h) (o : Own H base w 120 ub' bs') : HBox H base (w.setCell ⟨C, 1, none⟩ ub') C um ub' ut { h with bs := bs' } :=
  ⟨by rw [heap_setCell_row x.row]; simp, x.hC, x.ge, x.m.setCell (x.m.not_row x.row (by decide)) _, o.setCell (o.not_row x.row (by decide)) _, x.t.setCell (x.t.not_row x.row (by decide)) _, x.c⟩
theorem HBox.putM {um' : Value} {ms' : List Mach} (x : HBox H base w C um ub ut h) (o : Own H base w 97 um' ms') : HBox H base (w.setCell ⟨C, 0, none⟩ um') C um' ub ut { h with ms := ms' } :=
  ⟨by rw [heap_setCell_row x.row]; simp, x.hC, x.ge, o.setCell (o.not_row x.row (by decide)) _, x.b.setCell (x.b.not_row x.row (by decide)) _, x.t.setCell (x.t.not_row x.row (by decide)) _, x.c⟩
theorem HBox.putC (x : HBox H base w C um ub ut h) (z : Int) (hz : -9223372036854775808 ≤ z ∧ z ≤ 9223372036854775807) : HBox H base (w.setCell ⟨C, 3, none⟩ (.int .i64 z)) C um ub ut { h with ch := z } :=
  ⟨by rw [heap_setCell_row x.row]; simp, x.hC, x.ge, x.m.setCell (x.m.not_row x.row (by decide)) _, x.b.setCell (x.b.not_row x.row (by decide)) _, x.t.setCell (x.t.not_row x.row (by decide)) _, hz⟩
/-- A slice of bundles (machines) of the call's own grows. -/
theorem HBox.grownB {w' : World} {ub' : Value} {bs' : List Bund} (x : HBox H base w C um ub ut h) (_o : Own H base w' 120 ub' bs') (hg : w.grownBy w' ub.ownBlock) : w'.heap[C]? = some (.cells #[um, ub, ut, .int .i64 h.ch] 26 (0, 0)) ∧ Own H base w' 97 um h.ms ∧ Own H base w' 3 ut h.ts :=
  ⟨(hg.block C x.lt (fun e => x.b.not_row x.row (by decide) e.symm)).trans x.row, Own.kept_other x.b hg (by decide) x.m, Own.kept_other x.b hg (by decide) x.t⟩
theorem HBox.grownM {w' : World} {um' : Value} {ms' : List Mach} (x : HBox H base w C um ub ut h) (_o : Own H base w' 97 um' ms') (hg : w.grownBy w' um.ownBlock) : w'.heap[C]? = some (.cells #[um, ub, ut, .int .i64 h.ch] 26 (0, 0)) ∧ Own H base w' 120 ub h.bs ∧ Own H base w' 3 ut h.ts :=
  ⟨(hg.block C x.lt (fun e => x.m.not_row x.row (by decide) e.symm)).trans x.row, Own.kept_other x.m hg (by decide) x.b, Own.kept_other x.m hg (by decide) x.t⟩

theorem HBox.appB {w' : World} {ub' : Value} {bs' : List Bund} (x : HBox H base w C um ub ut h) (o : Own H base w' 120 ub' bs') (hg : w.grownBy w' ub.ownBlock) : HBox H base (w'.setCell ⟨C, 1, none⟩ ub') C um ub' ut { h with bs := bs' } := by
  obtain ⟨hr, hm, ht⟩ := x.grownB o hg
  exact ⟨by rw [heap_setCell_row hr]; simp, x.hC, x.ge, hm.setCell (hm.not_row hr (by decide)) _, o.setCell (o.not_row hr (by decide)) _, ht.setCell (ht.not_row hr (by decide)) _, x.c⟩
theorem HBox.appM {w' : World} {um' : Value} {ms' : List Mach} (x : HBox H base w C um ub ut h) (o : Own H base w' 97 um' ms') (hg : w.grownBy w' um.ownBlock) : HBox H base (w'.setCell ⟨C, 0, none⟩ um') C um' ub ut { h with ms := ms' } := by
  obtain ⟨hr, hb, ht⟩ := x.grownM o hg
  exact ⟨by rw [heap_setCell_row hr]; simp, x.hC, x.ge, o.setCell (o.not_row hr (by decide)) _, hb.setCell (hb.not_row hr (by decide)) _, ht.setCell (ht.not_row hr (by decide)) _, x.c⟩
theorem Rdy.grown {rb : Nat} {t : TypeId} {w' : World} {row : Option Nat} (x : Rdy rb t w) (hg : w.grownBy w' row) (hne : row ≠ some rb) : Rdy rb t w' := by
  have hl := x.lt
  obtain ⟨a, b, c, d, e⟩ := x
  exact ⟨a, b, c, d, (hg.block rb hl (fun e1 => hne e1.symm)).trans e⟩
theorem three_cell {W : World} {g : Nat} {t : TypeId} {x y z : Value} {fr : Nat × Nat} (h : W.heap[g]? = some (.cells #[x, y, z] t fr)) : ∀ (j : Nat) (u : Value), [x, y, z][j]? = some u → W.cell? ⟨g, j, none⟩ = some u := by
  intro j u hu
  rw [cell_of_row W g j _ _ _ h]
  simpa using hu

/-- The end of a slice. -/
theorem Sl.drop {α : Type} [Enc α] {b o n c : Nat} {xs : List α} (h : Sl H (.slice (some ⟨b, o, none⟩) n c) xs) {k : Nat} (hk : k ≤ xs.length) : Sl H (.slice (some ⟨b, o + k * Enc.sz α, none⟩) (n - k) (c - k)) (xs.drop k) := by
  obtain ⟨a', c', e, h1, h2, h3, h4⟩ := h
  cases e
  have hlen : (xs.drop k).length = xs.length - k := by simp
  refine ⟨_, c - k, by rw [hlen], by omega, by omega, Nat.le_trans (Nat.mul_le_mul_right _ (by omega)) h3, ?_⟩
  rcases h4 with h4 | ⟨b', o', cur, e, fr, ha, hb, ho, hr⟩
  · subst h4; simp
  · cases ha
    have hsub : (xs.length - k) * Enc.sz α + k * Enc.sz α = xs.length * Enc.sz α := by rw [← Nat.add_mul, Nat.sub_add_cancel hk]
    refine .inr ⟨b, o + k * Enc.sz α, cur, e, fr, rfl, hb, by rw [hlen]; omega, ?_⟩
    have e1 : xs = xs.take k ++ xs.drop k := (List.take_append_drop k xs).symm
    rw [e1] at hr
    obtain ⟨c1, c2, e2, hr1, hr2⟩ := hr.split
    have hl1 := hr1.len
    rw [List.length_take, Nat.min_eq_left hk] at hl1
    have : ((cur.toList.drop (o + k * Enc.sz α)).take ((xs.drop k).length * Enc.sz α)) = c2 := by
      have h5 := congrArg (List.drop (k * Enc.sz α)) e2
      rw [← e1, ← hl1, List.drop_left, List.drop_take, List.drop_drop] at h5
      rw [hlen, ← h5, hl1]
      congr 1
      omega
    rw [this]; exact hr2
theorem HBox.grownHigh {N : Nat} {w' : World} {row : Option Nat} (x : HBox H base w C um ub ut h) (hC : C < N) (hm : ∀ k, um.ownBlock = some k → k < N) (hb : ∀ k, ub.ownBlock = some k → k < N) (ht : ∀ k, ut.ownBlock = some k → k < N) (hg : w.grownBy w' row) (hr : ∀ k, row = some k → N ≤ k) : HBox H base w' C um ub ut h := by
  have key : ∀ v : Value, (∀ k, v.ownBlock = some k → k < N) → v.ownBlock = none ∨ v.ownBlock ≠ row := fun v hv => by
    cases e : v.ownBlock with
    | none => exact .inl rfl
    | some k => exact .inr fun e2 => by have := hv k e; have := hr k e2.symm; omega
  exact ⟨(hg.block C x.lt (fun e => by have := hr C e.symm; omega)).trans x.row, x.hC, x.ge, x.m.kept hg (key _ hm), x.b.kept hg (key _ hb), x.t.kept hg (key _ ht), x.c⟩

/-- All of it is frozen. -/
theorem HBox.close {w0 : World} {H0 : Snap} (x : HBox H w0.heap.size w C um ub ut h) (hx : Ext w0 H0 w H) : ∃ H', Ext w0 H0 w H' ∧ SLe H H' ∧ Hou H' um ub ut h := by
  obtain ⟨H2, hx2, hle, s1, s2, s3⟩ := Own.close3 hx x.m x.b x.t (by decide) (by decide) (by decide)
  exact ⟨H2, hx2, hle, s1, s2, s3, x.c⟩
/-- .. the variable too. -/
theorem HBox.closeC {w0 : World} {H0 : Snap} (x : HBox H w0.heap.size w C um ub ut h) (hx : Ext w0 H0 w H) : ∃ H', Ext w0 H0 w H' ∧ SLe H H' ∧ Hou H' um ub ut h ∧ H' C = some (.cells (houV um ub ut h).cells 26 (0, 0)) := by
  have h1 := hx.freeze x.ge x.row
  have hle := Snap.le_put x.hC (.cells #[um, ub, ut, .int .i64 h.ch] 26 (0, 0))
  have sn : ∀ {α : Type} [Enc α] {e : TypeId} {v : Value} {xs : List α}, e ≠ 26 → Own H w0.heap.size w e v xs → Own (H.put C (.cells #[um, ub, ut, .int .i64 h.ch] 26 (0, 0))) w0.heap.size w e v xs := by
    intro α _ e v xs ne o
    refine o.snapS hle fun b hb => ?_
    have hbC : b ≠ C := fun e1 => by subst e1; exact o.not_row x.row ne hb
    rw [Snap.put_other _ _ hbC]
    exact o.free b hb
  obtain ⟨H2, hx2, hle2, s1, s2, s3⟩ := Own.close3 h1 (sn (by decide) x.m) (sn (by decide) x.b) (sn (by decide) x.t) (by decide) (by decide) (by decide)
  exact ⟨H2, hx2, hle.trans hle2, ⟨s1, s2, s3, x.c⟩, hle2 _ _ (Snap.put_same _ _ _)⟩
end

/-- It is handed back in the result's variable R. -/
theorem HBox.out {w0 w : World} {H0 H : Snap} {base C R : Nat} {um ub ut : Value} {h : House} (x : HBox H base w C um ub ut h) (hx : Ext w0 H0 w H) (hr : Rdy R 26 w) (hRn : H R = none) (hwb : w0.heap.size ≤ base) (hRb : R < base) (hgr : w0.heap.size ≤ R) :
    ((((w.setCell ⟨R, 0, none⟩ um).setCell ⟨R, 1, none⟩ ub).setCell ⟨R, 2, none⟩ ut).setCell ⟨R, 3, none⟩ (.int .i64 h.ch)).heap[R]? = some (.cells #[um, ub, ut, .int .i64 h.ch] 26 (0, 0)) ∧
      ∃ H', Ext w0 H0 ((((w.setCell ⟨R, 0, none⟩ um).setCell ⟨R, 1, none⟩ ub).setCell ⟨R, 2, none⟩ ut).setCell ⟨R, 3, none⟩ (.int .i64 h.ch)) H' ∧ Hou H' um ub ut h := by
  refine ⟨hr.row _ _ _ _, ?_⟩
  have x4 := (((x.low (a := ⟨R, 0, none⟩) hRb um).low (a := ⟨R, 1, none⟩) hRb ub).low (a := ⟨R, 2, none⟩) hRb ut).low (a := ⟨R, 3, none⟩) hRb (.int .i64 h.ch)
  have hx4 := (((hx.setCell (a := ⟨R, 0, none⟩) hgr hRn um).setCell (a := ⟨R, 1, none⟩) hgr hRn ub).setCell (a := ⟨R, 2, none⟩) hgr hRn ut).setCell (a := ⟨R, 3, none⟩) hgr hRn (.int .i64 h.ch)
  obtain ⟨H', h1, _, h2⟩ := (x4.weaken hwb).close hx4
  exact ⟨H', h1, h2⟩

/-- A house comes out of a call. -/
def PostH (w : World) (H : Snap) (h : House) (f : Ending) (w' : World) : Prop := Post w H (fun v H' => ∃ um ub ut, v = houV um ub ut h ∧ Hou H' um ub ut h) f w'

end Go.Proofs.YtngdppajailpcaaGreat
