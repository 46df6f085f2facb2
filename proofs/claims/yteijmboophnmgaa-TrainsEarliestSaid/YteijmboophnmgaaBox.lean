/- A house in a variable of the call's own: its slices may be written. -/
import Derived.Test.YteijmboophnmgaaSame
import Derived.Test.YteijmboophnmgaaCopy2
namespace Go.Proofs.Yteijmboophnmgaa
open Go.RowKit

theorem heap_setCell_off (w : World) (a : Addr) (v : Value) {b : Nat} (h : b ≠ a.block) : (w.setCell a v).heap[b]? = w.heap[b]? := by
  show (w.heap.modify a.block _)[b]? = _
  rw [Array.getElem?_modify, if_neg (Ne.symm h)]

/-- A house that lies in block C, all of it the call's own. -/
structure HBox (H : Snap) (base : Nat) (w : World) (C : Nat) (um ub ut : Value) (h : House) : Prop where
  row : w.heap[C]? = some (.cells #[um, ub, ut, .int .i64 h.ch] 26 (0, 0))
  hC : H C = none
  ge : base ≤ C
  m : Own H base w 54 um h.ms
  b : Own H base w 58 ub h.bs
  t : Own H base w 3 ut h.ts
  c : -9223372036854775808 ≤ h.ch ∧ h.ch ≤ 9223372036854775807

section
variable {H : Snap} {base C : Nat} {w : World} {um ub ut : Value} {h : House}
theorem HBox.lt (x : HBox H base w C um ub ut h) : C < w.heap.size := (Array.getElem?_eq_some_iff.1 x.row).1
theorem HBox.cell (x : HBox H base w C um ub ut h) (i : Nat) : w.cell? ⟨C, i, none⟩ = (#[um, ub, ut, .int .i64 h.ch] : Array Value)[i]? := cell_of_row w C i _ _ _ x.row
theorem HBox.cells (x : HBox H base w C um ub ut h) : w.cell? ⟨C, 0, none⟩ = some um ∧ w.cell? ⟨C, 1, none⟩ = some ub ∧ w.cell? ⟨C, 2, none⟩ = some ut ∧ w.cell? ⟨C, 3, none⟩ = some (.int .i64 h.ch) :=
  ⟨x.cell 0, x.cell 1, x.cell 2, x.cell 3⟩
theorem HBox.fz (x : HBox H base w C um ub ut h) (i : Nat) : w.frozen? ⟨C, i, none⟩ = false := by simp [World.frozen?, x.row]
theorem HBox.ext {w' : World} {H' : Snap} (x : HBox H base w C um ub ut h) (hw : Holds H w) (k : Ext w H w' H') : HBox H' base w' C um ub ut h :=
  ⟨(k.below.block C x.lt).trans x.row, (k.same C x.lt).trans x.hC, x.ge, x.m.ext hw k, x.b.ext hw k, x.t.ext hw k, x.c⟩
theorem HBox.below {w' : World} (x : HBox H base w C um ub ut h) (hw : Holds H w) (k : Below w.heap.size w w') : HBox H base w' C um ub ut h :=
  x.ext hw ⟨k, hw.below k, fun _ _ => rfl⟩
theorem HBox.drew (x : HBox H base w C um ub ut h) : HBox H base w.drew C um ub ut h := ⟨x.row, x.hC, x.ge, x.m, x.b, x.t, x.c⟩
theorem HBox.alloc (x : HBox H base w C um ub ut h) (o : Obj) : HBox H base (w.alloc o) C um ub ut h :=
  ⟨(heap_alloc_old w o x.lt).trans x.row, x.hC, x.ge, x.m.alloc o, x.b.alloc o, x.t.alloc o, x.c⟩
theorem HBox.weaken {base' : Nat} (x : HBox H base' w C um ub ut h) (hb : base ≤ base') : HBox H base w C um ub ut h :=
  ⟨x.row, x.hC, Nat.le_trans hb x.ge, x.m.weaken hb, x.b.weaken hb, x.t.weaken hb, x.c⟩

theorem Own.not_row {α : Type} [Enc α] {v : Value} {xs : List α} {e t : TypeId} {cs : Array Value} (o : Own H base w e v xs) (hr : w.heap[C]? = some (.cells cs t (0, 0))) (ne : e ≠ t) : v.ownBlock ≠ some C := fun e1 => by
  obtain ⟨cur, h1⟩ := o.row_type e1
  rw [hr] at h1
  simp only [Option.some.injEq, Obj.cells.injEq] at h1
  exact ne h1.2.1.symm

/-- A write elsewhere. -/
theorem HBox.other {a : Addr} (x : HBox H base w C um ub ut h) (hC : a.block ≠ C) (hm : um.ownBlock ≠ some a.block) (hb : ub.ownBlock ≠ some a.block) (ht : ut.ownBlock ≠ some a.block) (v : Value) : HBox H base (w.setCell a v) C um ub ut h :=
  ⟨(heap_setCell_off w a v (Ne.symm hC)).trans x.row, x.hC, x.ge, x.m.setCell hm v, x.b.setCell hb v, x.t.setCell ht v, x.c⟩
theorem HBox.low {a : Addr} (x : HBox H base w C um ub ut h) (ha : a.block < base) (v : Value) : HBox H base (w.setCell a v) C um ub ut h :=
  x.other (by have := x.ge; omega) (fun e => by have := (x.m.lt _ e).1; omega) (fun e => by have := (x.b.lt _ e).1; omega) (fun e => by have := (x.t.lt _ e).1; omega) v
/-- A write in another row of another type. -/
theorem HBox.rowWrite {g i : Nat} {t : TypeId} {cs : Array Value} (x : HBox H base w C um ub ut h) (hr : w.heap[g]? = some (.cells cs t (0, 0))) (hg : g ≠ C) (h1 : 54 ≠ t) (h2 : 58 ≠ t) (h3 : 3 ≠ t) (v : Value) : HBox H base (w.setCell ⟨g, i, none⟩ v) C um ub ut h :=
  x.other (a := ⟨g, i, none⟩) hg (x.m.not_row hr h1) (x.b.not_row hr h2) (x.t.not_row hr h3) v

/-- The variable is made. -/
theorem HBox.make (om : Own H base w 54 um h.ms) (ob : Own H base w 58 ub h.bs) (ot : Own H base w 3 ut h.ts) (hc : -9223372036854775808 ≤ h.ch ∧ h.ch ≤ 9223372036854775807) (hw : Holds H w) (hb : base ≤ w.heap.size) :
    HBox H base (w.alloc (.cells #[um, ub, ut, .int .i64 h.ch] 26)) w.heap.size um ub ut h :=
  ⟨heap_alloc_new _ _, hw.none_of_ge (Nat.le_refl _), hb, om.alloc _, ob.alloc _, ot.alloc _, hc⟩

/-- A number of the trains' list, and what is left if another one is written there. -/
theorem HBox.setT {i : Nat} {z : Int} (x : HBox H base w C um ub ut h) (hz : At h.ts i z) :
    ∃ g c, ut = .slice (some ⟨g, 0, none⟩) h.ts.length c ∧ (-9223372036854775808 ≤ z ∧ z ≤ 9223372036854775807) ∧ w.cell? ⟨g, i, none⟩ = some (.int .i64 z) ∧ w.frozen? ⟨g, i, none⟩ = false ∧ base ≤ g ∧ H g = none ∧
      (∀ y : Int, (-9223372036854775808 ≤ y ∧ y ≤ 9223372036854775807) → HBox H base (w.setCell ⟨g, i, none⟩ (.int .i64 y)) C um ub ut { h with ts := h.ts.set i y }) := by
  obtain ⟨g, c, rfl, hzb, hc, hf, hg, hn, hlt, hset⟩ := x.t.int_at hz
  have hgC : g ≠ C := fun e => x.t.not_row x.row (by decide) (by simp [Value.ownBlock, e])
  refine ⟨g, c, rfl, hzb, hc, hf, hg, hn, fun y hy => ⟨(heap_setCell_off w _ _ (Ne.symm hgC)).trans x.row, x.hC, x.ge, x.m.setCell ?_ _, x.b.setCell ?_ _, hset y hy, x.c⟩⟩
  · rcases x.m.apart x.t (by decide) with e | e
    · rw [e]; simp
    · simpa [Value.ownBlock] using e
  · rcases x.b.apart x.t (by decide) with e | e
    · rw [e]; simp
    · simpa [Value.ownBlock] using e
/-- A machine, and what is left if another one is written there. -/
theorem HBox.setM {i : Nat} (x : HBox H base w C um ub ut h) (hi : i < h.ms.length) :
    ∃ g c cur, um = .slice (some ⟨g, 0, none⟩) h.ms.length c ∧ base ≤ g ∧ H g = none ∧ g ≠ C ∧ w.heap[g]? = some (.cells cur 54 (0, 0)) ∧ h.ms.length * 3 ≤ cur.size ∧
      (∀ y : Mach, I64 y.r → I64 y.p → I64 y.s → HBox H base (((w.setCell ⟨g, i * 3, none⟩ (.int .i64 y.r)).setCell ⟨g, i * 3 + 1, none⟩ (.int .i64 y.p)).setCell ⟨g, i * 3 + 2, none⟩ (.int .i64 y.s)) C um ub ut { h with ms := h.ms.set i y }) := by
  obtain ⟨g, c, rfl, hg, hn, hlt, ⟨cur, hcur, hle⟩, hset⟩ := x.m.at3 rfl hi
  have hgC : g ≠ C := fun e => x.m.not_row x.row (by decide) (by simp [Value.ownBlock, e])
  refine ⟨g, c, cur, rfl, hg, hn, hgC, hcur, hle, fun y h1 h2 h3 => ⟨?_, x.hC, x.ge, hset y _ _ _ (show MachRep y _ from ⟨rfl, h1, h2, h3⟩), ?_, ?_, x.c⟩⟩
  · rw [heap_setCell_off _ _ _ (Ne.symm hgC), heap_setCell_off _ _ _ (Ne.symm hgC), heap_setCell_off _ _ _ (Ne.symm hgC)]
    exact x.row
  · have hne : ub.ownBlock ≠ some g := by
      rcases x.b.apart x.m (by decide) with e | e
      · rw [e]; simp
      · simpa [Value.ownBlock] using e
    exact ((x.b.setCell (a := ⟨g, _, none⟩) hne _).setCell (a := ⟨g, _, none⟩) hne _).setCell (a := ⟨g, _, none⟩) hne _
  · have hne : ut.ownBlock ≠ some g := by
      rcases x.t.apart x.m (by decide) with e | e
      · rw [e]; simp
      · simpa [Value.ownBlock] using e
    exact ((x.t.setCell (a := ⟨g, _, none⟩) hne _).setCell (a := ⟨g, _, none⟩) hne _).setCell (a := ⟨g, _, none⟩) hne _
/-- A bundle. -/
theorem HBox.setB {i : Nat} (x : HBox H base w C um ub ut h) (hi : i < h.bs.length) :
    ∃ g c cur, ub = .slice (some ⟨g, 0, none⟩) h.bs.length c ∧ base ≤ g ∧ H g = none ∧ g ≠ C ∧ w.heap[g]? = some (.cells cur 58 (0, 0)) ∧ h.bs.length * 3 ≤ cur.size ∧
      (∀ y : Bund, I64 y.t → I64 y.h → I64 y.e → HBox H base (((w.setCell ⟨g, i * 3, none⟩ (.int .i64 y.t)).setCell ⟨g, i * 3 + 1, none⟩ (.int .i64 y.h)).setCell ⟨g, i * 3 + 2, none⟩ (.int .i64 y.e)) C um ub ut { h with bs := h.bs.set i y }) := by
  obtain ⟨g, c, rfl, hg, hn, hlt, ⟨cur, hcur, hle⟩, hset⟩ := x.b.at3 rfl hi
  have hgC : g ≠ C := fun e => x.b.not_row x.row (by decide) (by simp [Value.ownBlock, e])
  refine ⟨g, c, cur, rfl, hg, hn, hgC, hcur, hle, fun y h1 h2 h3 => ⟨?_, x.hC, x.ge, ?_, hset y _ _ _ (show BundRep y _ from ⟨rfl, h1, h2, h3⟩), ?_, x.c⟩⟩
  · rw [heap_setCell_off _ _ _ (Ne.symm hgC), heap_setCell_off _ _ _ (Ne.symm hgC), heap_setCell_off _ _ _ (Ne.symm hgC)]
    exact x.row
  · have hne : um.ownBlock ≠ some g := by
      rcases x.m.apart x.b (by decide) with e | e
      · rw [e]; simp
      · simpa [Value.ownBlock] using e
    exact ((x.m.setCell (a := ⟨g, _, none⟩) hne _).setCell (a := ⟨g, _, none⟩) hne _).setCell (a := ⟨g, _, none⟩) hne _
  · have hne : ut.ownBlock ≠ some g := by
      rcases x.t.apart x.b (by decide) with e | e
      · rw [e]; simp
      · simpa [Value.ownBlock] using e
    exact ((x.t.setCell (a := ⟨g, _, none⟩) hne _).setCell (a := ⟨g, _, none⟩) hne _).setCell (a := ⟨g, _, none⟩) hne _

theorem Own.get {α : Type} [Enc α] {v : Value} {xs : List α} {e : TypeId} {k : Nat} {x : α} (o : Own H base w e v xs) (hx : At xs k x) : ∃ g c ds, v = .slice (some ⟨g, 0, none⟩) xs.length c ∧ Enc.rep H x ds ∧ base ≤ g ∧ H g = none ∧ g < w.heap.size ∧ (∀ (j : Nat) (u : Value), ds[j]? = some u → w.cell? ⟨g, k * Enc.sz α + j, none⟩ = some u) ∧ ∀ i, w.frozen? ⟨g, i, none⟩ = false := by
  obtain ⟨cells, ⟨hl, ho⟩, hr, hf, hb⟩ := o
  have hlt := hx.lt
  rcases ho with ⟨rfl, hn⟩ | ⟨g, cap, cur, rfl, hbg, hg, hnc, hcm, hcs, htake⟩
  · omega
  · obtain ⟨ds, hd, hj⟩ := reps.get hr hx
    refine ⟨g, cap, ds, rfl, hd, hbg, hf g rfl, (Array.getElem?_eq_some_iff.1 hg).1, fun j u hu => ?_, fun i => by simp [World.frozen?, hg]⟩
    have h1 := hj j u hu
    rw [← htake, List.getElem?_take] at h1
    split at h1
    · rw [cell_of_row w g _ _ _ _ hg]
      simpa using h1
    · cases h1
theorem HBox.getM {k : Nat} {z : Mach} (x : HBox H base w C um ub ut h) (hz : At h.ms k z) : ∃ g c, um = .slice (some ⟨g, 0, none⟩) h.ms.length c ∧ (I64 z.r ∧ I64 z.p ∧ I64 z.s) ∧ w.cell? ⟨g, k * 3, none⟩ = some (.int .i64 z.r) ∧ w.cell? ⟨g, k * 3 + 1, none⟩ = some (.int .i64 z.p) ∧ w.cell? ⟨g, k * 3 + 2, none⟩ = some (.int .i64 z.s) ∧ g < w.heap.size ∧ g ≠ C ∧ base ≤ g ∧ H g = none ∧ ∀ i, w.frozen? ⟨g, i, none⟩ = false := by
  obtain ⟨g, c, ds, rfl, ⟨hd, h1, h2, h3⟩, hb, hn, hlt, hc, hf⟩ := x.m.get hz
  have hgC : g ≠ C := fun e => x.m.not_row x.row (by decide) (by simp [Value.ownBlock, e])
  exact ⟨g, c, rfl, ⟨h1, h2, h3⟩, hc 0 _ (by rw [hd]; rfl), hc 1 _ (by rw [hd]; rfl), hc 2 _ (by rw [hd]; rfl), hlt, hgC, hb, hn, hf⟩

theorem results_cell_slot {P : Program} {fn : Func} {p q : Tmp} {ty : TypeId} (h : fn.results = #[.cell p ty, .tmp q]) (tmps : Array Value) (w : World) (g : Nat) (t : TypeId) (cs : Array Value) (fr : Nat × Nat) (d : TypeDesc)
    (hp : tmps.getD p undef = .pointer (some ⟨g, 0, none⟩)) (hg : w.heap[g]? = some (.cells cs t fr))
    (hu : P.underlying ty = some d) (hd : (match d with | .struct _ | .array _ _ => true | _ => false) = true) (hi : (P.info? ty).map (·.size) = some cs.size) :
    (results fn tmps).run P w = .ok (.tuple #[.agg cs, tmps.getD q undef]) w := by
  have hp' : tmps[p]?.getD undef = .pointer (some ⟨g, 0, none⟩) := by simpa using hp
  simp [results, h, hp', asAddr, run_loadVar_row w g t ty cs fr d hg hu hd hi]

/-- A field is written. -/
theorem HBox.putB {ub' : Value} {bs' : List Bund} (x : HBox H base w C um ub ut h) (o : Own H base w 58 ub' bs') : HBox H base (w.setCell ⟨C, 1, none⟩ ub') C um ub' ut { h with bs := bs' } :=
  ⟨by rw [heap_setCell_row x.row]; simp, x.hC, x.ge, x.m.setCell (x.m.not_row x.row (by decide)) _, o.setCell (o.not_row x.row (by decide)) _, x.t.setCell (x.t.not_row x.row (by decide)) _, x.c⟩
theorem HBox.putM {um' : Value} {ms' : List Mach} (x : HBox H base w C um ub ut h) (o : Own H base w 54 um' ms') : HBox H base (w.setCell ⟨C, 0, none⟩ um') C um' ub ut { h with ms := ms' } :=
  ⟨by rw [heap_setCell_row x.row]; simp, x.hC, x.ge, o.setCell (o.not_row x.row (by decide)) _, x.b.setCell (x.b.not_row x.row (by decide)) _, x.t.setCell (x.t.not_row x.row (by decide)) _, x.c⟩
theorem HBox.putC (x : HBox H base w C um ub ut h) (z : Int) (hz : -9223372036854775808 ≤ z ∧ z ≤ 9223372036854775807) : HBox H base (w.setCell ⟨C, 3, none⟩ (.int .i64 z)) C um ub ut { h with ch := z } :=
  ⟨by rw [heap_setCell_row x.row]; simp, x.hC, x.ge, x.m.setCell (x.m.not_row x.row (by decide)) _, x.b.setCell (x.b.not_row x.row (by decide)) _, x.t.setCell (x.t.not_row x.row (by decide)) _, hz⟩
/-- A slice of bundles (machines) of the call's own grows. -/
theorem HBox.grownB {w' : World} {ub' : Value} {bs' : List Bund} (x : HBox H base w C um ub ut h) (_o : Own H base w' 58 ub' bs') (hg : w.grownBy w' ub.ownBlock) : w'.heap[C]? = some (.cells #[um, ub, ut, .int .i64 h.ch] 26 (0, 0)) ∧ Own H base w' 54 um h.ms ∧ Own H base w' 3 ut h.ts :=
  ⟨(hg.block C x.lt (fun e => x.b.not_row x.row (by decide) e.symm)).trans x.row, Own.kept_other x.b hg (by decide) x.m, Own.kept_other x.b hg (by decide) x.t⟩
theorem HBox.grownM {w' : World} {um' : Value} {ms' : List Mach} (x : HBox H base w C um ub ut h) (_o : Own H base w' 54 um' ms') (hg : w.grownBy w' um.ownBlock) : w'.heap[C]? = some (.cells #[um, ub, ut, .int .i64 h.ch] 26 (0, 0)) ∧ Own H base w' 58 ub h.bs ∧ Own H base w' 3 ut h.ts :=
  ⟨(hg.block C x.lt (fun e => x.m.not_row x.row (by decide) e.symm)).trans x.row, Own.kept_other x.m hg (by decide) x.b, Own.kept_other x.m hg (by decide) x.t⟩

theorem HBox.appB {w' : World} {ub' : Value} {bs' : List Bund} (x : HBox H base w C um ub ut h) (o : Own H base w' 58 ub' bs') (hg : w.grownBy w' ub.ownBlock) : HBox H base (w'.setCell ⟨C, 1, none⟩ ub') C um ub' ut { h with bs := bs' } := by
  obtain ⟨hr, hm, ht⟩ := x.grownB o hg
  exact ⟨by rw [heap_setCell_row hr]; simp, x.hC, x.ge, hm.setCell (hm.not_row hr (by decide)) _, o.setCell (o.not_row hr (by decide)) _, ht.setCell (ht.not_row hr (by decide)) _, x.c⟩
theorem HBox.appM {w' : World} {um' : Value} {ms' : List Mach} (x : HBox H base w C um ub ut h) (o : Own H base w' 54 um' ms') (hg : w.grownBy w' um.ownBlock) : HBox H base (w'.setCell ⟨C, 0, none⟩ um') C um' ub ut { h with ms := ms' } := by
  obtain ⟨hr, hb, ht⟩ := x.grownM o hg
  exact ⟨by rw [heap_setCell_row hr]; simp, x.hC, x.ge, o.setCell (o.not_row hr (by decide)) _, hb.setCell (hb.not_row hr (by decide)) _, ht.setCell (ht.not_row hr (by decide)) _, x.c⟩
theorem Rdy.grown {rb : Nat} {t : TypeId} {w' : World} {row : Option Nat} (x : Rdy rb t w) (hg : w.grownBy w' row) (hne : row ≠ some rb) : Rdy rb t w' := by
  have hl := x.lt
  obtain ⟨a, b, c, d, e⟩ := x
  exact ⟨a, b, c, d, (hg.block rb hl (fun e1 => hne e1.symm)).trans e⟩
theorem three_cell {W : World} {g : Nat} {t : TypeId} {x y z : Value} {fr : Nat × Nat} (h : W.heap[g]? = some (.cells #[x, y, z] t fr)) : ∀ (j : Nat) (u : Value), [x, y, z][j]? = some u → W.cell? ⟨g, j, none⟩ = some u := by
  intro j u hu
  rw [cell_of_row W g j _ _ _ h]
  simpa using hu

/-- The end of a slice. -/
theorem Sl.drop {α : Type} [Enc α] {b o n c : Nat} {xs : List α} (h : Sl H (.slice (some ⟨b, o, none⟩) n c) xs) {k : Nat} (hk : k ≤ xs.length) : Sl H (.slice (some ⟨b, o + k * Enc.sz α, none⟩) (n - k) (c - k)) (xs.drop k) := by
  obtain ⟨a', c', e, h1, h2, h3, h4⟩ := h
  cases e
  have hlen : (xs.drop k).length = xs.length - k := by simp
  refine ⟨_, c - k, by rw [hlen], by omega, by omega, Nat.le_trans (Nat.mul_le_mul_right _ (by omega)) h3, ?_⟩
  rcases h4 with h4 | ⟨b', o', cur, e, fr, ha, hb, ho, hr⟩
  · subst h4; simp
  · cases ha
    have hsub : (xs.length - k) * Enc.sz α + k * Enc.sz α = xs.length * Enc.sz α := by rw [← Nat.add_mul, Nat.sub_add_cancel hk]
    refine .inr ⟨b, o + k * Enc.sz α, cur, e, fr, rfl, hb, by rw [hlen]; omega, ?_⟩
    have e1 : xs = xs.take k ++ xs.drop k := (List.take_append_drop k xs).symm
    rw [e1] at hr
    obtain ⟨c1, c2, e2, hr1, hr2⟩ := hr.split
    have hl1 := hr1.len
    rw [List.length_take, Nat.min_eq_left hk] at hl1
    have : ((cur.toList.drop (o + k * Enc.sz α)).take ((xs.drop k).length * Enc.sz α)) = c2 := by
      have h5 := congrArg (List.drop (k * Enc.sz α)) e2
      rw [← e1, ← hl1, List.drop_left, List.drop_take, List.drop_drop] at h5
      rw [hlen, ← h5, hl1]
      congr 1
      omega
    rw [this]; exact hr2
theorem HBox.grownHigh {N : Nat} {w' : World} {row : Option Nat} (x : HBox H base w C um ub ut h) (hC : C < N) (hm : ∀ k, um.ownBlock = some k → k < N) (hb : ∀ k, ub.ownBlock = some k → k < N) (ht : ∀ k, ut.ownBlock = some k → k < N) (hg : w.grownBy w' row) (hr : ∀ k, row = some k → N ≤ k) : HBox H base w' C um ub ut h := by
  have key : ∀ v : Value, (∀ k, v.ownBlock = some k → k < N) → v.ownBlock = none ∨ v.ownBlock ≠ row := fun v hv => by
    cases e : v.ownBlock with
    | none => exact .inl rfl
    | some k => exact .inr fun e2 => by have := hv k e; have := hr k e2.symm; omega
  exact ⟨(hg.block C x.lt (fun e => by have := hr C e.symm; omega)).trans x.row, x.hC, x.ge, x.m.kept hg (key _ hm), x.b.kept hg (key _ hb), x.t.kept hg (key _ ht), x.c⟩

/-- All of it is frozen. -/
theorem HBox.close {w0 : World} {H0 : Snap} (x : HBox H w0.heap.size w C um ub ut h) (hx : Ext w0 H0 w H) : ∃ H', Ext w0 H0 w H' ∧ SLe H H' ∧ Hou H' um ub ut h := by
  obtain ⟨H2, hx2, hle, s1, s2, s3⟩ := Own.close3 hx x.m x.b x.t (by decide) (by decide) (by decide)
  exact ⟨H2, hx2, hle, s1, s2, s3, x.c⟩
/-- .. the variable too. -/
theorem HBox.closeC {w0 : World} {H0 : Snap} (x : HBox H w0.heap.size w C um ub ut h) (hx : Ext w0 H0 w H) : ∃ H', Ext w0 H0 w H' ∧ SLe H H' ∧ Hou H' um ub ut h ∧ H' C = some (.cells (houV um ub ut h).cells 26 (0, 0)) := by
  have h1 := hx.freeze x.ge x.row
  have hle := Snap.le_put x.hC (.cells #[um, ub, ut, .int .i64 h.ch] 26 (0, 0))
  have sn : ∀ {α : Type} [Enc α] {e : TypeId} {v : Value} {xs : List α}, e ≠ 26 → Own H w0.heap.size w e v xs → Own (H.put C (.cells #[um, ub, ut, .int .i64 h.ch] 26 (0, 0))) w0.heap.size w e v xs := by
    intro α _ e v xs ne o
    refine o.snapS hle fun b hb => ?_
    have hbC : b ≠ C := fun e1 => by subst e1; exact o.not_row x.row ne hb
    rw [Snap.put_other _ _ hbC]
    exact o.free b hb
  obtain ⟨H2, hx2, hle2, s1, s2, s3⟩ := Own.close3 h1 (sn (by decide) x.m) (sn (by decide) x.b) (sn (by decide) x.t) (by decide) (by decide) (by decide)
  exact ⟨H2, hx2, hle.trans hle2, ⟨s1, s2, s3, x.c⟩, hle2 _ _ (Snap.put_same _ _ _)⟩
end

/-- It is handed back in the result's variable R. -/
theorem HBox.out {w0 w : World} {H0 H : Snap} {base C R : Nat} {um ub ut : Value} {h : House} (x : HBox H base w C um ub ut h) (hx : Ext w0 H0 w H) (hr : Rdy R 26 w) (hRn : H R = none) (hwb : w0.heap.size ≤ base) (hRb : R < base) (hgr : w0.heap.size ≤ R) :
    ((((w.setCell ⟨R, 0, none⟩ um).setCell ⟨R, 1, none⟩ ub).setCell ⟨R, 2, none⟩ ut).setCell ⟨R, 3, none⟩ (.int .i64 h.ch)).heap[R]? = some (.cells #[um, ub, ut, .int .i64 h.ch] 26 (0, 0)) ∧
      ∃ H', Ext w0 H0 ((((w.setCell ⟨R, 0, none⟩ um).setCell ⟨R, 1, none⟩ ub).setCell ⟨R, 2, none⟩ ut).setCell ⟨R, 3, none⟩ (.int .i64 h.ch)) H' ∧ Hou H' um ub ut h := by
  refine ⟨hr.row _ _ _ _, ?_⟩
  have x4 := (((x.low (a := ⟨R, 0, none⟩) hRb um).low (a := ⟨R, 1, none⟩) hRb ub).low (a := ⟨R, 2, none⟩) hRb ut).low (a := ⟨R, 3, none⟩) hRb (.int .i64 h.ch)
  have hx4 := (((hx.setCell (a := ⟨R, 0, none⟩) hgr hRn um).setCell (a := ⟨R, 1, none⟩) hgr hRn ub).setCell (a := ⟨R, 2, none⟩) hgr hRn ut).setCell (a := ⟨R, 3, none⟩) hgr hRn (.int .i64 h.ch)
  obtain ⟨H', h1, _, h2⟩ := (x4.weaken hwb).close hx4
  exact ⟨H', h1, h2⟩

/-- A house comes out of a call. -/
def PostH (w : World) (H : Snap) (h : House) (f : Ending) (w' : World) : Prop := Post w H (fun v H' => ∃ um ub ut, v = houV um ub ut h ∧ Hou H' um ub ut h) f w'

end Go.Proofs.Yteijmboophnmgaa
