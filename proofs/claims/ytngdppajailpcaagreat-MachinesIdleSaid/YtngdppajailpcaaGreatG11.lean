/- Lemmas and walks on which the claims of this seat lean: MBox MIdx. -/
import Derived.Test.YtngdppajailpcaaGreatG10

set_option linter.all false

namespace Go.Proofs.YtngdppajailpcaaGreat
open Go.RowKit

attribute [local go_sem] Holds.drew Holds.alloc Holds.drewN WB.holds Oper.semAt_some FW_fn FW_dep FW_round

theorem Own.carry {β : Type} [Enc β] {H H' : Snap} {base' : Nat} {w : World} {e' : TypeId} {v u : Value} {ys : List β} (k : Own H base' w e' u ys) (hap : u.ownBlock = none ∨ u.ownBlock ≠ v.ownBlock) (hle : SLe H H') (hsame : ∀ b, v.ownBlock ≠ some b → H' b = H b) : Own H' base' w e' u ys :=
  k.snapS hle fun b hb => by
    rw [hsame b (fun e => by rcases hap with h | h; rw [h] at hb; cases hb; exact h (by rw [hb, e]))]
    exact k.free b hb
theorem apart_symm {u v : Value} (h : u.ownBlock = none ∨ u.ownBlock ≠ v.ownBlock) : v.ownBlock = none ∨ v.ownBlock ≠ u.ownBlock := by
  cases hv : v.ownBlock with
  | none => exact .inl rfl
  | some b =>
    refine .inr fun e => ?_
    rcases h with h | h
    · rw [h] at e; cases e
    · exact h (by rw [← e, hv])

section
variable {H : Snap} {base : Nat} {w : World} {um ub ut uo ue : Value} {h : Hall}
theorem KOwn.ext {w' : World} {H' : Snap} (x : KOwn H base w um ub ut uo ue h) (hw : Holds H w) (k : Ext w H w' H') : KOwn H' base w' um ub ut uo ue h :=
  ⟨x.m.ext hw k, x.b.ext hw k, x.t.ext hw k, x.o.ext hw k, x.e.ext hw k, x.ap, x.c⟩
theorem KOwn.weaken {base' : Nat} (x : KOwn H base' w um ub ut uo ue h) (hb : base ≤ base') : KOwn H base w um ub ut uo ue h :=
  ⟨x.m.weaken hb, x.b.weaken hb, x.t.weaken hb, x.o.weaken hb, x.e.weaken hb, x.ap, x.c⟩
theorem KOwn.alloc (x : KOwn H base w um ub ut uo ue h) (o : Obj) : KOwn H base (w.alloc o) um ub ut uo ue h :=
  ⟨x.m.alloc o, x.b.alloc o, x.t.alloc o, x.o.alloc o, x.e.alloc o, x.ap, x.c⟩
/-- A write in a block that is none of them. -/
theorem KOwn.off {a : Addr} (x : KOwn H base w um ub ut uo ue h) (h1 : um.ownBlock ≠ some a.block) (h2 : ub.ownBlock ≠ some a.block) (h3 : ut.ownBlock ≠ some a.block) (h4 : uo.ownBlock ≠ some a.block) (h5 : ue.ownBlock ≠ some a.block) (v : Value) : KOwn H base (w.setCell a v) um ub ut uo ue h :=
  ⟨x.m.setCell h1 v, x.b.setCell h2 v, x.t.setCell h3 v, x.o.setCell h4 v, x.e.setCell h5 v, x.ap, x.c⟩
theorem KOwn.low {a : Addr} (x : KOwn H base w um ub ut uo ue h) (ha : a.block < base) (v : Value) : KOwn H base (w.setCell a v) um ub ut uo ue h :=
  x.off (x.m.ne_of_lt ha) (x.b.ne_of_lt ha) (x.t.ne_of_lt ha) (x.o.ne_of_lt ha) (x.e.ne_of_lt ha) v
theorem KOwn.low6 {R : Nat} (x : KOwn H base w um ub ut uo ue h) (ha : R < base) (u1 u2 u3 u4 u5 u6 : Value) : KOwn H base (set6 w R u1 u2 u3 u4 u5 u6) um ub ut uo ue h :=
  (((((x.low (a := ⟨R, 0, none⟩) ha u1).low (a := ⟨R, 1, none⟩) ha u2).low (a := ⟨R, 2, none⟩) ha u3).low (a := ⟨R, 3, none⟩) ha u4).low (a := ⟨R, 4, none⟩) ha u5).low (a := ⟨R, 5, none⟩) ha u6
theorem KOwn.snap {H' : Snap} (x : KOwn H base w um ub ut uo ue h) (hle : SLe H H') (hs : ∀ b, base ≤ b → (um.ownBlock = some b ∨ ub.ownBlock = some b ∨ ut.ownBlock = some b ∨ uo.ownBlock = some b ∨ ue.ownBlock = some b) → H' b = H b) : KOwn H' base w um ub ut uo ue h :=
  ⟨x.m.snapS hle fun b hb => by rw [hs b (x.m.lt b hb).1 (.inl hb)]; exact x.m.free b hb,
   x.b.snapS hle fun b hb => by rw [hs b (x.b.lt b hb).1 (.inr (.inl hb))]; exact x.b.free b hb,
   x.t.snapS hle fun b hb => by rw [hs b (x.t.lt b hb).1 (.inr (.inr (.inl hb)))]; exact x.t.free b hb,
   x.o.snapS hle fun b hb => by rw [hs b (x.o.lt b hb).1 (.inr (.inr (.inr (.inl hb))))]; exact x.o.free b hb,
   x.e.snapS hle fun b hb => by rw [hs b (x.e.lt b hb).1 (.inr (.inr (.inr (.inr hb))))]; exact x.e.free b hb, x.ap, x.c⟩

/-- All of it is frozen. -/
theorem KOwn.close {w0 : World} {H0 : Snap} (x : KOwn H w0.heap.size w um ub ut uo ue h) (hx : Ext w0 H0 w H) : ∃ H', Ext w0 H0 w H' ∧ SLe H H' ∧ Hal H' um ub ut uo ue h := by
  obtain ⟨HA, xA, lA, sA, nA⟩ := x.m.close hx
  have b1 := x.b.carry (v := um) (apart_symm (x.m.apart x.b (by decide))) lA nA
  have t1 := x.t.carry (v := um) (apart_symm (x.m.apart x.t (by decide))) lA nA
  have o1 := x.o.carry (v := um) (apart_symm (x.m.apart x.o (by decide))) lA nA
  have e1 := x.e.carry (v := um) (apart_symm (x.m.apart x.e (by decide))) lA nA
  obtain ⟨HB, xB, lB, sB, nB⟩ := b1.close xA
  have t2 := t1.carry (v := ub) (apart_symm (x.b.apart x.t (by decide))) lB nB
  have o2 := o1.carry (v := ub) (apart_symm (x.b.apart x.o (by decide))) lB nB
  have e2 := e1.carry (v := ub) (apart_symm (x.b.apart x.e (by decide))) lB nB
  obtain ⟨HC, xC, lC, sC, nC⟩ := t2.close xB
  have o3 := o2.carry (v := ut) (apart_symm x.ap) lC nC
  have e3 := e2.carry (v := ut) (apart_symm (x.t.apart x.e (by decide))) lC nC
  obtain ⟨HD, xD, lD, sD, nD⟩ := o3.close xC
  have e4 := e3.carry (v := uo) (apart_symm (x.o.apart x.e (by decide))) lD nD
  obtain ⟨HE, xE, lE, sE, _⟩ := e4.close xD
  exact ⟨HE, xE, (((lA.trans lB).trans lC).trans lD).trans lE, ⟨⟨(((sA.mono lB).mono lC).mono lD).mono lE, ((sB.mono lC).mono lD).mono lE, (sC.mono lD).mono lE, x.c⟩, sD.mono lE, sE⟩⟩
end

/-- A hall in block C, all of it the call's own. -/
structure KBox (H : Snap) (base : Nat) (w : World) (C : Nat) (um ub ut uo ue : Value) (h : Hall) : Prop where
  row : w.heap[C]? = some (.cells #[um, ub, ut, .int .i64 h.hs.ch, uo, ue] 29 (0, 0))
  hC : H C = none
  ge : base ≤ C
  k : KOwn H base w um ub ut uo ue h

section
variable {H : Snap} {base C : Nat} {w : World} {um ub ut uo ue : Value} {h : Hall}
theorem KBox.lt (x : KBox H base w C um ub ut uo ue h) : C < w.heap.size := (Array.getElem?_eq_some_iff.1 x.row).1
theorem KBox.cell (x : KBox H base w C um ub ut uo ue h) (i : Nat) : w.cell? ⟨C, i, none⟩ = (#[um, ub, ut, .int .i64 h.hs.ch, uo, ue] : Array Value)[i]? := cell_of_row w C i _ _ _ x.row
theorem KBox.cells (x : KBox H base w C um ub ut uo ue h) : w.cell? ⟨C, 0, none⟩ = some um ∧ w.cell? ⟨C, 1, none⟩ = some ub ∧ w.cell? ⟨C, 2, none⟩ = some ut ∧ w.cell? ⟨C, 3, none⟩ = some (.int .i64 h.hs.ch) ∧ w.cell? ⟨C, 4, none⟩ = some uo ∧ w.cell? ⟨C, 5, none⟩ = some ue :=
  ⟨x.cell 0, x.cell 1, x.cell 2, x.cell 3, x.cell 4, x.cell 5⟩
theorem KBox.fz (x : KBox H base w C um ub ut uo ue h) (i : Nat) : w.frozen? ⟨C, i, none⟩ = false := by simp [World.frozen?, x.row]
theorem KBox.ext {w' : World} {H' : Snap} (x : KBox H base w C um ub ut uo ue h) (hw : Holds H w) (k : Ext w H w' H') : KBox H' base w' C um ub ut uo ue h :=
  ⟨(k.below.block C x.lt).trans x.row, (k.same C x.lt).trans x.hC, x.ge, x.k.ext hw k⟩
theorem KBox.alloc (x : KBox H base w C um ub ut uo ue h) (o : Obj) : KBox H base (w.alloc o) C um ub ut uo ue h :=
  ⟨(heap_alloc_old w o x.lt).trans x.row, x.hC, x.ge, x.k.alloc o⟩
theorem KBox.weaken {base' : Nat} (x : KBox H base' w C um ub ut uo ue h) (hb : base ≤ base') : KBox H base w C um ub ut uo ue h := ⟨x.row, x.hC, Nat.le_trans hb x.ge, x.k.weaken hb⟩
/-- The variable is made. -/
theorem KBox.make (k : KOwn H base w um ub ut uo ue h) (hw : Holds H w) (hb : base ≤ w.heap.size) : KBox H base (w.alloc (.cells #[um, ub, ut, .int .i64 h.hs.ch, uo, ue] 29)) w.heap.size um ub ut uo ue h :=
  ⟨heap_alloc_new _ _, hw.none_of_ge (Nat.le_refl _), hb, k.alloc _⟩
theorem KBox.rowNe (x : KBox H base w C um ub ut uo ue h) : um.ownBlock ≠ some C ∧ ub.ownBlock ≠ some C ∧ ut.ownBlock ≠ some C ∧ uo.ownBlock ≠ some C ∧ ue.ownBlock ≠ some C :=
  ⟨x.k.m.not_row x.row (by decide), x.k.b.not_row x.row (by decide), x.k.t.not_row x.row (by decide), x.k.o.not_row x.row (by decide), x.k.e.not_row x.row (by decide)⟩
theorem ne_block {u v : Value} {g n c : Nat} (hap : u.ownBlock = none ∨ u.ownBlock ≠ v.ownBlock) (hv : v = .slice (some ⟨g, 0, none⟩) n c) : u.ownBlock ≠ some g := by
  rcases hap with e | e
  · rw [e]; simp
  · rw [hv] at e; exact e

/-- A bore. -/
theorem KBox.setO {i : Nat} {z : Int} (x : KBox H base w C um ub ut uo ue h) (hz : At h.bo i z) :
    ∃ g c, uo = .slice (some ⟨g, 0, none⟩) h.bo.length c ∧ I64 z ∧ w.cell? ⟨g, i, none⟩ = some (.int .i64 z) ∧ w.frozen? ⟨g, i, none⟩ = false ∧ base ≤ g ∧ H g = none ∧ g < w.heap.size ∧ g ≠ C ∧
      (∀ y : Int, I64 y → KBox H base (w.setCell ⟨g, i, none⟩ (.int .i64 y)) C um ub ut uo ue { h with bo := h.bo.set i y }) := by
  obtain ⟨g, c, he, hzb, hc, hf, hg, hn, hlt, hset⟩ := x.k.o.int_at hz
  have hgC : g ≠ C := fun e => x.rowNe.2.2.2.1 (by rw [he, e]; rfl)
  refine ⟨g, c, he, hzb, hc, hf, hg, hn, hlt, hgC, fun y hy => ⟨(heap_setCell_off w _ _ (Ne.symm hgC)).trans x.row, x.hC, x.ge, x.k.m.setCell ?_ _, x.k.b.setCell ?_ _, x.k.t.setCell ?_ _, hset y hy, x.k.e.setCell ?_ _, x.k.ap, x.k.c⟩⟩
  · exact ne_block (x.k.m.apart x.k.o (by decide)) he
  · exact ne_block (x.k.b.apart x.k.o (by decide)) he
  · exact ne_block x.k.ap he
  · exact ne_block (x.k.e.apart x.k.o (by decide)) he
/-- A train. -/
theorem KBox.setT {i : Nat} {z : Int} (x : KBox H base w C um ub ut uo ue h) (hz : At h.hs.ts i z) :
    ∃ g c, ut = .slice (some ⟨g, 0, none⟩) h.hs.ts.length c ∧ I64 z ∧ w.cell? ⟨g, i, none⟩ = some (.int .i64 z) ∧ w.frozen? ⟨g, i, none⟩ = false ∧ base ≤ g ∧ H g = none ∧ g < w.heap.size ∧ g ≠ C ∧
      (∀ y : Int, I64 y → KBox H base (w.setCell ⟨g, i, none⟩ (.int .i64 y)) C um ub ut uo ue { h with hs := { h.hs with ts := h.hs.ts.set i y } }) := by
  obtain ⟨g, c, he, hzb, hc, hf, hg, hn, hlt, hset⟩ := x.k.t.int_at hz
  have hgC : g ≠ C := fun e => x.rowNe.2.2.1 (by rw [he, e]; rfl)
  refine ⟨g, c, he, hzb, hc, hf, hg, hn, hlt, hgC, fun y hy => ⟨(heap_setCell_off w _ _ (Ne.symm hgC)).trans x.row, x.hC, x.ge, x.k.m.setCell ?_ _, x.k.b.setCell ?_ _, hset y hy, x.k.o.setCell ?_ _, x.k.e.setCell ?_ _, x.k.ap, x.k.c⟩⟩
  · exact ne_block (x.k.m.apart x.k.t (by decide)) he
  · exact ne_block (x.k.b.apart x.k.t (by decide)) he
  · exact ne_block (apart_symm x.k.ap) he
  · exact ne_block (x.k.e.apart x.k.t (by decide)) he
/-- A machine. -/
theorem KBox.setM {i : Nat} {z : Mach} (x : KBox H base w C um ub ut uo ue h) (hz : At h.hs.ms i z) :
    ∃ g c, um = .slice (some ⟨g, 0, none⟩) h.hs.ms.length c ∧ (I64 z.r ∧ I64 z.p ∧ I64 z.s) ∧ w.cell? ⟨g, i * 3, none⟩ = some (.int .i64 z.r) ∧ w.cell? ⟨g, i * 3 + 1, none⟩ = some (.int .i64 z.p) ∧ w.cell? ⟨g, i * 3 + 2, none⟩ = some (.int .i64 z.s) ∧
      (∀ j, w.frozen? ⟨g, j, none⟩ = false) ∧ base ≤ g ∧ H g = none ∧ g < w.heap.size ∧ g ≠ C ∧
      (∀ y : Mach, I64 y.r → I64 y.p → I64 y.s → KBox H base (((w.setCell ⟨g, i * 3, none⟩ (.int .i64 y.r)).setCell ⟨g, i * 3 + 1, none⟩ (.int .i64 y.p)).setCell ⟨g, i * 3 + 2, none⟩ (.int .i64 y.s)) C um ub ut uo ue { h with hs := { h.hs with ms := h.hs.ms.set i y } }) := by
  obtain ⟨g, c, ds, he, ⟨hd, h1, h2, h3⟩, hb, hn, hlt, hc, hf⟩ := x.k.m.get hz
  obtain ⟨g', c', he', _, _, _, _, hset⟩ := x.k.m.at3 rfl hz.lt
  have hgg : g' = g ∧ c' = c := by rw [he] at he'; cases he'; exact ⟨rfl, rfl⟩
  obtain ⟨rfl, rfl⟩ := hgg
  have hgC : g' ≠ C := fun e => x.rowNe.1 (by rw [he, e]; rfl)
  have n2 := ne_block (x.k.b.apart x.k.m (by decide)) he
  have n3 := ne_block (x.k.t.apart x.k.m (by decide)) he
  have n4 := ne_block (x.k.o.apart x.k.m (by decide)) he
  have n5 := ne_block (x.k.e.apart x.k.m (by decide)) he
  have off3 : ∀ {β : Type} [Enc β] {e : TypeId} {v : Value} {ys : List β} {u1 u2 u3 : Value}, Own H base w e v ys → v.ownBlock ≠ some g' → Own H base (((w.setCell ⟨g', i * 3, none⟩ u1).setCell ⟨g', i * 3 + 1, none⟩ u2).setCell ⟨g', i * 3 + 2, none⟩ u3) e v ys := by
    intro β _ e v ys u1 u2 u3 o hne
    exact ((o.setCell (a := ⟨g', _, none⟩) hne _).setCell (a := ⟨g', _, none⟩) hne _).setCell (a := ⟨g', _, none⟩) hne _
  refine ⟨g', c', he, ⟨h1, h2, h3⟩, hc 0 _ (by rw [hd]; rfl), hc 1 _ (by rw [hd]; rfl), hc 2 _ (by rw [hd]; rfl), hf, hb, hn, hlt, hgC, fun y y1 y2 y3 => ⟨?_, x.hC, x.ge, hset y _ _ _ (show MachRep y _ from ⟨rfl, y1, y2, y3⟩), off3 x.k.b n2, off3 x.k.t n3, off3 x.k.o n4, off3 x.k.e n5, x.k.ap, x.k.c⟩⟩
  rw [heap_setCell_off _ _ _ (Ne.symm hgC), heap_setCell_off _ _ _ (Ne.symm hgC), heap_setCell_off _ _ _ (Ne.symm hgC)]
  exact x.row

/-- All of it is frozen. -/
theorem KBox.close {w0 : World} {H0 : Snap} (x : KBox H w0.heap.size w C um ub ut uo ue h) (hx : Ext w0 H0 w H) : ∃ H', Ext w0 H0 w H' ∧ SLe H H' ∧ Hal H' um ub ut uo ue h := x.k.close hx
/-- .. the variable too. -/
theorem KBox.closeC {w0 : World} {H0 : Snap} (x : KBox H w0.heap.size w C um ub ut uo ue h) (hx : Ext w0 H0 w H) : ∃ H', Ext w0 H0 w H' ∧ SLe H H' ∧ Hal H' um ub ut uo ue h ∧ H' C = some (.cells (halV um ub ut uo ue h).cells 29 (0, 0)) := by
  have h1 := hx.freeze x.ge x.row
  have hle := Snap.le_put x.hC (.cells #[um, ub, ut, .int .i64 h.hs.ch, uo, ue] 29 (0, 0))
  obtain ⟨n1, n2, n3, n4, n5⟩ := x.rowNe
  have k2 := x.k.snap hle fun b _ hb => Snap.put_other _ _ (by rintro rfl; rcases hb with e | e | e | e | e; exact n1 e; exact n2 e; exact n3 e; exact n4 e; exact n5 e)
  obtain ⟨H2, hx2, hle2, hh⟩ := k2.close h1
  exact ⟨H2, hx2, hle.trans hle2, hh, hle2 _ _ (Snap.put_same _ _ _)⟩
end
/-- It is handed back in the result's variable R. -/
theorem KBox.out {w0 w : World} {H0 H : Snap} {base C R : Nat} {um ub ut uo ue : Value} {h : Hall} (x : KBox H base w C um ub ut uo ue h) (hx : Ext w0 H0 w H) (hr : Rdy6 R 29 w) (hRn : H R = none) (hwb : w0.heap.size ≤ base) (hRb : R < base) (hgr : w0.heap.size ≤ R) :
    (set6 w R um ub ut (.int .i64 h.hs.ch) uo ue).heap[R]? = some (.cells #[um, ub, ut, .int .i64 h.hs.ch, uo, ue] 29 (0, 0)) ∧
      ∃ H', Ext w0 H0 (set6 w R um ub ut (.int .i64 h.hs.ch) uo ue) H' ∧ Hal H' um ub ut uo ue h := by
  refine ⟨hr.row _ _ _ _ _ _, ?_⟩
  obtain ⟨H', h1, _, h2⟩ := ((x.k.low6 hRb _ _ _ _ _ _).weaken hwb).close (hx.set6 hgr hRn um ub ut (.int .i64 h.hs.ch) uo ue)
  exact ⟨H', h1, h2⟩

/-- A hall comes out of a call. -/
def PostHal (w : World) (H : Snap) (h : Hall) (f : Ending) (w' : World) : Prop := ∃ um ub ut uo ue H', f = .returned (halV um ub ut uo ue h) ∧ Ext w H w' H' ∧ Hal H' um ub ut uo ue h
theorem PostK.hal {w w' : World} {H : Snap} {h : Hall} {f : Ending} (k : PostK w H h f w') : PostHal w H h f w' := by
  obtain ⟨um, ub, ut, uo, ue, H', e, hx, k⟩ := k
  obtain ⟨H2, hx2, _, hh⟩ := k.close hx
  exact ⟨um, ub, ut, uo, ue, H2, e, hx2, hh⟩

/-- A machine has the bore of another one. -/
def boredH (h : Hall) (one other : Nat) : Hall := { h with bo := h.bo.set one (bore h other) }
/-- No machine may stop. -/
def calmTo (h : Hall) (k : Nat) : Hall := { h with hs := { h.hs with ms := (h.hs.ms.take k).map (fun m => { m with s := 0 }) ++ h.hs.ms.drop k } }
def calmH (h : Hall) : Hall := { h with hs := { h.hs with ms := h.hs.ms.map (fun m => { m with s := 0 }) } }

set_option maxRecDepth 100000 in
set_option maxHeartbeats 8000000 in
theorem bored9_any (vm vb vt vo ve : Value) (h : Hall) (one other : Nat) (h1 : one < h.bo.length) (h2 : other < h.bo.length) (H : Snap) (w : World) (hw : Holds H w) (hh : Hal H vm vb vt vo ve h) (hsz : h.ed.length ≤ 1000000) (hs2 : ∀ l ∈ h.ed, l.length ≤ 1000000) :
    Calls Tryz.prog 52 #[halV vm vb vt vo ve h, .int .i64 (one : Int), .int .i64 (other : Int)] w (PostHal w H (boredH h one other)) := by
  obtain ⟨ao, co, rfl, ho1, ho2⟩ := hh.bo.form
  go_enter Tryz.func52, Tryz.ntmps52
  go_upto_region 1 with (refine wpList_boxF rfl _ rfl (Ext.refl hw) ?_; intro B w1 H1 hle hx hB hBw; obtain ⟨hc0, hc1, hc2, hc3, hc4, hc5⟩ := cellsHal hB; clear hB hw; have hw1 := hx.holds)
  have hhc := hh.mono hle
  have hxz := hx.alloc (.cells #[.slice none 0 0, .slice none 0 0, .slice none 0 0, .int .i64 0, .slice none 0 0, .slice none 0 0] 29)
  have hrow : Rdy6 w1.heap.size 29 (w1.alloc (.cells #[.slice none 0 0, .slice none 0 0, .slice none 0 0, .int .i64 0, .slice none 0 0, .slice none 0 0] 29)) := ⟨_, _, _, _, _, _, heap_alloc_new _ _⟩
  have hRn : H1 w1.heap.size = none := hw1.none_of_ge (Nat.le_refl _)
  have hRb := hx.below.size
  generalize w1.alloc (.cells #[.slice none 0 0, .slice none 0 0, .slice none 0 0, .int .i64 0, .slice none 0 0, .slice none 0 0] 29) = wz at *
  generalize w1.heap.size = R at *
  clear hx hw1
  have hwz := hxz.holds
  have hRlt := hrow.lt
  go_upto_region 2 with (go_at_call 10; refine (copy9_any _ _ _ _ _ h H1 wz hwz hhc hsz hs2).mono ?_; rintro e w3 ⟨um, ub, ut, uo, ue, H3, rfl, x3, K⟩; obtain ⟨aM, cM, rfl, _, _⟩ := K.m.form; obtain ⟨aB, cB, rfl, _, _⟩ := K.b.form; obtain ⟨aT, cT, rfl, _, _⟩ := K.t.form; obtain ⟨aO, cO, rfl, _, _⟩ := K.o.form; obtain ⟨aE, cE, rfl, _, _⟩ := K.e.form)
  have l3 := x3.le hwz
  have hb4 := KBox.make K x3.holds x3.below.size
  have x4 := (hxz.trans x3).alloc (.cells #[.slice aM h.hs.ms.length cM, .slice aB h.hs.bs.length cB, .slice aT h.hs.ts.length cT, .int .i64 h.hs.ch, .slice aO h.bo.length cO, .slice aE h.ed.length cE] 29)
  have hr4 := (hrow.below x3.below hRlt).alloc (.cells #[.slice aM h.hs.ms.length cM, .slice aB h.hs.bs.length cB, .slice aT h.hs.ts.length cT, .int .i64 h.hs.ch, .slice aO h.bo.length cO, .slice aE h.ed.length cE] 29)
  have hRn3 : H3 R = none := (x3.same R hRlt).trans hRn
  have hwb := hxz.below.size
  generalize w3.alloc (.cells #[.slice aM h.hs.ms.length cM, .slice aB h.hs.bs.length cB, .slice aT h.hs.ts.length cT, .int .i64 h.hs.ch, .slice aO h.bo.length cO, .slice aE h.ed.length cE] 29) = w4 at *
  generalize w3.heap.size = C at *
  clear K
  have hw4 := x4.holds
  obtain ⟨z1, hz1⟩ := At.mk h1
  obtain ⟨z2, hz2⟩ := At.mk h2
  have hbz : bore h other = z2 := hz2.bore
  obtain ⟨g, cg, heg, _, hcl, hfz, hgb, hgH, hgl, hgC, hset⟩ := hb4.setO hz1
  cases heg
  obtain ⟨bo', oo', co', hez, hio, hro⟩ := (hhc.bo.mono l3).int hz2
  cases hez
  obtain ⟨c0, c1, c2, c3, c4, c5⟩ := hb4.cells
  have hC := hb4.lt
  have d4 : ∀ x : WB H3 w4, x.w.cell? ⟨C, 4, none⟩ = some (.slice (some ⟨g, 0, none⟩) h.bo.length cO) := fun x => (x.old C 4 hC).trans c4
  replace hc4 := lift l3 hc4
  have e1 : (0 : Int) ≤ (one : Int) := by omega
  have e2 : (one : Int) < (h.bo.length : Int) := by omega
  have e3 : (0 : Int) ≤ (other : Int) := by omega
  have e4 : (other : Int) < (h.bo.length : Int) := by omega
  refine (wpIn_wide (n := 3)).1 ?_
  show Code.wpIn (FW none) 3 _ _ _ _ _
  have hnq : Nonempty (WB H3 w4) := ⟨⟨w4, hw4, Below.refl _ _⟩⟩
  refine wpIn_region_qtail (C := fun w' => ∃ x : WB H3 w4, w' = x.w) 9 (by kernel_rfl) (by kernel_rfl) (by kernel_rfl) ⟨⟨World.drew w4, Holds.drew hw4, (Below.refl _ _).drew⟩, rfl⟩ ?_
  simp only [List.take_succ_cons, List.take_zero, List.drop_succ_cons, List.drop_zero]
  repeat go_big_quiet_step ((first | (fail)))
  refine wpQuiet_nil ?_
  clear hnq
  rintro w2 ⟨⟨_, hw2, hb2⟩, rfl⟩
  have xb : Ext w4 H3 w2 H3 := ⟨hb2, hw2, fun _ _ => rfl⟩
  obtain ⟨_, _, he', _, hcl2, hfz2, _, _, _, _, hset2⟩ := (hb4.ext hw4 xb).setO hz1
  cases he'
  have hb5 := hset2 z2 hio
  have x5 := (x4.trans xb).setCell (a := ⟨g, one, none⟩) (Nat.le_trans hwb hgb) hgH (.int .i64 z2)
  have hr5 : Rdy6 R 29 (World.setCell w2 ⟨g, one, none⟩ (.int .i64 z2)) := by
    obtain ⟨a, b, c, d, e, f, hr⟩ := hr4.below hb2 hr4.lt
    exact ⟨a, b, c, d, e, f, (heap_setCell_off _ _ _ (by show R ≠ g; omega)).trans hr⟩
  gi_wp2
  generalize World.setCell w2 ⟨g, one, none⟩ (.int .i64 z2) = w6 at *
  obtain ⟨c0', c1', c2', c3', c4', c5'⟩ := hb5.cells
  obtain ⟨r0, hr0⟩ := hr5.cell 0 (by omega)
  obtain ⟨r1, hr1⟩ := hr5.cell 1 (by omega)
  obtain ⟨r2, hr2⟩ := hr5.cell 2 (by omega)
  obtain ⟨r3, hr3⟩ := hr5.cell 3 (by omega)
  obtain ⟨r4, hr4'⟩ := hr5.cell 4 (by omega)
  obtain ⟨r5, hr5'⟩ := hr5.cell 5 (by omega)
  have f0 := hr5.fz 0
  have f1 := hr5.fz 1
  have f2 := hr5.fz 2
  have f3 := hr5.fz 3
  have f4 := hr5.fz 4
  have f5 := hr5.fz 5
  obtain ⟨hout, H7, x7, hh7⟩ := hb5.out x5 hr5 hRn3 hwb hRlt hRb
  replace hout := Lib.hid hout
  replace x7 := Lib.hid x7
  replace hh7 := Lib.hid hh7
  go_wp2
  refine bodyPost_ret (results_cell_row rfl _ _ R 29 _ (0, 0) _ rfl hout.out Tryz.underlying29 rfl (by kernel_rfl)) rfl ?_
  refine ⟨_, _, _, _, _, H7, rfl, x7.out, ?_⟩
  unfold boredH
  rw [hbz]; exact hh7.out

theorem calmTo_zero (h : Hall) : calmTo h 0 = h := by unfold calmTo; simp
theorem calmTo_end (h : Hall) : calmTo h h.hs.ms.length = calmH h := by unfold calmTo calmH; simp
theorem calmTo_at {h : Hall} {k : Nat} {m : Mach} (hm : At h.hs.ms k m) : At (calmTo h k).hs.ms k m := by
  show _ = _
  unfold calmTo
  simp only
  rw [List.getElem?_append_right (by rw [List.length_map, List.length_take]; exact Nat.min_le_left _ _), List.length_map, List.length_take, Nat.min_eq_left (Nat.le_of_lt hm.lt), List.getElem?_drop, Nat.sub_self, Nat.add_zero]
  exact hm
theorem calmTo_succ {h : Hall} {k : Nat} {m : Mach} (hm : At h.hs.ms k m) : ({ calmTo h k with hs := { (calmTo h k).hs with ms := (calmTo h k).hs.ms.set k { m with s := 0 } } } : Hall) = calmTo h (k + 1) := by
  unfold calmTo
  simp only
  have e : h.hs.ms.drop k = m :: h.hs.ms.drop (k + 1) := by
    obtain ⟨hk, rfl⟩ := hm.get; exact List.drop_eq_getElem_cons hk
  have hlen : ((h.hs.ms.take k).map (fun m : Mach => { m with s := 0 })).length = k := by rw [List.length_map, List.length_take, Nat.min_eq_left (Nat.le_of_lt hm.lt)]
  rw [List.set_append_right _ _ (by omega), hlen, Nat.sub_self, e, List.set_cons_zero, hm.take, List.map_append]
  simp
theorem calmTo_len (h : Hall) (k : Nat) : (calmTo h k).hs.ms.length = h.hs.ms.length := by
  unfold calmTo; simp; omega

set_option maxRecDepth 100000 in
set_option maxHeartbeats 8000000 in
theorem calmed9_any (vm vb vt vo ve : Value) (h : Hall) (H : Snap) (w : World) (hw : Holds H w) (hh : Hal H vm vb vt vo ve h) (hsz : h.ed.length ≤ 1000000) (hs2 : ∀ l ∈ h.ed, l.length ≤ 1000000) :
    Calls Tryz.prog 62 #[halV vm vb vt vo ve h] w (PostHal w H (calmH h)) := by
  have hmle := hh.hs.m.le
  go_enter Tryz.func62, Tryz.ntmps62
  go_upto_region 1 with (refine wpList_boxF rfl _ rfl (Ext.refl hw) ?_; intro B w1 H1 hle hx hB hBw; obtain ⟨hc0, hc1, hc2, hc3, hc4, hc5⟩ := cellsHal hB; clear hB hw; have hw1 := hx.holds)
  have hhc := hh.mono hle
  have hxz := hx.alloc (.cells #[.slice none 0 0, .slice none 0 0, .slice none 0 0, .int .i64 0, .slice none 0 0, .slice none 0 0] 29)
  have hrow : Rdy6 w1.heap.size 29 (w1.alloc (.cells #[.slice none 0 0, .slice none 0 0, .slice none 0 0, .int .i64 0, .slice none 0 0, .slice none 0 0] 29)) := ⟨_, _, _, _, _, _, heap_alloc_new _ _⟩
  have hRn : H1 w1.heap.size = none := hw1.none_of_ge (Nat.le_refl _)
  have hRb := hx.below.size
  generalize w1.alloc (.cells #[.slice none 0 0, .slice none 0 0, .slice none 0 0, .int .i64 0, .slice none 0 0, .slice none 0 0] 29) = wz at *
  generalize w1.heap.size = R at *
  clear hx hw1
  have hwz := hxz.holds
  have hRlt := hrow.lt
  go_upto_region 2 with (go_at_call 10; refine (copy9_any _ _ _ _ _ h H1 wz hwz hhc hsz hs2).mono ?_; rintro e w3 ⟨um, ub, ut, uo, ue, H3, rfl, x3, K⟩; obtain ⟨aM, cM, rfl, _, _⟩ := K.m.form; obtain ⟨aB, cB, rfl, _, _⟩ := K.b.form; obtain ⟨aT, cT, rfl, _, _⟩ := K.t.form; obtain ⟨aO, cO, rfl, _, _⟩ := K.o.form; obtain ⟨aE, cE, rfl, _, _⟩ := K.e.form)
  have hb4 := KBox.make K x3.holds x3.below.size
  have x4 := (hxz.trans x3).alloc (.cells #[.slice aM h.hs.ms.length cM, .slice aB h.hs.bs.length cB, .slice aT h.hs.ts.length cT, .int .i64 h.hs.ch, .slice aO h.bo.length cO, .slice aE h.ed.length cE] 29)
  have hr4 := (hrow.below x3.below hRlt).alloc (.cells #[.slice aM h.hs.ms.length cM, .slice aB h.hs.bs.length cB, .slice aT h.hs.ts.length cT, .int .i64 h.hs.ch, .slice aO h.bo.length cO, .slice aE h.ed.length cE] 29)
  have hRn3 : H3 R = none := (x3.same R hRlt).trans hRn
  have hwb := hxz.below.size
  generalize w3.alloc (.cells #[.slice aM h.hs.ms.length cM, .slice aB h.hs.bs.length cB, .slice aT h.hs.ts.length cT, .int .i64 h.hs.ch, .slice aO h.bo.length cO, .slice aE h.ed.length cE] 29) = w4 at *
  generalize w3.heap.size = C at *
  clear K x3
  go_wp2
  go_loopw [4] (fun i wr => ∃ k : Nat, k ≤ h.hs.ms.length ∧ i = .int .i64 k ∧ KBox H3 wz.heap.size wr C (.slice aM h.hs.ms.length cM) (.slice aB h.hs.bs.length cB) (.slice aT h.hs.ts.length cT) (.slice aO h.bo.length cO) (.slice aE h.ed.length cE) (calmTo h k) ∧ Ext w H wr H3 ∧ Rdy6 R 29 wr) (fun i _ => h.hs.ms.length - (intOf i).toNat)
  case atStart => exact ⟨0, Nat.zero_le _, rfl, by rw [calmTo_zero]; exact hb4, x4, hr4⟩
  case round =>
    clear hb4 x4 hr4
    obtain ⟨k, hk, rfl, hb4, x4, hr4⟩ := hrel
    have hw4 := x4.holds
    obtain ⟨c0, c1, c2, c3, c4, c5⟩ := hb4.cells
    by_cases hlk : k < h.hs.ms.length
    · obtain ⟨m, hm⟩ := At.mk hlk
      obtain ⟨g, cg, heg, ⟨i1, i2, i3⟩, q0, q1, q2, hf, hgb, hgH, hgl, hgC, hset⟩ := hb4.setM (calmTo_at hm)
      rw [calmTo_len] at heg
      cases heg
      have hs3 := (hset { m with s := 0 } i1 i2 (show I64 0 from ⟨by omega, by omega⟩)).alloc (.cells #[.int .i64 m.r, .int .i64 m.p, .int .i64 0] 97)
      rw [calmTo_succ hm] at hs3
      have x5 := (((x4.setCell (a := ⟨g, k * 3, none⟩) (Nat.le_trans hwb hgb) hgH (.int .i64 m.r)).setCell (a := ⟨g, k * 3 + 1, none⟩) (Nat.le_trans hwb hgb) hgH (.int .i64 m.p)).setCell (a := ⟨g, k * 3 + 2, none⟩) (Nat.le_trans hwb hgb) hgH (.int .i64 0)).alloc (.cells #[.int .i64 m.r, .int .i64 m.p, .int .i64 0] 97)
      have hr5 : Rdy6 R 29 ((((wr.setCell ⟨g, k * 3, none⟩ (.int .i64 m.r)).setCell ⟨g, k * 3 + 1, none⟩ (.int .i64 m.p)).setCell ⟨g, k * 3 + 2, none⟩ (.int .i64 0)).alloc (.cells #[.int .i64 m.r, .int .i64 m.p, .int .i64 0] 97)) := by
        refine Rdy6.alloc ?_ _
        obtain ⟨a, b, c, d, e, f, hr⟩ := hr4
        have hne : R ≠ g := by omega
        exact ⟨a, b, c, d, e, f, by rw [heap_setCell_off _ _ _ hne, heap_setCell_off _ _ _ hne, heap_setCell_off _ _ _ hne]; exact hr⟩
      have hC := hb4.lt
      have hf0 := hf (k * 3)
      have hf1 := hf (k * 3 + 1)
      have hf2 := hf (k * 3 + 2)
      clear hset hf
      replace hs3 := Lib.hid hs3
      replace x5 := Lib.hid x5
      replace hr5 := Lib.hid hr5
      go_wp2
      go_roundw
      case rel => exact ⟨k + 1, by omega, by go_num, hs3.out, x5.out, hr5.out⟩
      case measure => simp [intOf]; omega
    · have hke : k = h.hs.ms.length := by omega
      rw [hke, calmTo_end] at hb4
      have hr0' := hr4
      obtain ⟨r0, hr0⟩ := hr4.cell 0 (by omega)
      obtain ⟨r1, hr1⟩ := hr4.cell 1 (by omega)
      obtain ⟨r2, hr2⟩ := hr4.cell 2 (by omega)
      obtain ⟨r3, hr3⟩ := hr4.cell 3 (by omega)
      obtain ⟨r4, hr4'⟩ := hr4.cell 4 (by omega)
      obtain ⟨r5, hr5'⟩ := hr4.cell 5 (by omega)
      have f0 := hr4.fz 0
      have f1 := hr4.fz 1
      have f2 := hr4.fz 2
      have f3 := hr4.fz 3
      have f4 := hr4.fz 4
      have f5 := hr4.fz 5
      have c3' : wr.cell? ⟨C, 3, none⟩ = some (.int .i64 h.hs.ch) := c3
      obtain ⟨hout, H7, x7, hh7⟩ := hb4.out x4 hr4 hRn3 hwb hRlt hRb
      replace hout := Lib.hid hout
      replace x7 := Lib.hid x7
      replace hh7 := Lib.hid hh7
      clear c3
      go_wp2
      refine bodyPost_ret (results_cell_row rfl _ _ R 29 _ (0, 0) _ rfl hout.out Tryz.underlying29 rfl (by kernel_rfl)) rfl ?_
      exact ⟨_, _, _, _, _, H7, rfl, x7.out, hh7.out⟩

end Go.Proofs.YtngdppajailpcaaGreat

namespace Go.Proofs.YtngdppajailpcaaGreat
open Go.RowKit

attribute [local go_sem] Holds.drew Holds.alloc Holds.drewN WB.holds Oper.semAt_some FW_fn FW_dep FW_round run_loadShV
attribute [local go_sem ↓] loadAt_sh

set_option maxHeartbeats 4000000 in
theorem indexM1_any (va : Value) (xs : List Int) (p : Int → Bool) (H : Snap) (w : World) (hw : Holds H w) (ha : Sl H va xs)
    (hcall : Hid (∀ x ∈ xs, ∀ w, Holds H w → Calls Tryz.prog 119 #[.int .i64 x] w (PostV w (.bool (p x))))) :
    Calls Tryz.prog 135 #[va, .func (.func 119) #[] #[]] w (idxPostB w (xs.any p) xs.length) := by
  obtain ⟨aa, ca, rfl, ha1, ha2⟩ := ha.form
  go_enter Tryz.func135, Tryz.ntmps135
  go_wp2
  go_loopw [5, 8] (fun _ i wr => ∃ k : Nat, k ≤ xs.length ∧ i = .int .i64 k ∧ Hid ((xs.take k).any p = false) ∧ Ext w H wr H) (fun _ i _ => xs.length - (intOf i).toNat)
  case atStart => exact ⟨0, Nat.zero_le _, rfl, rfl, Ext.refl hw⟩
  case round =>
    obtain ⟨k, hk, rfl, hok, hxr⟩ := hrel
    have hwr := hxr.holds
    by_cases hlk : k < xs.length
    · obtain ⟨x, hxk⟩ := At.mk hlk
      obtain ⟨b, o, cc, he, hi, hr⟩ := ha.int hxk
      cases he
      have hm := hxk.mem
      cases g : p x
      all_goals have g' := Lib.hid g
      · go_wp2_with (first | (go_at_call 119; refine (hcall.out x hm _ hwr).mono ?_; rintro e w' ⟨rfl, hb2⟩; rw [g'.out]))
        go_roundw
        case rel => exact ⟨k + 1, by omega, by go_num, by show _ = _; rw [hxk.take, List.any_append, hok.out]; simp only [List.any_cons, List.any_nil, g'.out]; rfl, hxr.step (hb2.mono hxr.below.size) (hwr.below hb2)⟩
        case measure => simp [intOf]; omega
      · go_wp2_with (first | (go_at_call 119; refine (hcall.out x hm _ hwr).mono ?_; rintro e w' ⟨rfl, hb2⟩; rw [g'.out]))
        go_ret
        exact ⟨k, rfl, (hxr.step (hb2.mono hxr.below.size) (hwr.below hb2)).below, by symm; rw [decide_eq_true (by omega), List.any_eq_true]; exact ⟨x, hxk.mem, g'.out⟩, by omega, by omega⟩
    · go_wp2_with fail
      go_ret
      have h1 := hok.out
      rw [take_all (xs := xs) (k := k) (by omega)] at h1
      exact ⟨-1, rfl, hxr.below, by rw [h1]; rfl, by omega, by omega⟩

theorem containsM1_any (va : Value) (xs : List Int) (p : Int → Bool) (H : Snap) (w : World) (hw : Holds H w) (ha : Sl H va xs)
    (hcall : Hid (∀ x ∈ xs, ∀ w, Holds H w → Calls Tryz.prog 119 #[.int .i64 x] w (PostV w (.bool (p x))))) :
    Calls Tryz.prog 107 #[va, .func (.func 119) #[] #[]] w (PostV w (.bool (xs.any p))) := by
  go_enter Tryz.func107, Tryz.ntmps107
  go_wp2_with (first | (go_at_call 135; refine (indexM1_any _ _ _ _ _ hw ha hcall).mono ?_; rintro e w' ⟨r, rfl, hb2, hr1, hr2, hr3⟩))
  go_ret
  exact ⟨ret_bool (by rw [← hr1]), hb2⟩

set_option maxHeartbeats 4000000 in
theorem indexM2_any (B : Nat) (va : Value) (xs : List Bund) (p : Bund → Bool) (H : Snap) (w : World) (hw : Holds H w) (ha : Sl H va xs)
    (hcall : Hid (∀ x ∈ xs, ∀ w, Holds H w → Calls Tryz.prog 120 #[.agg #[.int .i64 x.t, .int .i64 x.h, .int .i64 x.e], .pointer (some ⟨B, 0, none⟩)] w (PostV w (.bool (p x))))) :
    Calls Tryz.prog 137 #[va, .func (.func 120) #[] #[.pointer (some ⟨B, 0, none⟩)]] w (idxPostB w (xs.any p) xs.length) := by
  obtain ⟨aa, ca, rfl, ha1, ha2⟩ := ha.form
  go_enter Tryz.func137, Tryz.ntmps137
  go_wp2
  go_loopw [5, 8] (fun _ i wr => ∃ k : Nat, k ≤ xs.length ∧ i = .int .i64 k ∧ Hid ((xs.take k).any p = false) ∧ Ext w H wr H) (fun _ i _ => xs.length - (intOf i).toNat)
  case atStart => exact ⟨0, Nat.zero_le _, rfl, rfl, Ext.refl hw⟩
  case round =>
    obtain ⟨k, hk, rfl, hok, hxr⟩ := hrel
    have hwr := hxr.holds
    by_cases hlk : k < xs.length
    · obtain ⟨x, hxk⟩ := At.mk hlk
      obtain ⟨b, o, cc, he, ⟨hi1, hi2, hi3⟩, hr1, hr2, hr3⟩ := ha.bund hxk
      cases he
      have hm := hxk.mem
      cases g : p x
      all_goals have g' := Lib.hid g
      · go_wp2_with (first | (go_at_call 120; refine (hcall.out x hm _ hwr).mono ?_; rintro e w' ⟨rfl, hb2⟩; rw [g'.out]))
        go_roundw
        case rel => exact ⟨k + 1, by omega, by go_num, by show _ = _; rw [hxk.take, List.any_append, hok.out]; simp only [List.any_cons, List.any_nil, g'.out]; rfl, hxr.step (hb2.mono hxr.below.size) (hwr.below hb2)⟩
        case measure => simp [intOf]; omega
      · go_wp2_with (first | (go_at_call 120; refine (hcall.out x hm _ hwr).mono ?_; rintro e w' ⟨rfl, hb2⟩; rw [g'.out]))
        go_ret
        exact ⟨k, rfl, (hxr.step (hb2.mono hxr.below.size) (hwr.below hb2)).below, by symm; rw [decide_eq_true (by omega), List.any_eq_true]; exact ⟨x, hxk.mem, g'.out⟩, by omega, by omega⟩
    · go_wp2_with fail
      go_ret
      have h1 := hok.out
      rw [take_all (xs := xs) (k := k) (by omega)] at h1
      exact ⟨-1, rfl, hxr.below, by rw [h1]; rfl, by omega, by omega⟩

theorem containsM2_any (B : Nat) (va : Value) (xs : List Bund) (p : Bund → Bool) (H : Snap) (w : World) (hw : Holds H w) (ha : Sl H va xs)
    (hcall : Hid (∀ x ∈ xs, ∀ w, Holds H w → Calls Tryz.prog 120 #[.agg #[.int .i64 x.t, .int .i64 x.h, .int .i64 x.e], .pointer (some ⟨B, 0, none⟩)] w (PostV w (.bool (p x))))) :
    Calls Tryz.prog 111 #[va, .func (.func 120) #[] #[.pointer (some ⟨B, 0, none⟩)]] w (PostV w (.bool (xs.any p))) := by
  go_enter Tryz.func111, Tryz.ntmps111
  go_wp2_with (first | (go_at_call 137; refine (indexM2_any _ _ _ _ _ _ hw ha hcall).mono ?_; rintro e w' ⟨r, rfl, hb2, hr1, hr2, hr3⟩))
  go_ret
  exact ⟨ret_bool (by rw [← hr1]), hb2⟩

set_option maxHeartbeats 4000000 in
theorem indexM4_any (c : Cnt) (va : Value) (xs : List Shf) (p : Shf → Bool) (H : Snap) (w : World) (hw : Holds H w) (ha : Sl H va xs)
    (hcall : Hid (∀ x ∈ xs, ∀ w, Holds H w → Calls Tryz.prog 96 #[.agg (shC c), .agg (shC x.c)] w (PostV w (.bool (p x))))) :
    Calls Tryz.prog 125 #[va, .func (.func 96) #[.agg (shC c)] #[]] w (idxPostB w (xs.any p) xs.length) := by
  obtain ⟨aa, ca, rfl, ha1, ha2⟩ := ha.form
  go_enter Tryz.func125, Tryz.ntmps125
  go_wp2
  go_loopw [5, 8] (fun _ i wr => ∃ k : Nat, k ≤ xs.length ∧ i = .int .i64 k ∧ Hid ((xs.take k).any p = false) ∧ Ext w H wr H) (fun _ i _ => xs.length - (intOf i).toNat)
  case atStart => exact ⟨0, Nat.zero_le _, rfl, rfl, Ext.refl hw⟩
  case round =>
    obtain ⟨k, hk, rfl, hok, hxr⟩ := hrel
    have hwr := hxr.holds
    by_cases hlk : k < xs.length
    · obtain ⟨x, hxk⟩ := At.mk hlk
      obtain ⟨b, o, cc, he, hcn, hmid⟩ := ha.shf hxk
      cases he
      have hsz : (shC x.c).size = 12 := by rw [shC_size, hcn.len]
      have hm := hxk.mem
      cases g : p x
      all_goals have g' := Lib.hid g
      · go_wp2_with (first | (go_at_call 96; refine (hcall.out x hm _ hwr).mono ?_; rintro e w' ⟨rfl, hb2⟩; rw [g'.out]))
        go_roundw
        case rel => exact ⟨k + 1, by omega, by go_num, by show _ = _; rw [hxk.take, List.any_append, hok.out]; simp only [List.any_cons, List.any_nil, g'.out]; rfl, hxr.step (hb2.mono hxr.below.size) (hwr.below hb2)⟩
        case measure => simp [intOf]; omega
      · go_wp2_with (first | (go_at_call 96; refine (hcall.out x hm _ hwr).mono ?_; rintro e w' ⟨rfl, hb2⟩; rw [g'.out]))
        go_ret
        exact ⟨k, rfl, (hxr.step (hb2.mono hxr.below.size) (hwr.below hb2)).below, by symm; rw [decide_eq_true (by omega), List.any_eq_true]; exact ⟨x, hxk.mem, g'.out⟩, by omega, by omega⟩
    · go_wp2_with fail
      go_ret
      have h1 := hok.out
      rw [take_all (xs := xs) (k := k) (by omega)] at h1
      exact ⟨-1, rfl, hxr.below, by rw [h1]; rfl, by omega, by omega⟩

theorem containsM4_any (c : Cnt) (va : Value) (xs : List Shf) (p : Shf → Bool) (H : Snap) (w : World) (hw : Holds H w) (ha : Sl H va xs)
    (hcall : Hid (∀ x ∈ xs, ∀ w, Holds H w → Calls Tryz.prog 96 #[.agg (shC c), .agg (shC x.c)] w (PostV w (.bool (p x))))) :
    Calls Tryz.prog 95 #[va, .func (.func 96) #[.agg (shC c)] #[]] w (PostV w (.bool (xs.any p))) := by
  go_enter Tryz.func95, Tryz.ntmps95
  go_wp2_with (first | (go_at_call 125; refine (indexM4_any _ _ _ _ _ _ hw ha hcall).mono ?_; rintro e w' ⟨r, rfl, hb2, hr1, hr2, hr3⟩))
  go_ret
  exact ⟨ret_bool (by rw [← hr1]), hb2⟩

end Go.Proofs.YtngdppajailpcaaGreat
