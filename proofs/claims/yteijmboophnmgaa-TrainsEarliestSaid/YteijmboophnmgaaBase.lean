/- The layer on which the walks rest: snapshots of frozen blocks, how Go data are laid in them, what a call leaves. It speaks of no program. The base layer, the second part: appends inside a region that draws its order; slices of slices. It speaks of no program. The base layer, the third part: several slices of the call's own, of different elements. -/
import Derived.WalkKit
import Derived.WalkSpells
import Derived.WalkLawsBesides
import Derived.Maps.AppendAt
import Derived.Lib.Hide
import Derived.Deep.QuietTactic
import Derived.BigQuiet
import Derived.Deep.RegionHeld3
import Derived.Test.YteijmboophnmgaaPlain
import Derived.Deep.DeepCutAuto

namespace Go.Proofs.Yteijmboophnmgaa
open Go.RowKit

/-- A snapshot: blocks that are never written again, and what they hold. -/
abbrev Snap := Nat → Option Obj

structure Holds (H : Snap) (w : World) : Prop where
  at_ : ∀ b o, H b = some o → w.heap[b]? = some o

def SLe (H H' : Snap) : Prop := ∀ b o, H b = some o → H' b = some o

theorem SLe.refl (H : Snap) : SLe H H := fun _ _ h => h
theorem SLe.trans {A B C : Snap} (h : SLe A B) (k : SLe B C) : SLe A C := fun b o e => k b o (h b o e)

theorem Holds.lt {H : Snap} {w : World} (h : Holds H w) {b : Nat} {o : Obj} (e : H b = some o) : b < w.heap.size := by
  have h1 := h.at_ b o e
  rcases Nat.lt_or_ge b w.heap.size with h' | h'
  · exact h'
  · simp [Array.getElem?_eq_none h'] at h1

theorem Holds.none_of_ge {H : Snap} {w : World} (h : Holds H w) {b : Nat} (hb : w.heap.size ≤ b) : H b = none := by
  cases e : H b with
  | none => rfl
  | some o => have := h.lt e; omega

theorem Holds.below {H : Snap} {w w' : World} (h : Holds H w) (hb : Below w.heap.size w w') : Holds H w' :=
  ⟨fun b o e => (hb.block b (h.lt e)).trans (h.at_ b o e)⟩

theorem Holds.mono {H H' : Snap} {w : World} (h : Holds H' w) (k : SLe H H') : Holds H w := ⟨fun b o e => h.at_ b o (k b o e)⟩

theorem Holds.drew {H : Snap} {w : World} (h : Holds H w) : Holds H w.drew := ⟨h.at_⟩
theorem Holds.drewN {H : Snap} {w : World} (h : Holds H w) (n : Nat) : Holds H (w.drewN n) := ⟨h.at_⟩
theorem Holds.alloc {H : Snap} {w : World} (h : Holds H w) (o : Obj) : Holds H (w.alloc o) :=
  h.below ((Below.refl _ _).alloc (Nat.le_refl _) o)
theorem Holds.setCell {H : Snap} {w : World} (h : Holds H w) {a : Addr} (ha : H a.block = none) (v : Value) : Holds H (w.setCell a v) :=
  ⟨fun b o e => by
    have hne : b ≠ a.block := fun hb => by rw [hb, ha] at e; cases e
    exact (Below.heap_setCell w a v b hne).trans (h.at_ b o e)⟩
theorem Holds.grown {H : Snap} {w w' : World} {row : Option Nat} (h : Holds H w) (hg : w.grownBy w' row) (hr : ∀ k, row = some k → H k = none) : Holds H w' :=
  ⟨fun b o e => (hg.block b (h.lt e) (fun hb => by rw [hr b hb.symm] at e; cases e)).trans (h.at_ b o e)⟩

/-- The snapshot with one block more. -/
def Snap.put (H : Snap) (b : Nat) (o : Obj) : Snap := fun k => if k = b then some o else H k

theorem Snap.put_same (H : Snap) (b : Nat) (o : Obj) : H.put b o b = some o := by simp [Snap.put]
theorem Snap.put_other (H : Snap) {b k : Nat} (o : Obj) (h : k ≠ b) : H.put b o k = H k := by simp [Snap.put, h]
theorem Snap.le_put {H : Snap} {b : Nat} (h : H b = none) (o : Obj) : SLe H (H.put b o) := fun k o' e => by
  have : k ≠ b := fun hk => by rw [hk, h] at e; cases e
  rw [Snap.put_other _ _ this]; exact e
theorem Holds.put {H : Snap} {w : World} (h : Holds H w) {b : Nat} {o : Obj} (e : w.heap[b]? = some o) : Holds (H.put b o) w :=
  ⟨fun k o' ek => by
    by_cases hk : k = b
    · subst hk; rw [Snap.put_same] at ek; cases ek; exact e
    · rw [Snap.put_other _ _ hk] at ek; exact h.at_ k o' ek⟩

/-- From (w, H) to (w', H'): nothing old has turned; the snapshot has grown by new blocks alone. -/
structure Ext (w : World) (H : Snap) (w' : World) (H' : Snap) : Prop where
  below : Below w.heap.size w w'
  holds : Holds H' w'
  same : ∀ b, b < w.heap.size → H' b = H b

theorem Ext.refl {w : World} {H : Snap} (h : Holds H w) : Ext w H w H := ⟨Below.refl _ _, h, fun _ _ => rfl⟩
theorem Ext.trans {w w1 w2 : World} {H H1 H2 : Snap} (h : Ext w H w1 H1) (k : Ext w1 H1 w2 H2) : Ext w H w2 H2 :=
  ⟨h.below.trans (k.below.mono h.below.size), k.holds, fun b hb => (k.same b (Nat.lt_of_lt_of_le hb h.below.size)).trans (h.same b hb)⟩
theorem Ext.le {w w' : World} {H H' : Snap} (h : Ext w H w' H') (hw : Holds H w) : SLe H H' := fun b _o e => (h.same b (hw.lt e)).trans e
theorem Ext.old {w w' : World} {H H' : Snap} (h : Ext w H w' H') (hw : Holds H w) : Holds H w' := h.holds.mono (h.le hw)
/-- A step that leaves all that was there when the call began; the snapshot stays. -/
theorem Ext.step {w w1 w2 : World} {H H1 : Snap} (h : Ext w H w1 H1) (k : Below w.heap.size w1 w2) (hh : Holds H1 w2) : Ext w H w2 H1 :=
  ⟨h.below.trans k, hh, h.same⟩
theorem Ext.drew {w w1 : World} {H H1 : Snap} (h : Ext w H w1 H1) : Ext w H w1.drew H1 := ⟨h.below.drew, h.holds.drew, h.same⟩
theorem Ext.drewN {w w1 : World} {H H1 : Snap} (h : Ext w H w1 H1) (n : Nat) : Ext w H (w1.drewN n) H1 := ⟨⟨h.below.os, h.below.tape, h.below.output, h.below.size, h.below.block⟩, h.holds.drewN n, h.same⟩
theorem Ext.alloc {w w1 : World} {H H1 : Snap} (h : Ext w H w1 H1) (o : Obj) : Ext w H (w1.alloc o) H1 :=
  ⟨h.below.alloc h.below.size o, h.holds.alloc o, h.same⟩
theorem Ext.setCell {w w1 : World} {H H1 : Snap} (h : Ext w H w1 H1) {a : Addr} (hb : w.heap.size ≤ a.block) (ha : H1 a.block = none) (v : Value) : Ext w H (w1.setCell a v) H1 :=
  ⟨h.below.setCell hb v, h.holds.setCell ha v, h.same⟩
theorem Ext.grown {w w1 w2 : World} {H H1 : Snap} {row : Option Nat} (h : Ext w H w1 H1) (hg : w1.grownBy w2 row) (hb : ∀ k, row = some k → w.heap.size ≤ k) (hr : ∀ k, row = some k → H1 k = none) : Ext w H w2 H1 :=
  ⟨h.below.grown hg h.below.size hb, h.holds.grown hg hr, h.same⟩
/-- A block of the call's own is frozen. -/
theorem Ext.freeze {w w1 : World} {H H1 : Snap} (h : Ext w H w1 H1) {b : Nat} {o : Obj} (hb : w.heap.size ≤ b) (e : w1.heap[b]? = some o) : Ext w H w1 (H1.put b o) :=
  ⟨h.below, h.holds.put e, fun k hk => by rw [Snap.put_other _ _ (by omega)]; exact h.same k hk⟩

theorem bcell {W w1 : World} (hb : Below W.heap.size W w1) : ∀ b o, b < W.heap.size → w1.cell? ⟨b, o, none⟩ = W.cell? ⟨b, o, none⟩ := fun b o h => hb.cell (p := ⟨b, o, none⟩) h
theorem bfree {W w1 : World} (hb : Below W.heap.size W w1) : ∀ b o, b < W.heap.size → w1.frozen? ⟨b, o, none⟩ = W.frozen? ⟨b, o, none⟩ := fun b o h => hb.frozen (p := ⟨b, o, none⟩) h

/-- What a call leaves: a value, and nothing old turned. -/
def Post (w : World) (H : Snap) (R : Value → Snap → Prop) (e : Ending) (w' : World) : Prop :=
  ∃ v H', e = .returned v ∧ Ext w H w' H' ∧ R v H'
/-- .. a known value. -/
def PostV (w : World) (v : Value) (e : Ending) (w' : World) : Prop := e = .returned v ∧ Below w.heap.size w w'

theorem ret_int {k : IntKind} {a b : Int} (h : a = b) : Ending.returned (.int k a) = .returned (.int k b) := by rw [h]
theorem ret_bool {a b : Bool} (h : a = b) : Ending.returned (.bool a) = .returned (.bool b) := by rw [h]
theorem nat_i64 {a b : Nat} (h : a = b) : Value.int .i64 (a : Int) = .int .i64 (b : Int) := by rw [h]

/-- How data of a type are laid. -/
class Enc (α : Type) where
  sz : Nat
  by_ : Nat
  rep : Snap → α → List Value → Prop
  len : ∀ {H : Snap} {x : α} {cs : List Value}, rep H x cs → cs.length = sz
  mono : ∀ {H H' : Snap} {x : α} {cs : List Value}, SLe H H' → rep H x cs → rep H' x cs
  one : ∀ {H : Snap} {x : α} {cs : List Value}, rep H x cs → ∀ u ∈ cs, u.oneCell' = true

def I64 (x : Int) : Prop := -9223372036854775808 ≤ x ∧ x ≤ 9223372036854775807

instance : Enc Int where
  sz := 1
  by_ := 8
  rep := fun _ x cs => cs = [.int .i64 x] ∧ I64 x
  len := fun h => by rw [h.1]; rfl
  mono := fun _ h => h
  one := fun h u hu => by rw [h.1] at hu; simp at hu; subst hu; rfl

section
variable {α : Type} [Enc α]

def reps (H : Snap) : List α → List Value → Prop
  | [], cs => cs = []
  | x :: xs, cs => ∃ c1 c2, cs = c1 ++ c2 ∧ Enc.rep H x c1 ∧ reps H xs c2

theorem reps.len {H : Snap} : ∀ {xs : List α} {cs : List Value}, reps H xs cs → cs.length = xs.length * Enc.sz α
  | [], _, h => by simp [show _ = [] from h]
  | x :: xs, _, ⟨c1, c2, e, h1, h2⟩ => by
    rw [e, List.length_append, Enc.len h1, reps.len h2, List.length_cons, Nat.add_mul, Nat.one_mul, Nat.add_comm]
theorem reps.mono {H H' : Snap} (k : SLe H H') : ∀ {xs : List α} {cs : List Value}, reps H xs cs → reps H' xs cs
  | [], _, h => h
  | _ :: _, _, ⟨c1, c2, e, h1, h2⟩ => ⟨c1, c2, e, Enc.mono k h1, reps.mono k h2⟩
theorem reps.one {H : Snap} : ∀ {xs : List α} {cs : List Value}, reps H xs cs → ∀ u ∈ cs, u.oneCell' = true
  | [], _, h => by rw [show _ = [] from h]; simp
  | _ :: _, _, ⟨c1, c2, e, h1, h2⟩ => fun u hu => by
    rw [e, List.mem_append] at hu
    exact hu.elim (Enc.one h1 u) (reps.one h2 u)
theorem reps.append {H : Snap} : ∀ {xs ys : List α} {cs ds : List Value}, reps H xs cs → reps H ys ds → reps H (xs ++ ys) (cs ++ ds)
  | [], _, _, _, h, k => by rw [show _ = [] from h]; exact k
  | _ :: _, _, _, _, ⟨c1, c2, e, h1, h2⟩, k => ⟨c1, c2 ++ _, by rw [e, List.append_assoc], h1, reps.append h2 k⟩
theorem reps.single {H : Snap} {x : α} {cs : List Value} (h : Enc.rep H x cs) : reps H [x] cs := ⟨cs, [], by simp, h, rfl⟩
theorem reps.split {H : Snap} : ∀ {xs ys : List α} {cs : List Value}, reps H (xs ++ ys) cs → ∃ c1 c2, cs = c1 ++ c2 ∧ reps H xs c1 ∧ reps H ys c2
  | [], _, cs, h => ⟨[], cs, rfl, rfl, h⟩
  | _ :: xs, _, _, ⟨c1, c2, e, h1, h2⟩ => by
    obtain ⟨d1, d2, e2, k1, k2⟩ := reps.split (xs := xs) h2
    exact ⟨c1 ++ d1, d2, by rw [e, e2, List.append_assoc], ⟨c1, d1, rfl, h1, k1⟩, k2⟩
/-- The element at a place, and its cells. -/
theorem reps.get {H : Snap} : ∀ {xs : List α} {cs : List Value} {k : Nat} {x : α}, reps H xs cs → xs[k]? = some x →
    ∃ ds, Enc.rep H x ds ∧ ∀ (j : Nat) (u : Value), ds[j]? = some u → cs[k * Enc.sz α + j]? = some u
  | [], _, _, _, _, h => by simp at h
  | y :: xs, _, 0, x, ⟨c1, c2, e, h1, h2⟩, h => by
    simp at h; subst h
    exact ⟨c1, h1, fun j u hu => by rw [e, Nat.zero_mul, Nat.zero_add]; rw [List.getElem?_append_left (List.getElem?_eq_some_iff.1 hu).1]; exact hu⟩
  | y :: xs, _, k + 1, x, ⟨c1, c2, e, h1, h2⟩, h => by
    simp at h
    obtain ⟨ds, hd, hj⟩ := reps.get h2 h
    refine ⟨ds, hd, fun j u hu => ?_⟩
    have hl := Enc.len h1
    rw [e, List.getElem?_append_right (by rw [hl, Nat.add_mul]; omega), hl]
    have : (k + 1) * Enc.sz α + j - Enc.sz α = k * Enc.sz α + j := by rw [Nat.add_mul]; omega
    rw [this]; exact hj j u hu

/-- A slice value holds a list, in frozen blocks. -/
def Sl (H : Snap) (v : Value) (xs : List α) : Prop :=
  ∃ a c, v = .slice a xs.length c ∧ xs.length ≤ c ∧ c ≤ 9223372036854775807 ∧ xs.length * Enc.by_ α ≤ 140737488355328 ∧
    (xs = [] ∨ ∃ b o cur e fr, a = some ⟨b, o, none⟩ ∧ H b = some (.cells cur e fr) ∧ o + xs.length * Enc.sz α ≤ cur.size ∧ reps H xs ((cur.toList.drop o).take (xs.length * Enc.sz α)))

theorem Sl.mono {H H' : Snap} (k : SLe H H') {v : Value} {xs : List α} (h : Sl H v xs) : Sl H' v xs := by
  obtain ⟨a, c, h1, h2, h3, h4, h5⟩ := h
  refine ⟨a, c, h1, h2, h3, h4, ?_⟩
  rcases h5 with h5 | ⟨b, o, cur, e, fr, ha, hb, ho, hr⟩
  · exact .inl h5
  · exact .inr ⟨b, o, cur, e, fr, ha, k _ _ hb, ho, hr.mono k⟩
theorem Sl.form {H : Snap} {v : Value} {xs : List α} (h : Sl H v xs) : ∃ a c, v = .slice a xs.length c ∧ xs.length ≤ c ∧ c ≤ 9223372036854775807 := by
  obtain ⟨a, c, h1, h2, h3, _⟩ := h
  exact ⟨a, c, h1, h2, h3⟩
theorem Sl.bytes {H : Snap} {v : Value} {xs : List α} (h : Sl H v xs) : xs.length * Enc.by_ α ≤ 140737488355328 := by
  obtain ⟨a, c, _, _, _, h4, _⟩ := h; exact h4
theorem Sl.le {H : Snap} {v : Value} {xs : List α} (h : Sl H v xs) : xs.length ≤ 9223372036854775807 := by
  obtain ⟨a, c, _, h2, h3, _⟩ := h; omega
theorem Sl.nil (H : Snap) (a : Option Addr) {c : Nat} (hc : c ≤ 9223372036854775807) : Sl H (.slice a 0 c) ([] : List α) :=
  ⟨a, c, rfl, Nat.zero_le _, hc, by simp, .inl rfl⟩
theorem Sl.nil0 (H : Snap) : Sl H (.slice none 0 0) ([] : List α) := Sl.nil H none (by omega)

theorem Sl.get {H : Snap} {v : Value} {xs : List α} {k : Nat} {x : α} (h : Sl H v xs) (hx : At xs k x) :
    ∃ b o c ds, v = .slice (some ⟨b, o, none⟩) xs.length c ∧ Enc.rep H x ds ∧ ∀ w, Holds H w → ∀ (j : Nat) (u : Value), ds[j]? = some u → w.cell? ⟨b, o + k * Enc.sz α + j, none⟩ = some u := by
  obtain ⟨a, c, h1, h2, h3, _, h5⟩ := h
  rcases h5 with h5 | ⟨b, o, cur, e, fr, ha, hb, ho, hr⟩
  · subst h5; simp [At] at hx
  · obtain ⟨ds, hd, hj⟩ := reps.get hr hx
    refine ⟨b, o, c, ds, by rw [h1, ha], hd, fun w hw j u hu => ?_⟩
    have h6 := hj j u hu
    rw [List.getElem?_take] at h6
    split at h6
    · rw [List.getElem?_drop] at h6
      rw [cell_of_row w b _ cur e fr (hw.at_ _ _ hb)]
      rw [Nat.add_assoc]
      simpa using h6
    · cases h6

instance instEncList : Enc (List α) where
  sz := 1
  by_ := 24
  rep := fun H x cs => ∃ v, cs = [v] ∧ Sl H v x
  len := fun ⟨v, e, _⟩ => by rw [e]; rfl
  mono := fun k ⟨v, e, h⟩ => ⟨v, e, h.mono k⟩
  one := fun ⟨v, e, h⟩ u hu => by
    rw [e] at hu; simp at hu; subst hu
    obtain ⟨a, c, rfl, _⟩ := h.form
    rfl
end

theorem Sl.int {H : Snap} {v : Value} {xs : List Int} {k : Nat} {x : Int} (h : Sl H v xs) (hx : At xs k x) :
    ∃ b o c, v = .slice (some ⟨b, o, none⟩) xs.length c ∧ (-9223372036854775808 ≤ x ∧ x ≤ 9223372036854775807) ∧ ∀ w, Holds H w → w.cell? ⟨b, o + k, none⟩ = some (.int .i64 x) := by
  obtain ⟨b, o, c, ds, hv, ⟨hd, hi⟩, hc⟩ := h.get hx
  refine ⟨b, o, c, hv, hi, fun w hw => ?_⟩
  have := hc w hw 0 (.int .i64 x) (by rw [hd]; rfl)
  simpa [Enc.sz] using this

theorem Sl.list {α : Type} [Enc α] {H : Snap} {v : Value} {xs : List (List α)} {k : Nat} {x : List α} (h : Sl H v xs) (hx : At xs k x) :
    ∃ b o c u, v = .slice (some ⟨b, o, none⟩) xs.length c ∧ Sl H u x ∧ ∀ w, Holds H w → w.cell? ⟨b, o + k, none⟩ = some u := by
  obtain ⟨b, o, c, ds, hv, ⟨u, hd, hi⟩, hc⟩ := h.get hx
  refine ⟨b, o, c, u, hv, hi, fun w hw => ?_⟩
  have := hc w hw 0 u (by rw [hd]; rfl)
  simpa [Enc.sz] using this

/-! ### What the call itself builds -/

/-- The facts on an element's type. -/
structure ElemT (P : Program) (t e : TypeId) (α : Type) [Enc α] : Prop where
  und : P.underlying t = some (.slice e)
  inf : ∃ i z, P.info? e = some i ∧ i.zero = some z ∧ i.size = Enc.sz α ∧ i.bytes = Enc.by_ α ∧ z.cells.size = Enc.sz α
  pos : 0 < Enc.sz α

theorem ElemT.mk' {P : Program} {t e : TypeId} {α : Type} [Enc α] (z : Value) (hu : P.underlying t = some (.slice e)) (hi : (P.info? e).map (fun i => (i.zero, i.size, i.bytes)) = some (some z, Enc.sz α, Enc.by_ α)) (hz : z.cells.size = Enc.sz α) (hp : 0 < Enc.sz α) : ElemT P t e α := by
  obtain ⟨i, h1, h2⟩ := Option.map_eq_some_iff.1 hi
  simp only [Prod.mk.injEq] at h2
  exact ⟨hu, ⟨i, z, h1, h2.1, h2.2.1, h2.2.2, hz⟩, hp⟩

/-- A slice of the call's own (blocks from 'base' on): it may be appended to. -/
def Own {α : Type} [Enc α] (H : Snap) (base : Nat) (w : World) (e : TypeId) (v : Value) (xs : List α) : Prop :=
  ∃ cells, w.ownsRow base e (Enc.sz α) v xs.length cells ∧ reps H xs cells ∧ (∀ k, v.ownBlock = some k → H k = none) ∧ xs.length * Enc.by_ α ≤ 140737488355328

section
variable {α : Type} [Enc α] {P : Program} {H : Snap} {base : Nat} {w : World} {t e : TypeId} {v : Value} {xs ys : List α}

theorem Own.nil (H : Snap) (base : Nat) (w : World) (e : TypeId) : Own H base w e (.slice none 0 0) ([] : List α) :=
  ⟨[], World.ownsRow_nil w base e _, rfl, by simp [Value.ownBlock], by simp⟩
theorem Own.form (h : Own H base w e v xs) : ∃ a c, v = .slice a xs.length c ∧ xs.length ≤ c ∧ c ≤ 9223372036854775807 := by
  obtain ⟨cells, ⟨hl, ho⟩, _, _⟩ := h
  rcases ho with ⟨rfl, hn⟩ | ⟨g, cap, cur, rfl, _, _, hnc, hcm, _⟩
  · exact ⟨none, 0, by rw [hn], by omega, by omega⟩
  · exact ⟨_, cap, rfl, hnc, by simp only [maxLen] at hcm; omega⟩
theorem Own.len {a : Option Addr} {n c : Nat} (h : Own H base w e (.slice a n c) xs) : xs.length = n := by
  obtain ⟨a', c', e', _⟩ := h.form
  cases e'; rfl
theorem Own.kept {w' : World} {row : Option Nat} (h : Own H base w e v xs) (hg : w.grownBy w' row) (hne : v.ownBlock = none ∨ v.ownBlock ≠ row) : Own H base w' e v xs := by
  obtain ⟨cells, ho, hr⟩ := h
  exact ⟨cells, ho.kept hg hne, hr⟩
theorem Own.lt (h : Own H base w e v xs) : ∀ k, v.ownBlock = some k → base ≤ k ∧ k < w.heap.size := by
  obtain ⟨cells, ho, _⟩ := h; exact ho.lt
theorem Own.free (h : Own H base w e v xs) : ∀ k, v.ownBlock = some k → H k = none := by
  obtain ⟨cells, ho, _, hf, _⟩ := h; exact hf
theorem Own.ext {w' : World} {H' : Snap} (h : Own H base w e v xs) (hw : Holds H w) (hx : Ext w H w' H') : Own H' base w' e v xs := by
  obtain ⟨cells, ho, hr, hf, hb⟩ := h
  have hlt := ho.lt
  refine ⟨cells, ⟨ho.1, ?_⟩, hr.mono (hx.le hw), fun k hk => by rw [hx.same k (hlt k hk).2]; exact hf k hk, hb⟩
  rcases ho.2 with hn | ⟨g, cap, cur, rfl, hbg, hgg, rest⟩
  · exact .inl hn
  · exact .inr ⟨g, cap, cur, rfl, hbg, (hx.below.block g (Array.getElem?_eq_some_iff.1 hgg).1).trans hgg, rest⟩
theorem Own.alloc (h : Own H base w e v xs) (o : Obj) : Own H base (w.alloc o) e v xs := by
  obtain ⟨cells, ho, hr⟩ := h
  exact ⟨cells, ho.alloc o, hr⟩
theorem Own.drew (h : Own H base w e v xs) : Own H base w.drew e v xs := h
theorem Own.setCell {a : Addr} (h : Own H base w e v xs) (ha : v.ownBlock ≠ some a.block) (u : Value) : Own H base (w.setCell a u) e v xs := by
  obtain ⟨cells, ho, hr⟩ := h
  exact ⟨cells, ownsRow_setCell_other ho ha u, hr⟩
/-- What is the call's own is frozen: it is a slice like any other. -/
theorem Own.freeze (h : Own H base w e v xs) (hw : Holds H w) : ∃ H', SLe H H' ∧ Holds H' w ∧ Sl H' v xs ∧ ∀ b, v.ownBlock ≠ some b → H' b = H b := by
  obtain ⟨cells, ⟨hl, ho⟩, hr, hf, hb⟩ := h
  rcases ho with ⟨rfl, hn⟩ | ⟨g, cap, cur, rfl, _, hg, hnc, hcm, hcs, htake⟩
  · have hx : xs = [] := List.eq_nil_of_length_eq_zero hn
    subst hx
    exact ⟨H, SLe.refl H, hw, Sl.nil0 H, fun _ _ => rfl⟩
  · have hgH : H g = none := hf g rfl
    have hle := Snap.le_put hgH (.cells cur e (0, 0))
    refine ⟨H.put g (.cells cur e (0, 0)), hle, hw.put hg, ⟨some ⟨g, 0, none⟩, cap, rfl, hnc, by simp only [maxLen] at hcm; omega, hb, ?_⟩, fun b hb => Snap.put_other _ _ (fun e => hb (by simp [Value.ownBlock, e]))⟩
    refine .inr ⟨g, 0, cur, e, (0, 0), rfl, Snap.put_same _ _ _, ?_, ?_⟩
    · rw [hcs, Nat.zero_add]; exact Nat.mul_le_mul_right _ hnc
    · rw [List.drop_zero, htake]; exact hr.mono hle
/-- .. and the call's bargain is kept. -/
theorem Own.close {w0 : World} {H0 : Snap} (h : Own H w0.heap.size w e v xs) (hx : Ext w0 H0 w H) : ∃ H', Ext w0 H0 w H' ∧ SLe H H' ∧ Sl H' v xs ∧ ∀ b, v.ownBlock ≠ some b → H' b = H b := by
  obtain ⟨H', hle, hh, hs, hsame⟩ := h.freeze hx.holds
  refine ⟨H', ⟨hx.below, hh, fun b hb => ?_⟩, hle, hs, hsame⟩
  rw [hsame b (fun e => by have := (h.lt b e).1; omega)]
  exact hx.same b hb

theorem Sl.cells {u : Value} (hu : Sl H u ys) (hne : ys ≠ []) (hw : Holds H w) : ∃ a c cells, u = .slice (some a) ys.length c ∧ cells.length = ys.length * Enc.sz α ∧ reps H ys cells ∧ (∀ (j : Nat) (x : Value), cells[j]? = some x → w.cell? (a.add j) = some x) := by
  obtain ⟨a, c, rfl, _, _, _, h5⟩ := hu
  rcases h5 with h5 | ⟨b, o, cur, e', fr, rfl, hb, ho, hr⟩
  · exact absurd h5 hne
  · refine ⟨⟨b, o, none⟩, c, _, rfl, hr.len, hr, fun j x hx => ?_⟩
    rw [Addr.add_lit, cell_of_row w b _ cur e' fr (hw.at_ _ _ hb)]
    rw [List.getElem?_take] at hx
    split at hx
    · rw [List.getElem?_drop] at hx
      simpa using hx
    · cases hx

/-- 'append(v, u...)' onto a slice of the call's own. -/
theorem run_app (T : ElemT P t e α) (ty : TypeId) (hown : Own H base w e v xs) {u : Value} (hu : Sl H u ys) (hw : Holds H w) (hlen : (xs.length + ys.length) * Enc.by_ α ≤ 140737488355328) (h63 : xs.length + ys.length ≤ 9223372036854775807) (hb : base ≤ w.heap.size) :
    ∃ v' w', (Builtin.append_ #[t, t] ty #[v, u]).run P w = .ok v' w' ∧ Own H base w' e v' (xs ++ ys) ∧ w.grownBy w' v.ownBlock ∧ Holds H w' ∧ (v'.ownBlock = v.ownBlock ∨ v'.ownBlock = some w.heap.size) := by
  obtain ⟨i, z, hi, hz, hsz, hby, hzs⟩ := T.inf
  obtain ⟨cells, ho, hr, hf, hbv⟩ := hown
  by_cases hne : ys = []
  · subst hne
    obtain ⟨a, c, rfl, _, _, _, _⟩ := hu
    cases a with
    | none =>
      have hrun : (Builtin.append_ #[t, t] ty #[v, .slice none ([] : List α).length c]).run P w = .ok v w := by
        rcases ho.2 with ⟨rfl, hn⟩ | ⟨g, cap, cur, rfl, hbg, hg, hnc, hcm, hcs, htake⟩
        · simp [Builtin.append_, run_underlying T.und, sizeOf, typeInfo, hi, Builtin.lenOf, Builtin.firstCells]
        · simp [Builtin.append_, run_underlying T.und, sizeOf, typeInfo, hi, Builtin.lenOf, Builtin.firstCells, hnc, storeCells]
      exact ⟨v, w, hrun, ⟨cells, by simpa using ho, by simpa using hr, hf, by simpa using hbv⟩, ⟨rfl, rfl, rfl, Nat.le_refl _, fun _ _ _ => rfl⟩, hw, .inl rfl⟩
    | some a =>
      obtain ⟨v', w', hrun, ho', hg, _, hat⟩ := run_append_own_at (P := P) w base t ty e i z (Enc.sz α) (Enc.by_ α) T.und hi hz hsz hby hzs T.pos v xs.length cells ho a 0 c [] (by simp) (by simp) (by simp) (by simp only [maxLen]; simpa using h63) (by simpa using hlen) hb
      refine ⟨v', w', by simpa using hrun, ⟨cells, by simpa using ho', by simpa using hr, ?_, by simpa using hbv⟩, hg, hw.grown hg hf, hat⟩
      intro k hk
      rcases hat with h | h
      · exact hf k (h ▸ hk)
      · rw [h] at hk; simp only [Option.some.injEq] at hk; exact hw.none_of_ge (by omega)
  · obtain ⟨a, c, news, rfl, hl, hrn, hcell⟩ := hu.cells hne hw
    obtain ⟨v', w', hrun, ho', hg, _, hat⟩ := run_append_own_at (P := P) w base t ty e i z (Enc.sz α) (Enc.by_ α) T.und hi hz hsz hby hzs T.pos v xs.length cells ho a ys.length c news hl hcell hrn.one (by simp only [maxLen]; omega) hlen hb
    refine ⟨v', w', hrun, ⟨cells ++ news, by rw [List.length_append]; exact ho', hr.append hrn, ?_, by rw [List.length_append]; exact hlen⟩, hg, hw.grown hg hf, hat⟩
    intro k hk
    rcases hat with h | h
    · exact hf k (h ▸ hk)
    · rw [h] at hk; simp only [Option.some.injEq] at hk; exact hw.none_of_ge (by omega)

/-- 'append(v, x)': the one element lies in a block that has just been made. -/
theorem run_app1 (T : ElemT P t e α) (ty : TypeId) (hown : Own H base w e v xs) {x : α} {cs : List Value} {te : TypeId} (hx : Enc.rep H x cs) (hw : Holds H w) (hlen : (xs.length + 1) * Enc.by_ α ≤ 140737488355328) (h63 : xs.length + 1 ≤ 9223372036854775807) (hb : base ≤ w.heap.size) (c : Nat) :
    ∃ v' w', (Builtin.append_ #[t, t] ty #[v, .slice (some ⟨w.heap.size, 0, none⟩) 1 c]).run P (w.alloc (.cells cs.toArray te)) = .ok v' w' ∧ Own H base w' e v' (xs ++ [x]) ∧ (w.alloc (.cells cs.toArray te)).grownBy w' v.ownBlock ∧ Holds H w' ∧ (v'.ownBlock = v.ownBlock ∨ v'.ownBlock = some (w.heap.size + 1)) := by
  obtain ⟨i, z, hi, hz, hsz, hby, hzs⟩ := T.inf
  have hown1 := hown.alloc (.cells cs.toArray te)
  obtain ⟨cells, ho, hr, hf, hbv⟩ := hown1
  have hw1 := hw.alloc (.cells cs.toArray te)
  obtain ⟨v', w', hrun, ho', hg, _, hat⟩ := run_append_own_at (P := P) (w.alloc (.cells cs.toArray te)) base t ty e i z (Enc.sz α) (Enc.by_ α) T.und hi hz hsz hby hzs T.pos v xs.length cells ho ⟨w.heap.size, 0, none⟩ 1 c cs (by rw [Nat.one_mul]; exact Enc.len hx)
    (fun j u hu => by rw [Addr.add_lit, World.cell?_alloc_at _ _ _ _ rfl]; simpa using hu) (Enc.one hx) (by simp only [maxLen]; omega) hlen (by simp; omega)
  refine ⟨v', w', hrun, ⟨cells ++ cs, by rw [List.length_append]; exact ho', hr.append (reps.single hx), ?_, by rw [List.length_append]; exact hlen⟩, hg, hw1.grown hg hf, by simpa using hat⟩
  intro k hk
  rcases hat with h | h
  · exact hf k (h ▸ hk)
  · rw [h] at hk; simp only [World.size_alloc, Option.some.injEq] at hk; exact hw.none_of_ge (by omega)
end

section
variable {α : Type} [Enc α] {P : Program} {H : Snap} {base : Nat} {w : World} {t e : TypeId} {v : Value} {xs ys : List α} {ops : Array Oper} {rest : List Oper} {o : Oper} {a : Act} {Q : Exit → Act → World → Prop}

theorem wpList_app (T : ElemT P t e α) (hgd : o.guard = none) (s x : Operand) (ho : o.op = .call { callee := .builtin .append, args := #[s, x], argTypes := #[t, t] })
    (hs : a.eval s = v) (hown : Own H base w e v xs) {u : Value} (hx : a.eval x = u) (hu : Sl H u ys) (hw : Holds H w) (hlen : (xs.length + ys.length) * Enc.by_ α ≤ 140737488355328) (h63 : xs.length + ys.length ≤ 9223372036854775807) (hb : base ≤ w.heap.size)
    (h : ∀ v' w', Own H base w' e v' (xs ++ ys) → w.grownBy w' v.ownBlock → Holds H w' → (v'.ownBlock = v.ownBlock ∨ v'.ownBlock = some w.heap.size) → wpList P ops Q rest (a.put o.dst v') w') : wpList P ops Q (o :: rest) a w := by
  obtain ⟨v', w', hr, h2, h3, h4, h5⟩ := run_app (P := P) T o.type hown hu hw hlen h63 hb
  refine wpList_plain hgd fun K hK => ?_
  unfold Oper.wp execOp
  simp only [ho, resolve, invoke, builtin, Sem.run_bind, Sem.run_pure, Result.andThen_ok, List.map_toArray, List.map_cons, List.map_nil, hs, hx, hr]
  exact hK _ _ (h v' w' h2 h3 h4 h5)

theorem wpList_app1 (T : ElemT P t e α) (hgd : o.guard = none) (s y : Operand) (ho : o.op = .call { callee := .builtin .append, args := #[s, y], argTypes := #[t, t] })
    (hs : a.eval s = v) (hown : Own H base w e v xs) {x : α} {cs : List Value} {te : TypeId} {c : Nat} (hy : a.eval y = .slice (some ⟨w.heap.size, 0, none⟩) 1 c) (hx : Enc.rep H x cs) (hw : Holds H w) (hlen : (xs.length + 1) * Enc.by_ α ≤ 140737488355328) (h63 : xs.length + 1 ≤ 9223372036854775807) (hb : base ≤ w.heap.size)
    (h : ∀ v' w', Own H base w' e v' (xs ++ [x]) → (w.alloc (.cells cs.toArray te)).grownBy w' v.ownBlock → Holds H w' → (v'.ownBlock = v.ownBlock ∨ v'.ownBlock = some (w.heap.size + 1)) → wpList P ops Q rest (a.put o.dst v') w') : wpList P ops Q (o :: rest) a (w.alloc (.cells cs.toArray te)) := by
  obtain ⟨v', w', hr, h2, h3, h4, h5⟩ := run_app1 (P := P) (te := te) T o.type hown hx hw hlen h63 hb c
  refine wpList_plain hgd fun K hK => ?_
  unfold Oper.wp execOp
  simp only [ho, resolve, invoke, builtin, Sem.run_bind, Sem.run_pure, Result.andThen_ok, List.map_toArray, List.map_cons, List.map_nil, hs, hy, hr]
  exact hK _ _ (h v' w' h2 h3 h4 h5)

/-- A parameter that is boxed and never written: its block is frozen at once. -/
theorem wpList_boxF {t : TypeId} {w0 : World} {H0 : Snap} (hgd : o.guard = none) (y : Operand) (ho : o.op = .box t y) (hx : Ext w0 H0 w H)
    (h : ∀ B w1 H1, SLe H H1 → Ext w0 H0 w1 H1 → H1 B = some (.cells (a.eval y).cells t (0, 0)) → w0.heap.size ≤ B → wpList P ops Q rest (a.put o.dst (.pointer (some ⟨B, 0, none⟩))) w1) : wpList P ops Q (o :: rest) a w := by
  refine wpList_plain hgd fun K hK => ?_
  unfold Oper.wp execOp
  simp only [ho, Instr.box, newVar, newRow, Sem.run_bind, run_newObj, Sem.run_pure, Result.andThen_ok]
  have hn : H w.heap.size = none := hx.holds.none_of_ge (Nat.le_refl _)
  have hle := hx.below.size
  exact hK _ _ (h w.heap.size (w.alloc (.cells (a.eval y).cells t)) (H.put w.heap.size (.cells (a.eval y).cells t (0, 0))) (Snap.le_put hn _)
    ((hx.alloc _).freeze hle (heap_alloc_new w _)) (Snap.put_same _ _ _) hle)
end

theorem lift {H H' : Snap} (k : SLe H H') {p : World → Prop} (f : ∀ w, Holds H w → p w) : ∀ w, Holds H' w → p w := fun w h => f w (h.mono k)

theorem cellH {H : Snap} {b : Nat} {cs : Array Value} {t : TypeId} {fr : Nat × Nat} (h : H b = some (.cells cs t fr)) {w : World} (hw : Holds H w) (i : Nat) : w.cell? ⟨b, i, none⟩ = cs[i]? := by
  simp [World.cell?, hw.at_ _ _ h]

/-! ### A region that draws its order and only reads, or calls what hands back known values -/

/-- A world in which the snapshot holds, and in which nothing old has turned. -/
structure WB (H : Snap) (w0 : World) where
  w : World
  h : Holds H w
  b : Below w0.heap.size w0 w

theorem WB.holds {H : Snap} {w0 : World} (x : WB H w0) : Holds H x.w := x.h
theorem WB.old {H : Snap} {w0 : World} (x : WB H w0) (b o : Nat) (hb : b < w0.heap.size) : x.w.cell? ⟨b, o, none⟩ = w0.cell? ⟨b, o, none⟩ := bcell x.b b o hb

theorem wp_region_quietB {P : Program} {id : Nat} {l : List Oper} {a : Act} {w : World} {Q : Exit → Act → World → Prop} (H : Snap) (hm : P.follows .mixedOrders = true) (hB : Region.lexB .any l.toArray = true) (hw : Holds H w)
    (h : Nonempty (WB H w) → wpQuiet P l.toArray (fun w' => ∃ x : WB H w, w' = x.w) (fun a' => ∀ x : WB H w, Q .normal a' x.w) l a) : (Code.region id l.toArray true).wp P Q a w := by
  refine wp_region_quiet (C := fun w' => ∃ x : WB H w, w' = x.w) hm hB ⟨⟨w.drew, hw.drew, (Below.refl _ _).drew⟩, rfl⟩ ?_
  have e : (fun a' => ∀ w', (∃ x : WB H w, w' = x.w) → Q .normal a' w') = (fun a' => ∀ x : WB H w, Q .normal a' x.w) := by
    funext a'
    exact propext ⟨fun k x => k _ ⟨x, rfl⟩, fun k w' ⟨x, e⟩ => e ▸ k x⟩
  rw [e]
  exact h ⟨⟨w, hw, Below.refl _ _⟩⟩

theorem Calls.quietB {P : Program} {f : FuncId} {args : Array Value} {H : Snap} {w0 : World} {x : WB H w0} {v : Value} (h : Calls P f args x.w (PostV x.w v)) :
    Calls P f args x.w fun e w'' => e = .returned v ∧ ∃ y : WB H w0, w'' = y.w :=
  h.mono fun _e w'' ⟨he, hb⟩ => ⟨he, ⟨w'', x.h.below hb, x.b.trans (hb.mono x.b.size)⟩, rfl⟩
theorem Calls.quietS {P : Program} {f : FuncId} {args : Array Value} {H : Snap} {w0 : World} {x : WB H w0} {v : Value} (h : Calls P f args x.w fun e w' => e = .returned v ∧ x.w = w') :
    Calls P f args x.w fun e w'' => e = .returned v ∧ ∃ y : WB H w0, w'' = y.w :=
  h.mono fun _ _ ⟨he, hb⟩ => ⟨he, x, hb.symm⟩

/-! ### Lists of numbers of the call's own: read and written in place; made -/

theorem reps_int {H : Snap} : ∀ {xs : List Int} {cs : List Value}, reps H xs cs ↔ cs = xs.map (Value.int .i64) ∧ ∀ x ∈ xs, I64 x
  | [], cs => by simp [reps]
  | x :: xs, cs => by
    constructor
    · rintro ⟨c1, c2, rfl, ⟨rfl, hi⟩, h2⟩
      obtain ⟨rfl, h3⟩ := reps_int.1 h2
      exact ⟨by simp, by simpa using ⟨hi, h3⟩⟩
    · rintro ⟨rfl, h⟩
      exact ⟨[.int .i64 x], xs.map (Value.int .i64), by simp, ⟨rfl, h x (by simp)⟩, reps_int.2 ⟨rfl, fun y hy => h y (by simp [hy])⟩⟩

theorem heap_setCell_row {w : World} {g i : Nat} {cur : Array Value} {e : TypeId} (hg : w.heap[g]? = some (.cells cur e (0, 0))) (v : Value) : (w.setCell ⟨g, i, none⟩ v).heap[g]? = some (.cells (cur.setIfInBounds i v) e (0, 0)) := by
  obtain ⟨hlt, h'⟩ := Array.getElem?_eq_some_iff.1 hg
  show (w.heap.modify g _)[g]? = _
  rw [Array.getElem?_eq_getElem (by simpa using hlt), Array.getElem_modify_self, h']
  rfl

theorem Own.int_at {H : Snap} {base : Nat} {w : World} {e : TypeId} {v : Value} {xs : List Int} {i : Nat} {x : Int} (h : Own H base w e v xs) (hx : At xs i x) :
    ∃ g c, v = .slice (some ⟨g, 0, none⟩) xs.length c ∧ (-9223372036854775808 ≤ x ∧ x ≤ 9223372036854775807) ∧ w.cell? ⟨g, i, none⟩ = some (.int .i64 x) ∧ w.frozen? ⟨g, i, none⟩ = false ∧ base ≤ g ∧ H g = none ∧ g < w.heap.size ∧
      (∀ y : Int, (-9223372036854775808 ≤ y ∧ y ≤ 9223372036854775807) → Own H base (w.setCell ⟨g, i, none⟩ (.int .i64 y)) e v (xs.set i y)) := by
  obtain ⟨cells, ⟨hl, ho⟩, hr, hf, hb⟩ := h
  obtain ⟨rfl, hrange⟩ := reps_int.1 hr
  have hlt := hx.lt
  rcases ho with ⟨rfl, hn⟩ | ⟨g, cap, cur, rfl, hbg, hg, hnc, hcm, hcs, htake⟩
  · omega
  · simp only [Enc.sz, Nat.mul_one] at hl hcs htake
    have hcell : cur[i]? = some (.int .i64 x) := by
      have : (cur.toList.take xs.length)[i]? = some (.int .i64 x) := by rw [htake, List.getElem?_map, show xs[i]? = some x from hx]; rfl
      rw [List.getElem?_take, if_pos hlt] at this
      simpa using this
    refine ⟨g, cap, rfl, hrange x hx.mem, by rw [cell_of_row w g i cur e (0, 0) hg]; exact hcell, by simp [World.frozen?, hg], hbg, hf g rfl, (Array.getElem?_eq_some_iff.1 hg).1, fun y hy => ?_⟩
    refine ⟨(xs.set i y).map (Value.int .i64), ⟨by simp [Enc.sz], .inr ⟨g, cap, cur.setIfInBounds i (.int .i64 y), by rw [List.length_set], hbg, heap_setCell_row hg _, by rw [List.length_set]; exact hnc, hcm, by simp [Enc.sz, hcs], ?_⟩⟩,
      reps_int.2 ⟨rfl, fun z hz => by rcases List.mem_or_eq_of_mem_set hz with hz | rfl; exact hrange z hz; exact hy⟩, hf, by rw [List.length_set]; exact hb⟩
    simp only [Enc.sz, Nat.mul_one, List.length_set, Array.toList_setIfInBounds]
    rw [List.take_set, htake, List.map_set]

theorem Own.congr {α : Type} [Enc α] {H : Snap} {base : Nat} {w : World} {e : TypeId} {v : Value} {xs ys : List α} (h : Own H base w e v xs) (k : xs = ys) : Own H base w e v ys := k ▸ h

theorem wpList_makeI {P : Program} {H : Snap} {base : Nat} {w : World} {t e : TypeId} {ops : Array Oper} {rest : List Oper} {o : Oper} {a : Act} {Q : Exit → Act → World → Prop} (T : ElemT P t e Int) (hz : (P.info? e).map (·.zero) = some (some (.int .i64 0)))
    (hgd : o.guard = none) (x y : Operand) (ho : o.op = .makeSlice t x y) (n : Nat) (hx : a.eval x = .int .i64 (n : Int)) (hy : a.eval y = .int .i64 (n : Int)) (hn : n * 8 ≤ 140737488355328) (hw : Holds H w) (hb : base ≤ w.heap.size)
    (h : ∀ v' w', Own H base w' e v' (List.replicate n (0 : Int)) → w.grownBy w' none → Holds H w' → wpList P ops Q rest (a.put o.dst v') w') : wpList P ops Q (o :: rest) a w := by
  obtain ⟨i, z, hi, hz', hsz, hby, hzs⟩ := T.inf
  obtain rfl : z = .int .i64 0 := by rw [hi] at hz; simp at hz; rw [hz] at hz'; exact (Option.some.inj hz').symm
  obtain ⟨w', hr, ho', hg⟩ := run_make_full (P := P) w base t e i (.int .i64 0) (Enc.sz Int) T.und hi hz' hsz .i64 .i64 n (by rw [hby]; simp only [Enc.by_]; omega) (by simp only [maxLen]; omega) hb
  refine wpList_plain hgd fun K hK => ?_
  unfold Oper.wp execOp
  simp only [ho, hx, hy, Sem.run_bind, hr, Result.andThen_ok, Sem.run_pure]
  have hw' : Holds H w' := hw.grown hg (by simp)
  refine hK _ _ (h _ _ ⟨(madeCells (Value.int .i64 0).cells (n * Enc.sz Int)).toList, by simpa using ho', ?_, fun k hk => ?_, by simp [Enc.by_]; omega⟩ hg hw')
  · rw [reps_int]
    refine ⟨?_, fun x hx => by rw [List.eq_of_mem_replicate hx]; exact ⟨by omega, by omega⟩⟩
    simp [madeCells, Enc.sz, Value.cells]
    apply List.ext_getElem
    · simp
    · intro k _ _; simp [Nat.mod_one]
  · simp [Value.ownBlock] at hk; exact hw.none_of_ge (by omega)

end Go.Proofs.Yteijmboophnmgaa

namespace Go.Proofs.Yteijmboophnmgaa
open Go.RowKit

section
variable {α : Type} [Enc α] {P : Program} {H : Snap} {base : Nat} {w : World} {t e : TypeId} {v : Value} {xs ys : List α} {ops : Array Oper} {o : Oper} {a : Act} {Q : Exit → Act → World → Prop} {K : Act → World → Prop} {E : Prop}

theorem step_app (T : ElemT P t e α) (hgd : o.guard = none) (s x : Operand) (ho : o.op = .call { callee := .builtin .append, args := #[s, x], argTypes := #[t, t] })
    (hs : a.eval s = v) (hown : Own H base w e v xs) {u : Value} (hx : a.eval x = u) (hu : Sl H u ys) (hw : Holds H w) (hlen : (xs.length + ys.length) * Enc.by_ α ≤ 140737488355328) (h63 : xs.length + ys.length ≤ 9223372036854775807) (hb : base ≤ w.heap.size)
    (h : ∀ v' w', Own H base w' e v' (xs ++ ys) → w.grownBy w' v.ownBlock → Holds H w' → (v'.ownBlock = v.ownBlock ∨ v'.ownBlock = some w.heap.size) → K (a.put o.dst v') w') : if Region.wanted o (yielded ops a.tmps) = true then Oper.wp P o a w K Q else E := by
  obtain ⟨v', w', hr, h2, h3, h4, h5⟩ := run_app (P := P) T o.type hown hu hw hlen h63 hb
  rw [if_pos (by simp [Region.wanted, hgd])]
  unfold Oper.wp execOp
  simp only [ho, resolve, invoke, builtin, Sem.run_bind, Sem.run_pure, Result.andThen_ok, List.map_toArray, List.map_cons, List.map_nil, hs, hx, hr]
  exact h v' w' h2 h3 h4 h5

/-- 'append(v, x)' whose one element lies in some block. -/
theorem run_appC (T : ElemT P t e α) (ty : TypeId) (hown : Own H base w e v xs) {x : α} {cs : List Value} {g : Nat} (hx : Enc.rep H x cs) (hcs : ∀ (j : Nat) (u : Value), cs[j]? = some u → w.cell? ⟨g, j, none⟩ = some u) (hw : Holds H w) (hlen : (xs.length + 1) * Enc.by_ α ≤ 140737488355328) (h63 : xs.length + 1 ≤ 9223372036854775807) (hb : base ≤ w.heap.size) (c : Nat) :
    ∃ v' w', (Builtin.append_ #[t, t] ty #[v, .slice (some ⟨g, 0, none⟩) 1 c]).run P w = .ok v' w' ∧ Own H base w' e v' (xs ++ [x]) ∧ w.grownBy w' v.ownBlock ∧ Holds H w' ∧ (v'.ownBlock = v.ownBlock ∨ v'.ownBlock = some w.heap.size) := by
  obtain ⟨i, z, hi, hz, hsz, hby, hzs⟩ := T.inf
  obtain ⟨cells, ho, hr, hf, hbv⟩ := hown
  obtain ⟨v', w', hrun, ho', hg, _, hat⟩ := run_append_own_at (P := P) w base t ty e i z (Enc.sz α) (Enc.by_ α) T.und hi hz hsz hby hzs T.pos v xs.length cells ho ⟨g, 0, none⟩ 1 c cs (by rw [Nat.one_mul]; exact Enc.len hx)
    (fun j u hu => by rw [Addr.add_lit, Nat.zero_add]; exact hcs j u hu) (Enc.one hx) (by simp only [maxLen]; omega) hlen hb
  refine ⟨v', w', hrun, ⟨cells ++ cs, by rw [List.length_append]; exact ho', hr.append (reps.single hx), ?_, by rw [List.length_append]; exact hlen⟩, hg, hw.grown hg hf, hat⟩
  intro k hk
  rcases hat with h | h
  · exact hf k (h ▸ hk)
  · rw [h] at hk; simp only [Option.some.injEq] at hk; exact hw.none_of_ge (by omega)

theorem step_appC (T : ElemT P t e α) (hgd : o.guard = none) (s y : Operand) (ho : o.op = .call { callee := .builtin .append, args := #[s, y], argTypes := #[t, t] })
    (hs : a.eval s = v) (hown : Own H base w e v xs) {x : α} {cs : List Value} {g c : Nat} (hy : a.eval y = .slice (some ⟨g, 0, none⟩) 1 c) (hx : Enc.rep H x cs) (hcs : ∀ (j : Nat) (u : Value), cs[j]? = some u → w.cell? ⟨g, j, none⟩ = some u) (hw : Holds H w) (hlen : (xs.length + 1) * Enc.by_ α ≤ 140737488355328) (h63 : xs.length + 1 ≤ 9223372036854775807) (hb : base ≤ w.heap.size)
    (h : ∀ v' w', Own H base w' e v' (xs ++ [x]) → w.grownBy w' v.ownBlock → Holds H w' → (v'.ownBlock = v.ownBlock ∨ v'.ownBlock = some w.heap.size) → K (a.put o.dst v') w') : if Region.wanted o (yielded ops a.tmps) = true then Oper.wp P o a w K Q else E := by
  obtain ⟨v', w', hr, h2, h3, h4, h5⟩ := run_appC (P := P) T o.type hown hx hcs hw hlen h63 hb c
  rw [if_pos (by simp [Region.wanted, hgd])]
  unfold Oper.wp execOp
  simp only [ho, resolve, invoke, builtin, Sem.run_bind, Sem.run_pure, Result.andThen_ok, List.map_toArray, List.map_cons, List.map_nil, hs, hy, hr]
  exact h v' w' h2 h3 h4 h5

/-- An empty literal '[]T{}' that has just been made is the call's own. -/
theorem Own.empty (H : Snap) (hw : Holds H w) (hb : base ≤ w.heap.size) (_e' : TypeId) : Own H base (w.alloc (.cells #[] e)) e (.slice (some ⟨w.heap.size, 0, none⟩) 0 0) ([] : List α) :=
  ⟨[], World.ownsRow_made w #[] 0 hb (by simp [maxLen]) (by simp), rfl, fun k hk => by simp [Value.ownBlock] at hk; exact hw.none_of_ge (by omega), by simp⟩
end

section
variable {α : Type} [Enc α] {H : Snap} {base : Nat} {w : World} {e : TypeId} {v : Value} {xs : List α}

/-- An empty literal '[]T{}', wherever its block lies. -/
theorem Own.emptyAt {g : Nat} (hg : w.heap[g]? = some (.cells #[] e (0, 0))) (hb : base ≤ g) (hH : H g = none) : Own H base w e (.slice (some ⟨g, 0, none⟩) 0 0) ([] : List α) :=
  ⟨[], ⟨by simp, .inr ⟨g, 0, #[], rfl, hb, hg, by simp, by simp [maxLen], by simp, by simp⟩⟩, rfl, fun k hk => by simp [Value.ownBlock] at hk; subst hk; exact hH, by simp⟩
theorem Own.weaken {base' : Nat} (h : Own H base' w e v xs) (hb : base ≤ base') : Own H base w e v xs := by
  obtain ⟨cells, ⟨hl, ho⟩, hr⟩ := h
  refine ⟨cells, ⟨hl, ?_⟩, hr⟩
  rcases ho with hn | ⟨g, cap, cur, rfl, hbg, rest⟩
  · exact .inl hn
  · exact .inr ⟨g, cap, cur, rfl, Nat.le_trans hb hbg, rest⟩
theorem Ext.back {w0 w1 w2 : World} {H0 H1 H2 : Snap} (h : Ext w0 H0 w2 H2) (k : Ext w0 H0 w1 H1) (hle : SLe H1 H2) : Ext w0 H0 w2 H1 := ⟨h.below, h.holds.mono hle, k.same⟩

/-- A call leaves a list of its own: the caller may go on with it. -/
def PostO (w : World) (H : Snap) (e : TypeId) (xs : List α) (f : Ending) (w' : World) : Prop :=
  ∃ v H', f = .returned v ∧ Ext w H w' H' ∧ Own H' w.heap.size w' e v xs
theorem PostO.post {f : Ending} {w' : World} (h : PostO w H e xs f w') : Post w H (fun v H' => Sl H' v xs) f w' := by
  obtain ⟨v, H', rfl, hx, ho⟩ := h
  obtain ⟨H2, hx2, _, hs, _⟩ := ho.close hx
  exact ⟨v, H2, rfl, hx2, hs⟩
end

theorem PostO.up {α : Type} [Enc α] {w w1 : World} {H H1 : Snap} {e : TypeId} {xs : List α} {f : Ending} {w' : World} (h : PostO w1 H1 e xs f w') (hx : Ext w H w1 H1) : PostO w H e xs f w' := by
  obtain ⟨v, H', rfl, hx', ho⟩ := h
  exact ⟨v, H', rfl, hx.trans hx', ho.weaken hx.below.size⟩
theorem Post.up {w w1 : World} {H H1 : Snap} {R : Value → Snap → Prop} {f : Ending} {w' : World} (h : Post w1 H1 R f w') (hx : Ext w H w1 H1) : Post w H R f w' := by
  obtain ⟨v, H', rfl, hx', ho⟩ := h
  exact ⟨v, H', rfl, hx.trans hx', ho⟩

/-- A literal '[]T{..}' that has just been made is frozen. -/
theorem Ext.lit {α : Type} [Enc α] {w0 w : World} {H0 H : Snap} {xs : List α} {cs : List Value} (hx : Ext w0 H0 w H) (hr : reps H xs cs) (te : TypeId) (hb : xs.length * Enc.by_ α ≤ 140737488355328) (hc : xs.length ≤ 9223372036854775807) :
    ∃ H2, SLe H H2 ∧ Ext w0 H0 (w.alloc (.cells cs.toArray te)) H2 ∧ Sl H2 (.slice (some ⟨w.heap.size, 0, none⟩) xs.length xs.length) xs := by
  have hn : H w.heap.size = none := hx.holds.none_of_ge (Nat.le_refl _)
  have hle := Snap.le_put hn (.cells cs.toArray te (0, 0))
  refine ⟨_, hle, (hx.alloc (.cells cs.toArray te)).freeze hx.below.size (heap_alloc_new w _), _, _, rfl, Nat.le_refl _, hc, hb, ?_⟩
  refine .inr ⟨w.heap.size, 0, cs.toArray, te, (0, 0), rfl, Snap.put_same _ _ _, ?_, ?_⟩
  · simp [hr.len]
  · simp only [List.drop_zero]
    rw [← hr.len, List.take_length]
    exact hr.mono hle

/-- .. or is the call's own. -/
theorem Own.lit {α : Type} [Enc α] {w : World} {H : Snap} {base : Nat} {xs : List α} {cs : List Value} (hw : Holds H w) (hr : reps H xs cs) (te : TypeId) (hbase : base ≤ w.heap.size) (hb : xs.length * Enc.by_ α ≤ 140737488355328) (hc : xs.length ≤ 9223372036854775807) :
    Own H base (w.alloc (.cells cs.toArray te)) te (.slice (some ⟨w.heap.size, 0, none⟩) xs.length xs.length) xs :=
  ⟨cs, ⟨hr.len, .inr ⟨w.heap.size, xs.length, cs.toArray, rfl, hbase, heap_alloc_new w _, Nat.le_refl _, by simp only [maxLen]; omega, by simp [hr.len], by simp [← hr.len]⟩⟩, hr, fun k hk => by simp [Value.ownBlock] at hk; exact hw.none_of_ge (by omega), hb⟩

theorem one_cell {W : World} {g : Nat} {x : Value} (h0 : W.cell? ⟨g, 0, none⟩ = some x) : ∀ (j : Nat) (u : Value), [x][j]? = some u → W.cell? ⟨g, j, none⟩ = some u := by
  intro j u hu
  cases j with
  | zero => simp at hu; subst hu; exact h0
  | succ j => simp at hu

section
variable {α : Type} [Enc α] {P : Program} {H H0 : Snap} {w w0 : World} {t e : TypeId} {v : Value} {xs ys : List α} {ops : Array Oper} {o : Oper} {a : Act} {Q : Exit → Act → World → Prop} {K : Act → World → Prop} {E : Prop} {rest : List Oper}

theorem step_appX (T : ElemT P t e α) (hgd : o.guard = none) (s x : Operand) (ho : o.op = .call { callee := .builtin .append, args := #[s, x], argTypes := #[t, t] }) (hX : Ext w0 H0 w H)
    (hs : a.eval s = v) (hown : Own H w0.heap.size w e v xs) {u : Value} (hx : a.eval x = u) (hu : Sl H u ys) (hlen : (xs.length + ys.length) * Enc.by_ α ≤ 140737488355328) (h63 : xs.length + ys.length ≤ 9223372036854775807)
    (h : ∀ v' w', Own H w0.heap.size w' e v' (xs ++ ys) → Ext w0 H0 w' H → Holds H w' → w.grownBy w' v.ownBlock → K (a.put o.dst v') w') : if Region.wanted o (yielded ops a.tmps) = true then Oper.wp P o a w K Q else E :=
  step_app T hgd s x ho hs hown hx hu hX.holds hlen h63 hX.below.size fun v' w' h1 h2 h3 _ => h v' w' h1 (hX.grown h2 (fun k hk => (hown.lt k hk).1) (fun k hk => hown.free k hk)) h3 h2
theorem step_appCX (T : ElemT P t e α) (hgd : o.guard = none) (s y : Operand) (ho : o.op = .call { callee := .builtin .append, args := #[s, y], argTypes := #[t, t] }) (hX : Ext w0 H0 w H)
    (hs : a.eval s = v) (hown : Own H w0.heap.size w e v xs) {x : α} {cs : List Value} {g c : Nat} (hy : a.eval y = .slice (some ⟨g, 0, none⟩) 1 c) (hx : Enc.rep H x cs) (hcs : ∀ (j : Nat) (u : Value), cs[j]? = some u → w.cell? ⟨g, j, none⟩ = some u) (hlen : (xs.length + 1) * Enc.by_ α ≤ 140737488355328) (h63 : xs.length + 1 ≤ 9223372036854775807)
    (h : ∀ v' w', Own H w0.heap.size w' e v' (xs ++ [x]) → Ext w0 H0 w' H → Holds H w' → w.grownBy w' v.ownBlock → K (a.put o.dst v') w') : if Region.wanted o (yielded ops a.tmps) = true then Oper.wp P o a w K Q else E :=
  step_appC T hgd s y ho hs hown hy hx hcs hX.holds hlen h63 hX.below.size fun v' w' h1 h2 h3 _ => h v' w' h1 (hX.grown h2 (fun k hk => (hown.lt k hk).1) (fun k hk => hown.free k hk)) h3 h2
/-- The same outside a region that draws. -/
theorem wpList_appX (T : ElemT P t e α) (hgd : o.guard = none) (s x : Operand) (ho : o.op = .call { callee := .builtin .append, args := #[s, x], argTypes := #[t, t] }) (hX : Ext w0 H0 w H)
    (hs : a.eval s = v) (hown : Own H w0.heap.size w e v xs) {u : Value} (hx : a.eval x = u) (hu : Sl H u ys) (hlen : (xs.length + ys.length) * Enc.by_ α ≤ 140737488355328) (h63 : xs.length + ys.length ≤ 9223372036854775807)
    (h : ∀ v' w', Own H w0.heap.size w' e v' (xs ++ ys) → Ext w0 H0 w' H → Holds H w' → w.grownBy w' v.ownBlock → wpList P ops Q rest (a.put o.dst v') w') : wpList P ops Q (o :: rest) a w :=
  wpList_app T hgd s x ho hs hown hx hu hX.holds hlen h63 hX.below.size fun v' w' h1 h2 h3 _ => h v' w' h1 (hX.grown h2 (fun k hk => (hown.lt k hk).1) (fun k hk => hown.free k hk)) h3 h2
theorem wpList_app1X (T : ElemT P t e α) (hgd : o.guard = none) (s y : Operand) (ho : o.op = .call { callee := .builtin .append, args := #[s, y], argTypes := #[t, t] }) (hX : Ext w0 H0 w H)
    (hs : a.eval s = v) (hown : Own H w0.heap.size w e v xs) {x : α} {cs : List Value} {te : TypeId} {c : Nat} (hy : a.eval y = .slice (some ⟨w.heap.size, 0, none⟩) 1 c) (hx : Enc.rep H x cs) (hlen : (xs.length + 1) * Enc.by_ α ≤ 140737488355328) (h63 : xs.length + 1 ≤ 9223372036854775807)
    (h : ∀ v' w', Own H w0.heap.size w' e v' (xs ++ [x]) → Ext w0 H0 w' H → Holds H w' → wpList P ops Q rest (a.put o.dst v') w') : wpList P ops Q (o :: rest) a (w.alloc (.cells cs.toArray te)) :=
  wpList_app1 T hgd s y ho hs hown hy hx hX.holds hlen h63 hX.below.size fun v' w' h1 h2 h3 _ => h v' w' h1 ((hX.alloc _).grown h2 (fun k hk => (hown.lt k hk).1) (fun k hk => hown.free k hk)) h3
end

/-- .. one number; one list that lies in frozen blocks. -/
theorem wpList_app1I {P : Program} {H H0 : Snap} {w w0 : World} {t e : TypeId} {v : Value} {xs : List Int} {ops : Array Oper} {o : Oper} {a : Act} {Q : Exit → Act → World → Prop} {rest : List Oper} {te : TypeId} {c : Nat}
    (T : ElemT P t e Int) (s y : Operand) (hX : Ext w0 H0 w H) (hown : Own H w0.heap.size w e v xs) (x : Int) (hx : I64 x) (hlen : xs.length ≤ 1000000000)
    (hgd : o.guard = none) (ho : o.op = .call { callee := .builtin .append, args := #[s, y], argTypes := #[t, t] }) (hs : a.eval s = v) (hy : a.eval y = .slice (some ⟨w.heap.size, 0, none⟩) 1 c)
    (h : ∀ v' w', Own H w0.heap.size w' e v' (xs ++ [x]) → Ext w0 H0 w' H → Holds H w' → wpList P ops Q rest (a.put o.dst v') w') : wpList P ops Q (o :: rest) a (w.alloc (.cells #[.int .i64 x] te)) :=
  wpList_app1X (cs := [.int .i64 x]) T hgd s y ho hX hs hown hy ⟨rfl, hx⟩ (by simp [Enc.by_]; omega) (by omega) h
theorem wpList_app1L {α : Type} [Enc α] {P : Program} {H H0 : Snap} {w w0 : World} {t e : TypeId} {v u : Value} {xs : List (List α)} {ops : Array Oper} {o : Oper} {a : Act} {Q : Exit → Act → World → Prop} {rest : List Oper} {te : TypeId} {c : Nat}
    (T : ElemT P t e (List α)) (s y : Operand) (hX : Ext w0 H0 w H) (hown : Own H w0.heap.size w e v xs) (x : List α) (hx : Sl H u x) (hlen : xs.length ≤ 1000000000)
    (hgd : o.guard = none) (ho : o.op = .call { callee := .builtin .append, args := #[s, y], argTypes := #[t, t] }) (hs : a.eval s = v) (hy : a.eval y = .slice (some ⟨w.heap.size, 0, none⟩) 1 c)
    (h : ∀ v' w', Own H w0.heap.size w' e v' (xs ++ [x]) → Ext w0 H0 w' H → Holds H w' → wpList P ops Q rest (a.put o.dst v') w') : wpList P ops Q (o :: rest) a (w.alloc (.cells #[u] te)) :=
  wpList_app1X (cs := [u]) T hgd s y ho hX hs hown hy ⟨u, rfl, hx⟩ (by simp [Enc.by_]; omega) (by omega) h

/-- The beginning of a slice. -/
theorem Sl.take {α : Type} [Enc α] {H : Snap} {a : Option Addr} {n c : Nat} {xs : List α} (h : Sl H (.slice a n c) xs) {k : Nat} (hk : k ≤ xs.length) : Sl H (.slice a k c) (xs.take k) := by
  obtain ⟨a', c', e, h1, h2, h3, h4⟩ := h
  cases e
  have hlen : (xs.take k).length = k := by simp; omega
  refine ⟨a, c, by rw [hlen], by omega, h2, Nat.le_trans (Nat.mul_le_mul_right _ (by omega)) h3, ?_⟩
  rcases h4 with h4 | ⟨b, o, cur, e, fr, rfl, hb, ho, hr⟩
  · subst h4; simp
  · refine .inr ⟨b, o, cur, e, fr, rfl, hb, ?_, ?_⟩
    · rw [hlen]; exact Nat.le_trans (Nat.add_le_add_left (Nat.mul_le_mul_right _ hk) o) ho
    · rw [hlen]
      have e1 : xs = xs.take k ++ xs.drop k := (List.take_append_drop k xs).symm
      rw [e1] at hr
      obtain ⟨c1, c2, e2, hr1, _⟩ := hr.split
      have hl1 := hr1.len
      rw [hlen] at hl1
      have : (cur.toList.drop o).take (k * Enc.sz α) = c1 := by
        have h5 := congrArg (List.take (k * Enc.sz α)) e2
        rw [← hl1, List.take_left, hl1, List.take_take, Nat.min_eq_left (by rw [← e1]; exact Nat.mul_le_mul_right _ hk)] at h5
        exact h5
      rw [this]; exact hr1

end Go.Proofs.Yteijmboophnmgaa

namespace Go.Proofs.Yteijmboophnmgaa
open Go.RowKit

theorem Own.row_type {α : Type} [Enc α] {H : Snap} {base : Nat} {w : World} {e : TypeId} {v : Value} {xs : List α} (h : Own H base w e v xs) {k : Nat} (hk : v.ownBlock = some k) : ∃ cur, w.heap[k]? = some (.cells cur e (0, 0)) := by
  obtain ⟨cells, ⟨_, ho⟩, _⟩ := h
  rcases ho with ⟨rfl, _⟩ | ⟨g, cap, cur, rfl, _, hg, _⟩
  · simp [Value.ownBlock] at hk
  · simp [Value.ownBlock] at hk; subst hk; exact ⟨cur, hg⟩

/-- Two slices of the call's own whose elements are of different types lie apart. -/
theorem Own.apart {α β : Type} [Enc α] [Enc β] {H H' : Snap} {base base' : Nat} {w : World} {e e' : TypeId} {v u : Value} {xs : List α} {ys : List β} (h : Own H base w e v xs) (k : Own H' base' w e' u ys) (ne : e ≠ e') : v.ownBlock = none ∨ v.ownBlock ≠ u.ownBlock := by
  cases hv : v.ownBlock with
  | none => exact .inl rfl
  | some b =>
    refine .inr fun hu => ?_
    obtain ⟨c1, h1⟩ := h.row_type hv
    obtain ⟨c2, h2⟩ := k.row_type hu.symm
    rw [h1] at h2
    simp only [Option.some.injEq, Obj.cells.injEq] at h2
    exact ne h2.2.1
theorem Own.kept_other {α β : Type} [Enc α] [Enc β] {H H' : Snap} {base base' : Nat} {w w' : World} {e e' : TypeId} {v u : Value} {xs : List α} {ys : List β} (k : Own H' base' w e' u ys) (hg : w.grownBy w' u.ownBlock) (ne : e ≠ e') (h : Own H base w e v xs) : Own H base w' e v xs :=
  h.kept hg (h.apart k ne)
theorem Own.emptyG {α : Type} [Enc α] {H : Snap} {base g : Nat} {w : World} {e : TypeId} (hg : g = w.heap.size) (hw : Holds H w) (hb : base ≤ w.heap.size) : Own H base (w.alloc (.cells #[] e)) e (.slice (some ⟨g, 0, none⟩) 0 0) ([] : List α) := by
  subst hg; exact Own.empty H hw hb e

section
variable {α : Type} [Enc α] {P : Program} {H H0 : Snap} {w w0 : World} {base : Nat} {t e : TypeId} {v : Value} {ys : List α} {ops : Array Oper} {o : Oper} {a : Act} {Q : Exit → Act → World → Prop} {K : Act → World → Prop} {E : Prop}

/-- 'append([]T{}, ys...)' beside slices of other elements. -/
theorem step_appN (T : ElemT P t e α) (hgd : o.guard = none) (s x : Operand) (ho : o.op = .call { callee := .builtin .append, args := #[s, x], argTypes := #[t, t] }) (hX : Ext w0 H0 w H) (hbase : w0.heap.size ≤ base)
    (hs : a.eval s = v) (hown : Own H base w e v ([] : List α)) {u : Value} (hx : a.eval x = u) (hu : Sl H u ys) (hb : base ≤ w.heap.size)
    (h : ∀ v' w', Own H base w' e v' ys → Ext w0 H0 w' H → Holds H w' → base ≤ w'.heap.size →
      Below base w w' → (∀ (β : Type) [Enc β] (e' : TypeId) (u' : Value) (zs : List β), e' ≠ e → Own H base w e' u' zs → Own H base w' e' u' zs) → K (a.put o.dst v') w') : if Region.wanted o (yielded ops a.tmps) = true then Oper.wp P o a w K Q else E :=
  step_app T hgd s x ho hs hown hx hu hX.holds (by have := hu.bytes; simpa using this) (by have := hu.le; simpa using this) hb fun v' w' h1 h2 h3 _ =>
    h v' w' (by simpa using h1) (hX.grown h2 (fun k hk => Nat.le_trans hbase (hown.lt k hk).1) (fun k hk => hown.free k hk)) h3 (Nat.le_trans hb h2.size) ((Below.refl _ _).grown h2 hb (fun k hk => (hown.lt k hk).1))
      (fun _ _ _ _ _ ne hz => Own.kept_other hown h2 ne hz)
end

/-- A block of four cells that may be written. -/
def Rdy (rb : Nat) (t : TypeId) (w : World) : Prop := ∃ a b c d : Value, w.heap[rb]? = some (.cells #[a, b, c, d] t (0, 0))
theorem Rdy.drew {rb : Nat} {t : TypeId} {w : World} (h : Rdy rb t w) : Rdy rb t w.drew := h
theorem Rdy.lt {rb : Nat} {t : TypeId} {w : World} (h : Rdy rb t w) : rb < w.heap.size := by
  obtain ⟨a, b, c, d, e⟩ := h
  exact (Array.getElem?_eq_some_iff.1 e).1
theorem Rdy.alloc {rb : Nat} {t : TypeId} {w : World} (h : Rdy rb t w) (o : Obj) : Rdy rb t (w.alloc o) := by
  have hl := h.lt
  obtain ⟨a, b, c, d, e⟩ := h
  exact ⟨a, b, c, d, (heap_alloc_old w o hl).trans e⟩
theorem Rdy.below {rb base : Nat} {t : TypeId} {w w' : World} (h : Rdy rb t w) (hb : Below base w w') (hrb : rb < base) : Rdy rb t w' := by
  obtain ⟨a, b, c, d, e⟩ := h
  exact ⟨a, b, c, d, (hb.block rb hrb).trans e⟩
theorem Rdy.setCell {rb : Nat} {t : TypeId} {w : World} (h : Rdy rb t w) (i : Nat) (hi : i < 4) (v : Value) : Rdy rb t (w.setCell ⟨rb, i, none⟩ v) := by
  obtain ⟨a, b, c, d, e⟩ := h
  have := heap_setCell_row (i := i) e v
  match i, hi with
  | 0, _ => exact ⟨v, b, c, d, by simpa using this⟩
  | 1, _ => exact ⟨a, v, c, d, by simpa using this⟩
  | 2, _ => exact ⟨a, b, v, d, by simpa using this⟩
  | 3, _ => exact ⟨a, b, c, v, by simpa using this⟩
theorem Rdy.cell {rb : Nat} {t : TypeId} {w : World} (h : Rdy rb t w) (i : Nat) (hi : i < 4) : ∃ v, w.cell? ⟨rb, i, none⟩ = some v := by
  obtain ⟨a, b, c, d, e⟩ := h
  rw [cell_of_row w rb i _ _ _ e]
  exact ⟨_, Array.getElem?_eq_getElem (by simpa using hi)⟩
theorem Rdy.fz {rb : Nat} {t : TypeId} {w : World} (h : Rdy rb t w) (i : Nat) : w.frozen? ⟨rb, i, none⟩ = false := by
  obtain ⟨a, b, c, d, e⟩ := h
  simp [World.frozen?, e]
theorem Rdy.row {rb : Nat} {t : TypeId} {w : World} (h : Rdy rb t w) (u1 u2 u3 u4 : Value) : ((((w.setCell ⟨rb, 0, none⟩ u1).setCell ⟨rb, 1, none⟩ u2).setCell ⟨rb, 2, none⟩ u3).setCell ⟨rb, 3, none⟩ u4).heap[rb]? = some (.cells #[u1, u2, u3, u4] t (0, 0)) := by
  obtain ⟨a, b, c, d, e⟩ := h
  have h1 := heap_setCell_row (i := 0) e u1
  have h2 := heap_setCell_row (i := 1) h1 u2
  have h3 := heap_setCell_row (i := 2) h2 u3
  have h4 := heap_setCell_row (i := 3) h3 u4
  simpa using h4

end Go.Proofs.Yteijmboophnmgaa
