/- Houses as they are laid in memory. -/
import Derived.Test.YteijmboophnmgaaBase
import Derived.Test.YteijmboophnmgaaPlain
import Derived.Test.YteijmboophnmgaaProg
namespace Go.Proofs.Yteijmboophnmgaa
open Go.RowKit

def MachRep (m : Mach) (cs : List Value) : Prop := cs = [.int .i64 m.r, .int .i64 m.p, .int .i64 m.s] ∧ (-9223372036854775808 ≤ m.r ∧ m.r ≤ 9223372036854775807) ∧ (-9223372036854775808 ≤ m.p ∧ m.p ≤ 9223372036854775807) ∧ (-9223372036854775808 ≤ m.s ∧ m.s ≤ 9223372036854775807)
def BundRep (b : Bund) (cs : List Value) : Prop := cs = [.int .i64 b.t, .int .i64 b.h, .int .i64 b.e] ∧ (-9223372036854775808 ≤ b.t ∧ b.t ≤ 9223372036854775807) ∧ (-9223372036854775808 ≤ b.h ∧ b.h ≤ 9223372036854775807) ∧ (-9223372036854775808 ≤ b.e ∧ b.e ≤ 9223372036854775807)

instance : Enc Mach where
  sz := 3
  by_ := 24
  rep := fun _ m cs => MachRep m cs
  len := fun h => by rw [h.1]; rfl
  mono := fun _ h => h
  one := fun h u hu => by rw [h.1] at hu; simp at hu; rcases hu with rfl | rfl | rfl <;> rfl

instance : Enc Bund where
  sz := 3
  by_ := 24
  rep := fun _ m cs => BundRep m cs
  len := fun h => by rw [h.1]; rfl
  mono := fun _ h => h
  one := fun h u hu => by rw [h.1] at hu; simp at hu; rcases hu with rfl | rfl | rfl <;> rfl

theorem Sl.mach {H : Snap} {v : Value} {xs : List Mach} {k : Nat} {x : Mach} (h : Sl H v xs) (hx : At xs k x) :
    ∃ b o c, v = .slice (some ⟨b, o, none⟩) xs.length c ∧ ((-9223372036854775808 ≤ x.r ∧ x.r ≤ 9223372036854775807) ∧ (-9223372036854775808 ≤ x.p ∧ x.p ≤ 9223372036854775807) ∧ (-9223372036854775808 ≤ x.s ∧ x.s ≤ 9223372036854775807)) ∧
      (∀ w, Holds H w → w.cell? ⟨b, o + k * 3, none⟩ = some (.int .i64 x.r)) ∧ (∀ w, Holds H w → w.cell? ⟨b, o + k * 3 + 1, none⟩ = some (.int .i64 x.p)) ∧ (∀ w, Holds H w → w.cell? ⟨b, o + k * 3 + 2, none⟩ = some (.int .i64 x.s)) := by
  obtain ⟨b, o, c, ds, hv, ⟨hd, hi⟩, hc⟩ := h.get hx
  refine ⟨b, o, c, hv, hi, fun w hw => ?_, fun w hw => ?_, fun w hw => ?_⟩
  · exact hc w hw 0 _ (by rw [hd]; rfl)
  · exact hc w hw 1 _ (by rw [hd]; rfl)
  · exact hc w hw 2 _ (by rw [hd]; rfl)

theorem Sl.bund {H : Snap} {v : Value} {xs : List Bund} {k : Nat} {x : Bund} (h : Sl H v xs) (hx : At xs k x) :
    ∃ b o c, v = .slice (some ⟨b, o, none⟩) xs.length c ∧ ((-9223372036854775808 ≤ x.t ∧ x.t ≤ 9223372036854775807) ∧ (-9223372036854775808 ≤ x.h ∧ x.h ≤ 9223372036854775807) ∧ (-9223372036854775808 ≤ x.e ∧ x.e ≤ 9223372036854775807)) ∧
      (∀ w, Holds H w → w.cell? ⟨b, o + k * 3, none⟩ = some (.int .i64 x.t)) ∧ (∀ w, Holds H w → w.cell? ⟨b, o + k * 3 + 1, none⟩ = some (.int .i64 x.h)) ∧ (∀ w, Holds H w → w.cell? ⟨b, o + k * 3 + 2, none⟩ = some (.int .i64 x.e)) := by
  obtain ⟨b, o, c, ds, hv, ⟨hd, hi⟩, hc⟩ := h.get hx
  refine ⟨b, o, c, hv, hi, fun w hw => ?_, fun w hw => ?_, fun w hw => ?_⟩
  · exact hc w hw 0 _ (by rw [hd]; rfl)
  · exact hc w hw 1 _ (by rw [hd]; rfl)
  · exact hc w hw 2 _ (by rw [hd]; rfl)

/-- A house value. -/
structure Hou (H : Snap) (vm vb vt : Value) (h : House) : Prop where
  m : Sl H vm h.ms
  b : Sl H vb h.bs
  t : Sl H vt h.ts
  c : -9223372036854775808 ≤ h.ch ∧ h.ch ≤ 9223372036854775807

abbrev houV (vm vb vt : Value) (h : House) : Value := .agg #[vm, vb, vt, .int .i64 h.ch]

theorem Hou.mono {H H' : Snap} (k : SLe H H') {vm vb vt : Value} {h : House} (x : Hou H vm vb vt h) : Hou H' vm vb vt h :=
  ⟨x.m.mono k, x.b.mono k, x.t.mono k, x.c⟩

/-- The four cells of a house that lies in a frozen block. -/
theorem cellsHou {H : Snap} {B : Nat} {vm vb vt : Value} {h : House} {t : TypeId} (e : H B = some (.cells (houV vm vb vt h).cells t (0, 0))) :
    (∀ w, Holds H w → w.cell? ⟨B, 0, none⟩ = some vm) ∧ (∀ w, Holds H w → w.cell? ⟨B, 1, none⟩ = some vb) ∧ (∀ w, Holds H w → w.cell? ⟨B, 2, none⟩ = some vt) ∧ (∀ w, Holds H w → w.cell? ⟨B, 3, none⟩ = some (.int .i64 h.ch)) :=
  ⟨fun _ hw => cellH e hw 0, fun _ hw => cellH e hw 1, fun _ hw => cellH e hw 2, fun _ hw => cellH e hw 3⟩

theorem eInt : ElemT Try.prog 24 3 Int := .mk' (.int .i64 0) Try.underlying24 (by kernel_rfl) rfl (by decide)
theorem eList : ElemT Try.prog 63 24 (List Int) := .mk' (.slice none 0 0) Try.underlying63 (by kernel_rfl) rfl (by decide)
theorem eLists : ElemT Try.prog 90 63 (List (List Int)) := .mk' (.slice none 0 0) Try.underlying90 (by kernel_rfl) rfl (by decide)
theorem eMach : ElemT Try.prog 22 54 Mach := .mk' (.agg #[.int .i64 0, .int .i64 0, .int .i64 0]) Try.underlying22 (by kernel_rfl) rfl (by decide)
theorem eBund : ElemT Try.prog 23 58 Bund := .mk' (.agg #[.int .i64 0, .int .i64 0, .int .i64 0]) Try.underlying23 (by kernel_rfl) rfl (by decide)

end Go.Proofs.Yteijmboophnmgaa
