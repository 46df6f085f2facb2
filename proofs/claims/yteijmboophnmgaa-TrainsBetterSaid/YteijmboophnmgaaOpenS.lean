/- Structs of numbers that are handed in. -/
import Derived.Test.YteijmboophnmgaaOpen2
namespace Go.Proofs.Yteijmboophnmgaa
open Go.RowKit Go.ChangeShapes Go.WideShapes Go.Deep Go.Joins

section
variable {H : Type} {enc : TypeId × Value → H} {W : World} {sp : Nat → Bool} {hd : Bool}

theorem int_field {n o : Nat} {cs : List Value} {y : DataW H × List MemPlace} (h : DataW.trod enc Try.prog W 0 sp hd n 3 ((cs.drop o).take (Try.prog.cellsOf 3)) = some y) : ∃ k : Int, cs[o]? = some (.int .i64 k) ∧ I64 k := by
  rw [cells_int] at h
  obtain ⟨k, e, _, w⟩ := DataW.trod_int Try.underlying3 h
  refine ⟨k, ?_, i64_of_wf w⟩
  have h1 := congrArg (fun l : List Value => l[0]?) e
  simp only [List.getElem?_take, List.getElem?_drop] at h1
  simpa using h1

theorem array3' {α : Type} {cs : Array α} (h : cs.size = 3) : ∃ a b c, cs = #[a, b, c] := by
  obtain ⟨l⟩ := cs
  match l, h with
  | [a, b, c], _ => exact ⟨a, b, c, rfl⟩
theorem array7 {α : Type} {cs : Array α} (h : cs.size = 7) : ∃ a b c d e f g, cs = #[a, b, c, d, e, f, g] := by
  obtain ⟨l⟩ := cs
  match l, h with
  | [a, b, c, d, e, f, g], _ => exact ⟨a, b, c, d, e, f, g, rfl⟩

set_option maxRecDepth 100000 in
theorem mach_opened {r : Reach} {b0 : Nat} {v : Value} {d : DataW H} {p : List MemPlace} (hv : Value.okWide Try.prog W r b0 54 v) (h : DataW.Trod enc Try.prog W 0 sp hd 54 v d p) :
    ∃ a b c : Int, v = .agg #[.int .i64 a, .int .i64 b, .int .i64 c] ∧ I64 a ∧ I64 b ∧ I64 c := by
  obtain ⟨cs, rfl, hsz⟩ := okWide_struct Try.underlying54 hv
  obtain ⟨c0, c1, c2, rfl⟩ := array3' (hsz.trans (by kernel_rfl))
  obtain ⟨fuel, hf⟩ := h
  obtain ⟨xs, n, _, _, _, hlen, hfld⟩ := DataW.trod_struct Try.underlying54 hf
  simp only [List.size_toArray, List.length_cons, List.length_nil] at hlen
  match xs, hlen with
  | [x0, x1, x2], _ =>
    obtain ⟨k0, e0, i0⟩ := int_field (hfld 0 _ rfl)
    obtain ⟨k1, e1, i1⟩ := int_field (hfld 1 _ rfl)
    obtain ⟨k2, e2, i2⟩ := int_field (hfld 2 _ rfl)
    simp [Value.cells] at e0 e1 e2
    exact ⟨k0, k1, k2, by rw [e0, e1, e2], i0, i1, i2⟩

set_option maxRecDepth 100000 in
theorem better_opened {r : Reach} {b0 : Nat} {v : Value} {d : DataW H} {p : List MemPlace} (hv : Value.okWide Try.prog W r b0 49 v) (h : DataW.Trod enc Try.prog W 0 sp hd 49 v d p) :
    ∃ a b c d e f g : Int, v = .agg #[.int .i64 a, .int .i64 b, .int .i64 c, .int .i64 d, .int .i64 e, .int .i64 f, .int .i64 g] ∧ I64 a ∧ I64 b ∧ I64 c ∧ I64 d ∧ I64 e ∧ I64 f ∧ I64 g := by
  obtain ⟨cs, rfl, hsz⟩ := okWide_struct Try.underlying49 hv
  obtain ⟨c0, c1, c2, c3, c4, c5, c6, rfl⟩ := array7 (hsz.trans (by kernel_rfl))
  obtain ⟨fuel, hf⟩ := h
  obtain ⟨xs, n, _, _, _, hlen, hfld⟩ := DataW.trod_struct Try.underlying49 hf
  simp only [List.size_toArray, List.length_cons, List.length_nil] at hlen
  match xs, hlen with
  | [x0, x1, x2, x3, x4, x5, x6], _ =>
    obtain ⟨k0, e0, i0⟩ := int_field (hfld 0 _ rfl)
    obtain ⟨k1, e1, i1⟩ := int_field (hfld 1 _ rfl)
    obtain ⟨k2, e2, i2⟩ := int_field (hfld 2 _ rfl)
    obtain ⟨k3, e3, i3⟩ := int_field (hfld 3 _ rfl)
    obtain ⟨k4, e4, i4⟩ := int_field (hfld 4 _ rfl)
    obtain ⟨k5, e5, i5⟩ := int_field (hfld 5 _ rfl)
    obtain ⟨k6, e6, i6⟩ := int_field (hfld 6 _ rfl)
    simp [Value.cells] at e0 e1 e2 e3 e4 e5 e6
    exact ⟨k0, k1, k2, k3, k4, k5, k6, by rw [e0, e1, e2, e3, e4, e5, e6], i0, i1, i2, i3, i4, i5, i6⟩
end

end Go.Proofs.Yteijmboophnmgaa
