/- An argument that reads as data is a slice under the snapshot of the whole first heap. It speaks of no program. The arguments of the statements as data: numbers, houses, plans. -/
import Derived.Test.YteijmboophnmgaaData
import Derived.Deep.Slices
import Derived.SizedLaws
import Derived.OpenShut
import Derived.Lib.SmallJoins
import Derived.Deep.Strs

namespace Go.Proofs.Yteijmboophnmgaa
open Go.RowKit Go.ChangeShapes Go.WideShapes Go.Deep

/-- The whole heap, as it is. -/
def snapOf (w : World) : Snap := fun b => w.heap[b]?
theorem snapOf_holds (w : World) : Holds (snapOf w) w := ⟨fun _ _ e => e⟩

theorem reps_chunks {α : Type} [Enc α] {H : Snap} (L : List Value) (f : Nat → α) : ∀ (n : Nat), (∀ i, i < n → ∃ cs, Enc.rep H (f i) cs ∧ ∀ j, j < Enc.sz α → L[i * Enc.sz α + j]? = cs[j]?) → reps H ((List.range n).map f) (L.take (n * Enc.sz α))
  | 0, _ => by simp [reps]
  | n + 1, h => by
    obtain ⟨cs, hr, hj⟩ := h n (by omega)
    have hl := Enc.len hr
    have e : L.take ((n + 1) * Enc.sz α) = L.take (n * Enc.sz α) ++ cs := by
      rw [Nat.add_mul, Nat.one_mul, List.take_add]
      congr 1
      apply List.ext_getElem?
      intro j
      rw [List.getElem?_take]
      by_cases hjs : j < Enc.sz α
      · rw [if_pos hjs, List.getElem?_drop]
        exact hj j hjs
      · rw [if_neg hjs, List.getElem?_eq_none (by omega)]
    rw [List.range_succ, List.map_append, e]
    exact reps.append (reps_chunks L f n fun i hi => h i (by omega)) (reps.single hr)

theorem weightsAll_get {H : Type} {P : Program} {e : TypeId} : ∀ {l : List (DataW H)} {i : Nat} {d : DataW H}, l[i]? = some d → ∀ n ∈ d.weights P e, n ∈ DataW.weightsAll P e l
  | d0 :: l, 0, d, h, n, hn => by
    simp only [List.getElem?_cons_zero, Option.some.injEq] at h
    subst h
    simp only [DataW.weightsAll, List.mem_append]
    exact Or.inl hn
  | d0 :: l, i + 1, d, h, n, hn => by
    simp only [List.getElem?_cons_succ] at h
    simp only [DataW.weightsAll, List.mem_append]
    exact Or.inr (weightsAll_get h n hn)
  | [], _, _, h, _, _ => by simp at h

theorem row_of_cell {w : World} {a : Addr} {v : Value} (h : w.cell? a = some v) : ∃ b o cur t fr, a = ⟨b, o, none⟩ ∧ w.heap[b]? = some (.cells cur t fr) := by
  obtain ⟨b, o, s⟩ := a
  unfold World.cell? at h
  split at h
  · next c t fr hb =>
    split at h
    · cases h
    · next hs =>
      cases s with
      | none => exact ⟨b, o, _, _, _, rfl, hb⟩
      | some _ => simp at hs
  · cases h

/-- A slice that reads as data. -/
theorem Sl.opened {α : Type} [Enc α] [Inhabited α] {H : Type} {enc : TypeId × Value → H} {P : Program} {w : World} {sp : Nat → Bool} {hd : Bool} {t e : TypeId} {n : Nat} {v : Value} {y : DataW H × List MemPlace}
    (ht : P.underlying t = some (.slice e)) (hc : P.cellsOf e = Enc.sz α) (hp : 0 < Enc.sz α) (hb : P.bytesOf e = Enc.by_ α)
    (el : ∀ (n : Nat) (cs : List Value) (y : DataW H × List MemPlace), DataW.trod enc P w 0 sp hd n e cs = some y → (∀ k ∈ y.1.weights P e, k ≤ reachBytes) → ∃ x : α, Enc.rep (snapOf w) x cs)
    (h : DataW.trod enc P w 0 sp hd n t [v] = some y) (hw : ∀ k ∈ y.1.weights P t, k ≤ reachBytes) : ∃ xs : List α, Sl (snapOf w) v xs := by
  rcases open_slice ht h with ⟨hcs, _⟩ | ⟨a, len, cap, m, n', D, Pl, hcs, _, hl, hm, hmm, rfl, hx⟩
  · simp at hcs
    subst hcs
    exact ⟨[], Sl.nil0 _⟩
  · simp at hcs
    subst hcs
    have hlm : len ≤ m := by rw [hmm]; split <;> omega
    simp only [DataW.weights, ht, List.mem_cons, List.mem_append] at hw
    have h0 := hw _ (Or.inl rfl)
    simp only [List.length_map, List.length_range, hb] at h0
    have hby : len * Enc.by_ α ≤ 140737488355328 := by
      have h1 : len * Enc.by_ α ≤ (len + (m - len)) * Enc.by_ α := Nat.mul_le_mul_right _ (by omega)
      have h2 : reachBytes ≤ 140737488355328 := by decide
      omega
    have hcap : cap ≤ 9223372036854775807 := by simp only [maxLen] at hm; omega
    by_cases hz : len = 0
    · subst hz
      exact ⟨[], Sl.nil _ _ hcap⟩
    · obtain ⟨cs0, hc0, _⟩ := hx 0 (by omega)
      obtain ⟨_, hl0, hg0⟩ := World.cells?_some hc0
      have hcell0 := hg0 0 (by omega)
      rw [List.getElem?_eq_getElem (by omega)] at hcell0
      obtain ⟨b, o, cur, tt, fr, ha, hrow⟩ := row_of_cell hcell0
      have ha' : a = ⟨b, o, none⟩ := by simpa [Addr.add] using ha
      subst ha'
      have hat : ∀ i, i < len → ∃ cs, (∃ x : α, Enc.rep (snapOf w) x cs) ∧ cs.length = Enc.sz α ∧ ∀ j, j < Enc.sz α → cur[o + i * Enc.sz α + j]? = cs[j]? := fun i hi => by
        obtain ⟨cs, hc1, ht1⟩ := hx i (by omega)
        obtain ⟨_, hl1, hg1⟩ := World.cells?_some hc1
        rw [hc] at hl1 hg1
        refine ⟨cs, el _ _ _ ht1 (fun k hk => hw k (Or.inr (Or.inl (weightsAll_get (i := i) (by simp [hi]) k hk)))), hl1, fun j hj => ?_⟩
        have := hg1 j hj
        rw [Addr.add_lit, Addr.add_lit, cell_of_row w b _ cur tt fr hrow] at this
        exact this
      obtain ⟨f, hf⟩ := choose_lt (α := α) (p := fun i x => ∃ cs, Enc.rep (snapOf w) x cs ∧ cs.length = Enc.sz α ∧ ∀ j, j < Enc.sz α → cur[o + i * Enc.sz α + j]? = cs[j]?) (fun i hi => by
        obtain ⟨cs, ⟨x, hx⟩, hl, hj⟩ := hat i hi
        exact ⟨x, cs, hx, hl, hj⟩)
      have hsz : o + len * Enc.sz α ≤ cur.size := by
        obtain ⟨cs, _, hl1, hj1⟩ := hf (len - 1) (by omega)
        have h1 := hj1 (Enc.sz α - 1) (by omega)
        rw [List.getElem?_eq_getElem (by omega)] at h1
        have h2 := (Array.getElem?_eq_some_iff.1 h1).1
        have h3 : (len - 1) * Enc.sz α + Enc.sz α = len * Enc.sz α := by
          rw [show len * Enc.sz α = (len - 1 + 1) * Enc.sz α by rw [Nat.sub_add_cancel (by omega)], Nat.add_mul, Nat.one_mul]
        omega
      refine ⟨(List.range len).map f, some ⟨b, o, none⟩, cap, by simp, by simpa using hl, hcap, by simpa using hby, .inr ⟨b, o, cur, tt, fr, rfl, hrow, by simpa using hsz, ?_⟩⟩
      rw [List.length_map, List.length_range]
      refine reps_chunks _ f len fun i hi => ?_
      obtain ⟨cs, hr, _, hj⟩ := hf i hi
      refine ⟨cs, hr, fun j hjj => ?_⟩
      rw [List.getElem?_drop, ← hj j hjj, Array.getElem?_toList, ← Nat.add_assoc]

end Go.Proofs.Yteijmboophnmgaa

namespace Go.Proofs.Yteijmboophnmgaa
open Go.RowKit Go.ChangeShapes Go.WideShapes Go.Deep Go.Joins

section
variable {H : Type} {enc : TypeId × Value → H} {W : World} {sp : Nat → Bool} {hd : Bool}

instance : Inhabited Mach := ⟨⟨0, 0, 0⟩⟩
instance : Inhabited Bund := ⟨⟨0, 0, 0⟩⟩

theorem cells_int : Try.prog.cellsOf 3 = 1 := by kernel_rfl
theorem i64_of_wf {n : Int} (h : (Lit.int .i64 n).wf = true) : I64 n := by
  have : -9223372036854775808 ≤ n ∧ n ≤ 9223372036854775807 := by simpa [Lit.wf, IntKind.min, IntKind.max, IntKind.signed, IntKind.bits] using h
  exact this

theorem el_int (n : Nat) (cs : List Value) (y : DataW H × List MemPlace) (h : DataW.trod enc Try.prog W 0 sp hd n 3 cs = some y) : ∃ x : Int, Enc.rep (snapOf W) x cs := by
  obtain ⟨k, rfl, _, hk⟩ := DataW.trod_int Try.underlying3 h
  exact ⟨k, rfl, i64_of_wf hk⟩

theorem three {α : Type} {l : List α} (h : l.length = 3) : ∃ a b c, l = [a, b, c] := by
  match l, h with
  | [a, b, c], _ => exact ⟨a, b, c, rfl⟩

theorem el_mach (n : Nat) (cs : List Value) (y : DataW H × List MemPlace) (h : DataW.trod enc Try.prog W 0 sp hd n 54 cs = some y) : ∃ x : Mach, Enc.rep (snapOf W) x cs := by
  obtain ⟨y0, y1, y2, m, _, hl, h0, h1, h2⟩ := trod_struct3 Try.underlying54 h
  obtain ⟨a, b, c, rfl⟩ := three (hl.trans (by kernel_rfl))
  simp only [cells_int, List.drop_zero, List.drop_succ_cons, List.take_succ_cons, List.take_zero] at h0 h1 h2
  obtain ⟨k0, e0, _, w0⟩ := DataW.trod_int Try.underlying3 h0
  obtain ⟨k1, e1, _, w1⟩ := DataW.trod_int Try.underlying3 h1
  obtain ⟨k2, e2, _, w2⟩ := DataW.trod_int Try.underlying3 h2
  simp at e0 e1 e2
  subst e0; subst e1; subst e2
  exact ⟨⟨k0, k1, k2⟩, show MachRep _ _ from ⟨rfl, i64_of_wf w0, i64_of_wf w1, i64_of_wf w2⟩⟩
theorem el_bund (n : Nat) (cs : List Value) (y : DataW H × List MemPlace) (h : DataW.trod enc Try.prog W 0 sp hd n 58 cs = some y) : ∃ x : Bund, Enc.rep (snapOf W) x cs := by
  obtain ⟨y0, y1, y2, m, _, hl, h0, h1, h2⟩ := trod_struct3 Try.underlying58 h
  obtain ⟨a, b, c, rfl⟩ := three (hl.trans (by kernel_rfl))
  simp only [cells_int, List.drop_zero, List.drop_succ_cons, List.take_succ_cons, List.take_zero] at h0 h1 h2
  obtain ⟨k0, e0, _, w0⟩ := DataW.trod_int Try.underlying3 h0
  obtain ⟨k1, e1, _, w1⟩ := DataW.trod_int Try.underlying3 h1
  obtain ⟨k2, e2, _, w2⟩ := DataW.trod_int Try.underlying3 h2
  simp at e0 e1 e2
  subst e0; subst e1; subst e2
  exact ⟨⟨k0, k1, k2⟩, show BundRep _ _ from ⟨rfl, i64_of_wf w0, i64_of_wf w1, i64_of_wf w2⟩⟩

theorem ints_opened {n : Nat} {v : Value} {y : DataW H × List MemPlace} (h : DataW.trod enc Try.prog W 0 sp hd n 24 [v] = some y) (hw : ∀ k ∈ y.1.weights Try.prog 24, k ≤ reachBytes) : ∃ xs : List Int, Sl (snapOf W) v xs :=
  Sl.opened Try.underlying24 (by kernel_rfl) (by decide) (by kernel_rfl) (fun n cs y h _ => el_int n cs y h) h hw
theorem machs_opened {n : Nat} {v : Value} {y : DataW H × List MemPlace} (h : DataW.trod enc Try.prog W 0 sp hd n 22 [v] = some y) (hw : ∀ k ∈ y.1.weights Try.prog 22, k ≤ reachBytes) : ∃ xs : List Mach, Sl (snapOf W) v xs :=
  Sl.opened Try.underlying22 (by kernel_rfl) (by decide) (by kernel_rfl) (fun n cs y h _ => el_mach n cs y h) h hw
theorem bunds_opened {n : Nat} {v : Value} {y : DataW H × List MemPlace} (h : DataW.trod enc Try.prog W 0 sp hd n 23 [v] = some y) (hw : ∀ k ∈ y.1.weights Try.prog 23, k ≤ reachBytes) : ∃ xs : List Bund, Sl (snapOf W) v xs :=
  Sl.opened Try.underlying23 (by kernel_rfl) (by decide) (by kernel_rfl) (fun n cs y h _ => el_bund n cs y h) h hw
theorem el_ints (n : Nat) (cs : List Value) (y : DataW H × List MemPlace) (h : DataW.trod enc Try.prog W 0 sp hd n 24 cs = some y) (hw : ∀ k ∈ y.1.weights Try.prog 24, k ≤ reachBytes) : ∃ x : List Int, Enc.rep (snapOf W) x cs := by
  obtain ⟨a, l, c, rfl⟩ := slice_form Try.underlying24 h
  obtain ⟨xs, hx⟩ := ints_opened h hw
  exact ⟨xs, _, rfl, hx⟩
theorem lists_opened {n : Nat} {v : Value} {y : DataW H × List MemPlace} (h : DataW.trod enc Try.prog W 0 sp hd n 63 [v] = some y) (hw : ∀ k ∈ y.1.weights Try.prog 63, k ≤ reachBytes) : ∃ xs : List (List Int), Sl (snapOf W) v xs :=
  Sl.opened Try.underlying63 (by kernel_rfl) (by decide) (by kernel_rfl) (fun n cs y h hw => el_ints n cs y h hw) h hw

set_option maxRecDepth 100000 in
/-- A house that is handed in. -/
theorem house_opened {r : Reach} {b0 : Nat} {v : Value} {d : DataW H} {p : List MemPlace} (hv : Value.okWide Try.prog W r b0 26 v) (h : DataW.Trod enc Try.prog W 0 sp hd 26 v d p)
    (hw : ∀ k ∈ d.weights Try.prog 26, k ≤ reachBytes) : ∃ vm vb vt hs, v = houV vm vb vt hs ∧ Hou (snapOf W) vm vb vt hs := by
  obtain ⟨v0, v1, v2, v3, y0, y1, y2, y3, n, rfl, rfl, _, h0, h1, h2, h3⟩ := open_agg4 Try.underlying26 (by kernel_rfl) (by kernel_rfl) hv h
  simp only [DataW.weights, Try.underlying26, List.map_cons, List.map_nil, DataW.weightsEach, List.mem_append, List.append_nil] at hw
  obtain ⟨ms, h0⟩ := machs_opened h0 (fun k hk => hw k (by simp [hk]))
  obtain ⟨bs, h1⟩ := bunds_opened h1 (fun k hk => hw k (by simp [hk]))
  obtain ⟨ts, h2⟩ := ints_opened h2 (fun k hk => hw k (by simp [hk]))
  obtain ⟨c, e, _, hc⟩ := DataW.trod_int Try.underlying3 h3
  simp at e
  subst e
  exact ⟨v0, v1, v2, ⟨ms, bs, ts, c⟩, rfl, ⟨h0, h1, h2, i64_of_wf hc⟩⟩
end

end Go.Proofs.Yteijmboophnmgaa
