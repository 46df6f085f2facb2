/- Lemmas and walks on which the claims of this seat lean: NLst NShelf NSort NBack NClo. -/
import Derived.Test.YthcfhmebikcfpaaGreatDoorG05
import Derived.Test.YthcfhmebikcfpaaGreatDoorG06
import Derived.Shelf.Strings.Builder1
import Derived.Shelf.Strings.Trim
import Derived.Shelf.Small.Utf8
import Derived.Shelf.Small.Bits
import Derived.Shelf.Small.Strs
import Derived.Shelf.Strconv.Itoa0
import Derived.Shelf.Strings.Search1
import Derived.Shelf.GgClosure.StringsIndexFunc
import Derived.Ground.GgwProg
import Derived.Shelf.GgClosure.StringsIndexFuncTop
import Derived.Shelf.GgClosure.StringsRunes
import Derived.Shelf.Unicode.Decode
import Derived.Shelf.Strings.Runes
import Derived.Shelf.Strings.AsciiSet
import Derived.Shelf.Unicode.DecodeSlow
import Derived.Shelf.Unicode.DecodeAny
import Derived.Shelf.Unicode.DecodeLast
import Derived.Shelf.Strings.FuncGrows
import Derived.Shelf.SlGeneric
import Derived.Shelf.SlSortCmp.NoneTotal
import Derived.Shelf.SlSortCmp.WholeK
import Derived.Ground.SlsfProg
import Derived.Test.YthcfhmebikcfpaaGreatDoorProg

set_option linter.all false

namespace Go.Proofs.YthcfhmebikcfpaaGreatDoor
open Go.RowKit

theorem setCell_id {w : World} {a : Addr} {v : Value} (h : w.cell? a = some v) : w.setCell a v = w := by
  have e : (w.setCell a v).heap = w.heap := by
    apply Array.ext_getElem?
    intro i
    show (w.heap.modify a.block _)[i]? = _
    rw [Array.getElem?_modify]
    split
    · rename_i hi
      subst hi
      unfold World.cell? at h
      cases hb : w.heap[a.block]? with
      | none => rfl
      | some o =>
        rw [hb] at h
        cases o with
        | cells cs t fr =>
          simp only at h
          split at h
          · cases h
          · rename_i hs
            have hs' : a.spot.isSome = false := by simpa using hs
            simp only [Option.map_some, hs', Bool.false_eq_true, if_false, Option.some.injEq]
            congr 1
            apply Array.ext_getElem?
            intro j
            rw [Array.getElem?_setIfInBounds]
            split
            · rename_i hj; subst hj
              split
              · exact h.symm
              · rename_i hlt; rw [Array.getElem?_eq_none (by omega)] at h; cases h
            · rfl
        | _ => rfl
    · rfl
  calc w.setCell a v = { w with heap := (w.setCell a v).heap } := rfl
    _ = { w with heap := w.heap } := by rw [e]
    _ = w := rfl
theorem reps_set2 {α : Type} [Enc α] (h2 : Enc.sz α = 2) {H : Snap} {y : α} {a b : Value} (hy : Enc.rep H y [a, b]) : ∀ {xs : List α} {cs : List Value} {k : Nat}, reps H xs cs → k < xs.length →
    reps H (xs.set k y) ((cs.set (k * 2) a).set (k * 2 + 1) b)
  | [], _, _, _, hk => by simp at hk
  | x :: xs, cs, k, ⟨c1, c2, e, hx, hr⟩, hk => by
    have hl := Enc.len hx
    rw [h2] at hl
    match c1, hl with
    | [p, q], _ =>
      subst e
      cases k with
      | zero => exact ⟨[a, b], c2, rfl, hy, hr⟩
      | succ k =>
        have hi := reps_set2 h2 hy hr (k := k) (by simpa using hk)
        rw [show (k + 1) * 2 = k * 2 + 2 by omega]
        exact ⟨[p, q], _, rfl, hx, hi⟩
theorem Own.at2 {α : Type} [Enc α] (h2 : Enc.sz α = 2) {H : Snap} {base : Nat} {w : World} {e : TypeId} {v : Value} {xs : List α} {k : Nat} (h : Own H base w e v xs) (hk : k < xs.length) :
    ∃ g c, v = .slice (some ⟨g, 0, none⟩) xs.length c ∧ base ≤ g ∧ H g = none ∧ g < w.heap.size ∧
      ∀ (y : α) (p q : Value), Enc.rep H y [p, q] → Own H base ((w.setCell ⟨g, k * 2, none⟩ p).setCell ⟨g, k * 2 + 1, none⟩ q) e v (xs.set k y) := by
  obtain ⟨cells, ⟨hl, ho⟩, hr, hf, hb⟩ := h
  rcases ho with ⟨rfl, hn⟩ | ⟨g, cap, cur, rfl, hbg, hg, hnc, hcm, hcs, htake⟩
  · omega
  · rw [h2] at hl hcs htake
    refine ⟨g, cap, rfl, hbg, hf g rfl, (Array.getElem?_eq_some_iff.1 hg).1, fun y p q hy => ?_⟩
    refine ⟨_, ⟨?_, .inr ⟨g, cap, (cur.setIfInBounds (k * 2) p).setIfInBounds (k * 2 + 1) q, by rw [List.length_set], hbg, heap_setCell_row (heap_setCell_row hg _) _, by rw [List.length_set]; exact hnc, hcm, by simp [h2, hcs], ?_⟩⟩, reps_set2 h2 hy hr hk, hf, by rw [List.length_set]; exact hb⟩
    · simp [h2, hl]
    · rw [List.length_set, h2]
      simp only [Array.toList_setIfInBounds]
      rw [List.take_set, List.take_set, htake]
/-- A pair of numbers at a place: read, and one of the two written. -/
theorem Own.pr {H : Snap} {base : Nat} {w : World} {e : TypeId} {v : Value} {xs : List Pr} {k : Nat} {p : Pr} (o : Own H base w e v xs) (hp : At xs k p) :
    ∃ g c, v = .slice (some ⟨g, 0, none⟩) xs.length c ∧ (I64 p.s ∧ I64 p.n) ∧ base ≤ g ∧ H g = none ∧ g < w.heap.size ∧ w.cell? ⟨g, k * 2, none⟩ = some (.int .i64 p.s) ∧ w.cell? ⟨g, k * 2 + 1, none⟩ = some (.int .i64 p.n) ∧ (∀ i, w.frozen? ⟨g, i, none⟩ = false) ∧
      (∀ s, I64 s → Own H base (w.setCell ⟨g, k * 2, none⟩ (.int .i64 s)) e v (xs.set k ⟨s, p.n⟩)) ∧ (∀ n, I64 n → Own H base (w.setCell ⟨g, k * 2 + 1, none⟩ (.int .i64 n)) e v (xs.set k ⟨p.s, n⟩)) := by
  obtain ⟨g, c, ds, hv, ⟨hd, h1, h2⟩, hb, hn, hlt, hc, hf⟩ := o.getG hp
  obtain ⟨g', c', hv', _, _, _, hset⟩ := o.at2 rfl hp.lt
  have hgg : g' = g ∧ c' = c := by rw [hv] at hv'; cases hv'; exact ⟨rfl, rfl⟩
  obtain ⟨rfl, rfl⟩ := hgg
  have c0 : w.cell? ⟨g', k * 2, none⟩ = some (.int .i64 p.s) := hc 0 _ (by rw [hd]; rfl)
  have c1 : w.cell? ⟨g', k * 2 + 1, none⟩ = some (.int .i64 p.n) := hc 1 _ (by rw [hd]; rfl)
  refine ⟨g', c', hv, ⟨h1, h2⟩, hb, hn, hlt, c0, c1, hf, fun s hs => ?_, fun n hn => ?_⟩
  · have h := hset ⟨s, p.n⟩ (.int .i64 s) (.int .i64 p.n) ⟨rfl, hs, h2⟩
    have c2 : (w.setCell ⟨g', k * 2, none⟩ (.int .i64 s)).cell? ⟨g', k * 2 + 1, none⟩ = some (.int .i64 p.n) := by
      rw [World.cell?_setCell_other _ _ _ _ (by simp)]; exact c1
    rwa [setCell_id c2] at h
  · have h := hset ⟨p.s, n⟩ (.int .i64 p.s) (.int .i64 n) ⟨rfl, h1, hn⟩
    rwa [setCell_id c0] at h

theorem reps_zero {H : Snap} : ∀ n, reps H (List.replicate n (⟨0, 0⟩ : Pr)) (List.replicate (n * 2) (.int .i64 0))
  | 0 => rfl
  | n + 1 => by
    rw [show (n + 1) * 2 = n * 2 + 2 by omega]
    exact ⟨[.int .i64 0, .int .i64 0], List.replicate (n * 2) (.int .i64 0), rfl, ⟨rfl, ⟨by decide, by decide⟩, ⟨by decide, by decide⟩⟩, reps_zero n⟩
/-- 'make([]T, n)' where an element is two numbers. -/
theorem wpList_makeP {P : Program} {H : Snap} {base : Nat} {w : World} {t e : TypeId} {ops : Array Oper} {rest : List Oper} {o : Oper} {a : Act} {Q : Exit → Act → World → Prop} (T : ElemT P t e Pr)
    (hz : (P.info? e).map (·.zero) = some (some (.agg #[.int .i64 0, .int .i64 0])))
    (hgd : o.guard = none) (x y : Operand) (ho : o.op = .makeSlice t x y) (n : Nat) (hx : a.eval x = .int .i64 (n : Int)) (hy : a.eval y = .int .i64 (n : Int)) (hn : n ≤ 1000000) (hw : Holds H w) (hb : base ≤ w.heap.size)
    (h : ∀ v' w', Own H base w' e v' (List.replicate n (⟨0, 0⟩ : Pr)) → w.grownBy w' none → Holds H w' → wpList P ops Q rest (a.put o.dst v') w') : wpList P ops Q (o :: rest) a w := by
  obtain ⟨i, z, hi, hz', hsz, hby, hzs⟩ := T.inf
  obtain rfl : z = .agg #[.int .i64 0, .int .i64 0] := by rw [hi] at hz; simp at hz; rw [hz] at hz'; exact (Option.some.inj hz').symm
  obtain ⟨w', hr, ho', hg⟩ := run_make_full (P := P) w base t e i _ (Enc.sz Pr) T.und hi hz' hsz .i64 .i64 n (by rw [hby]; simp only [Enc.by_]; omega) (by simp only [maxLen]; omega) hb
  refine wpList_plain hgd fun K hK => ?_
  unfold Oper.wp execOp
  simp only [ho, hx, hy, Sem.run_bind, hr, Result.andThen_ok, Sem.run_pure]
  have hw' : Holds H w' := hw.grown hg (by simp)
  refine hK _ _ (h _ _ ⟨_, by simpa using ho', ?_, fun k hk => ?_, by simp [Enc.by_]; omega⟩ hg hw')
  · have e : (madeCells (Value.agg #[.int .i64 0, .int .i64 0]).cells (n * Enc.sz Pr)).toList = List.replicate (n * 2) (.int .i64 0) := by
      show (madeCells #[Value.int .i64 0, .int .i64 0] (n * 2)).toList = _
      simp [madeCells]
      apply List.ext_getElem
      · simp
      · intro k a b
        have : k % 2 = 0 ∨ k % 2 = 1 := by omega
        rcases this with h | h <;> simp [h]
    rw [e]
    exact reps_zero n
  · simp [Value.ownBlock] at hk; exact hw.none_of_ge (by omega)

structure LSt (w0 : World) (H0 : Snap) (NB : Nat) (ov : Value) (os : List Pr) (w : World) (H : Snap) (nv : Value) (l : List Nod) : Prop where
  x : Ext w0 H0 w H
  o : Own H w0.heap.size w 47 ov os
  nb : w.heap[NB]? = some (.cells #[nv] 91 (0, 0))
  nbl : w0.heap.size ≤ NB
  nbH : H NB = none
  n : Own H w0.heap.size w 94 nv l
section
variable {w0 w w' : World} {H0 H H' : Snap} {NB : Nat} {ov nv : Value} {os : List Pr} {l : List Nod}
theorem LSt.lt (s : LSt w0 H0 NB ov os w H nv l) : NB < w.heap.size := (Array.getElem?_eq_some_iff.1 s.nb).1
theorem LSt.ext (s : LSt w0 H0 NB ov os w H nv l) (y : Ext w H w' H') : LSt w0 H0 NB ov os w' H' nv l :=
  ⟨s.x.trans y, s.o.ext s.x.holds y, (y.below.block NB s.lt).trans s.nb, s.nbl, (y.same NB s.lt).trans s.nbH, s.n.ext s.x.holds y⟩
theorem LSt.alloc (s : LSt w0 H0 NB ov os w H nv l) (o : Obj) : LSt w0 H0 NB ov os (w.alloc o) H nv l := s.ext ((Ext.refl s.x.holds).alloc o)
/-- A block that has just been made is frozen. -/
theorem ext_put (hw : Holds H w) (cs : Array Value) (T : TypeId) : Ext w H (w.alloc (.cells cs T)) (H.put w.heap.size (.cells cs T (0, 0))) := ((Ext.refl hw).alloc _).freeze (Nat.le_refl _) (heap_alloc_new w _)
theorem LSt.oNB (s : LSt w0 H0 NB ov os w H nv l) : ov.ownBlock ≠ some NB := fun e => by
  obtain ⟨cur, hc⟩ := s.o.row_type e
  rw [s.nb] at hc
  simp at hc
theorem LSt.nNB (s : LSt w0 H0 NB ov os w H nv l) : nv.ownBlock ≠ some NB := fun e => by
  obtain ⟨cur, hc⟩ := s.n.row_type e
  rw [s.nb] at hc
  simp at hc
theorem LSt.apart (s : LSt w0 H0 NB ov os w H nv l) : ∀ g, ov.ownBlock = some g → nv.ownBlock ≠ some g := fun g e1 e2 => by
  obtain ⟨c1, h1⟩ := s.o.row_type e1
  obtain ⟨c2, h2⟩ := s.n.row_type e2
  rw [h1] at h2
  simp at h2
/-- The nodes have turned, all else but their two blocks stands. -/
theorem LSt.turn {nv' : Value} {l' : List Nod} (s : LSt w0 H0 NB ov os w H nv l) (h1 : w'.heap[NB]? = some (.cells #[nv'] 91 (0, 0))) (h2 : Own H w0.heap.size w' 94 nv' l')
    (h4 : w'.os = w.os) (h5 : w'.tape = w.tape) (h6 : w'.output = w.output) (h7 : w.heap.size ≤ w'.heap.size) (h8 : ∀ b, b < w.heap.size → b ≠ NB → nv.ownBlock ≠ some b → w'.heap[b]? = w.heap[b]?) : LSt w0 H0 NB ov os w' H nv' l' := by
  have hx := s.x.below
  refine ⟨⟨⟨h4.trans hx.os, h5.trans hx.tape, h6.trans hx.output, Nat.le_trans hx.size h7, fun b hb => ?_⟩, ⟨fun b o e => ?_⟩, s.x.same⟩, s.o.same fun b e => ?_, h1, s.nbl, s.nbH, h2⟩
  · have hbw := Nat.lt_of_lt_of_le hb hx.size
    exact (h8 b hbw (by have := s.nbl; omega) (fun e => by have := (s.n.lt b e).1; omega)).trans (hx.block b hb)
  · have hbw := s.x.holds.lt e
    exact (h8 b hbw (fun e2 => by rw [e2, s.nbH] at e; cases e) (fun e2 => by rw [s.n.free b e2] at e; cases e)).trans (s.x.holds.at_ b o e)
  · exact h8 b (s.o.lt b e).2 (fun e2 => s.oNB (by rw [e, e2])) (s.apart b e)
/-- A number is written into the lengths. -/
theorem LSt.setS (s : LSt w0 H0 NB ov os w H nv l) {k : Nat} {p : Pr} (hp : At os k p) :
    ∃ g c, ov = .slice (some ⟨g, 0, none⟩) os.length c ∧ (I64 p.s ∧ I64 p.n) ∧ g ≠ NB ∧ g < w.heap.size ∧ w.cell? ⟨g, k * 2, none⟩ = some (.int .i64 p.s) ∧ w.cell? ⟨g, k * 2 + 1, none⟩ = some (.int .i64 p.n) ∧ (∀ i, w.frozen? ⟨g, i, none⟩ = false) ∧
      (∀ x, I64 x → LSt w0 H0 NB ov (os.set k ⟨x, p.n⟩) (w.setCell ⟨g, k * 2, none⟩ (.int .i64 x)) H nv l) ∧ (∀ x, I64 x → LSt w0 H0 NB ov (os.set k ⟨p.s, x⟩) (w.setCell ⟨g, k * 2 + 1, none⟩ (.int .i64 x)) H nv l) := by
  obtain ⟨g, c, hv, hi, hb, hn, hlt, c0, c1, hf, h1, h2⟩ := s.o.pr hp
  have hob : ov.ownBlock = some g := by rw [hv]; rfl
  have hne : g ≠ NB := fun e => s.oNB (by rw [hob, e])
  have hnn : nv.ownBlock ≠ some g := s.apart g hob
  refine ⟨g, c, hv, hi, hne, hlt, c0, c1, hf, fun x hx => ?_, fun x hx => ?_⟩
  · exact ⟨s.x.setCell (a := ⟨g, k * 2, none⟩) hb hn _, h1 x hx, (heap_setCell_other w ⟨g, k * 2, none⟩ NB _ (fun e => hne e.symm)).trans s.nb, s.nbl, s.nbH, s.n.setCell (a := ⟨g, k * 2, none⟩) hnn _⟩
  · exact ⟨s.x.setCell (a := ⟨g, k * 2 + 1, none⟩) hb hn _, h2 x hx, (heap_setCell_other w ⟨g, k * 2 + 1, none⟩ NB _ (fun e => hne e.symm)).trans s.nb, s.nbl, s.nbH, s.n.setCell (a := ⟨g, k * 2 + 1, none⟩) hnn _⟩
/-- The nodes have been appended to; the variable is written. -/
theorem LSt.put {nv' : Value} {l' : List Nod} (s : LSt w0 H0 NB ov os w H nv l) (hg : w.grownBy w' nv.ownBlock) (h2 : Own H w0.heap.size w' 94 nv' l') :
    w'.cell? ⟨NB, 0, none⟩ = some nv ∧ w'.frozen? ⟨NB, 0, none⟩ = false ∧ LSt w0 H0 NB ov os (w'.setCell ⟨NB, 0, none⟩ nv') H nv' l' := by
  have hnb := (hg.block NB s.lt (fun e => s.nNB e.symm)).trans s.nb
  have hn' : nv'.ownBlock ≠ some NB := fun e => by
    obtain ⟨cur, hc⟩ := h2.row_type e
    rw [hnb] at hc
    simp at hc
  refine ⟨by rw [Lib.cell_of_heap hnb]; rfl, Lib.frozen_of_heap hnb 0, s.turn (heap_set_same (i := 0) hnb nv') (h2.setCell (a := ⟨NB, 0, none⟩) hn' nv') hg.os hg.tape hg.output (by simpa using hg.size) fun b h3 h4 h5 => ?_⟩
  exact (heap_setCell_other w' ⟨NB, 0, none⟩ b nv' h4).trans (hg.block b h3 (fun e => h5 e.symm))
end
end Go.Proofs.YthcfhmebikcfpaaGreatDoor

namespace Go.Proofs
open Go.Shelf
def Tryz.lays160_ren : Go.Shelf.Ren := ⟨fun | 160 => 72 | 232 => 92 | 231 => 91 | 227 => 93 | 234 => 95 | 233 => 94 | 236 => 97 | 235 => 96 | 228 => 114 | 271 => 116 | 151 => 71 | 197 => 115 | 120 => 123 | 152 => 90 | 260 => 122 | 137 => 67 | 119 => 111 | 224 => 112 | 225 => 113 | 217 => 88 | 266 => 109 | n => n, fun | 9 => 9 | 4 => 4 | 3 => 3 | 5 => 5 | 117 => 131 | 116 => 130 | 0 => 0 | 124 => 134 | 21 => 21 | 105 => 149 | 46 => 121 | 119 => 159 | 139 => 162 | 138 => 161 | n => n, fun | 3 => 1 | 4 => 2 | n => n⟩
theorem Tryz.lays160 : Go.Proofs.Lays.n160 Tryz.prog Tryz.lays160_ren := {
  mixed := by kernel_rfl
  f119 := Tryz.func111.trans (congrArg some (by kernel_rfl))
  f120 := Tryz.func123.trans (congrArg some (by kernel_rfl))
  f137 := Tryz.func67.trans (congrArg some (by kernel_rfl))
  f151 := Tryz.func71.trans (congrArg some (by kernel_rfl))
  f152 := Tryz.func90.trans (congrArg some (by kernel_rfl))
  f160 := Tryz.func72.trans (congrArg some (by kernel_rfl))
  f197 := Tryz.func115.trans (congrArg some (by kernel_rfl))
  f217 := Tryz.func88.trans (congrArg some (by kernel_rfl))
  f224 := Tryz.func112.trans (congrArg some (by kernel_rfl))
  f225 := Tryz.func113.trans (congrArg some (by kernel_rfl))
  f227 := Tryz.func93.trans (congrArg some (by kernel_rfl))
  f228 := Tryz.func114.trans (congrArg some (by kernel_rfl))
  f231 := Tryz.func91.trans (congrArg some (by kernel_rfl))
  f232 := Tryz.func92.trans (congrArg some (by kernel_rfl))
  f233 := Tryz.func94.trans (congrArg some (by kernel_rfl))
  f234 := Tryz.func95.trans (congrArg some (by kernel_rfl))
  f235 := Tryz.func96.trans (congrArg some (by kernel_rfl))
  f236 := Tryz.func97.trans (congrArg some (by kernel_rfl))
  f260 := Tryz.func122.trans (congrArg some (by kernel_rfl))
  f266 := Tryz.func109.trans (congrArg some (by kernel_rfl))
  f271 := Tryz.func116.trans (congrArg some (by kernel_rfl))
  t0 := Tryz.underlying0
  a0 := Tryz.isAgg0
  z0 := Tryz.sizeOf0
  v0 := Tryz.zeroValue0
  t3 := Tryz.underlying3
  a3 := Tryz.isAgg3
  z3 := Tryz.sizeOf3
  v3 := Tryz.zeroValue3
  t4 := Tryz.underlying4
  a4 := Tryz.isAgg4
  z4 := Tryz.sizeOf4
  v4 := Tryz.zeroValue4
  t5 := Tryz.underlying5
  a5 := Tryz.isAgg5
  z5 := Tryz.sizeOf5
  v5 := Tryz.zeroValue5
  t9 := Tryz.underlying9
  a9 := Tryz.isAgg9
  z9 := Tryz.sizeOf9
  v9 := Tryz.zeroValue9
  t21 := Tryz.underlying21
  a21 := Tryz.isAgg21
  z21 := Tryz.sizeOf21
  v21 := Tryz.zeroValue21
  t46 := Tryz.underlying121
  a46 := Tryz.isAgg121
  z46 := Tryz.sizeOf121
  v46 := Tryz.zeroValue121
  t105 := Tryz.underlying149
  a105 := Tryz.isAgg149
  z105 := Tryz.sizeOf149
  v105 := Tryz.zeroValue149
  t116 := Tryz.underlying130
  a116 := Tryz.isAgg130
  z116 := Tryz.sizeOf130
  t117 := Tryz.underlying131
  a117 := Tryz.isAgg131
  z117 := Tryz.sizeOf131
  v117 := Tryz.zeroValue131
  t119 := Tryz.underlying159
  a119 := Tryz.isAgg159
  z119 := Tryz.sizeOf159
  t124 := Tryz.underlying134
  a124 := Tryz.isAgg134
  z124 := Tryz.sizeOf134
  v124 := Tryz.zeroValue134
  t138 := Tryz.underlying161
  a138 := Tryz.isAgg161
  z138 := Tryz.sizeOf161
  v138 := Tryz.zeroValue161
  t139 := Tryz.underlying162
  a139 := Tryz.isAgg162
  z139 := Tryz.sizeOf162
  v139 := Tryz.zeroValue162
  g3 := by kernel_rfl
  g4 := by kernel_rfl }
open Go.RowKit in
/-- strings.Trim: "Trim returns a slice of the string s with all leading and trailing Unicode code points contained in cutset removed.": AT A cutset OF ONE ASCII BYTE. THE WORLD BEHIND IT: as it was, or (where s is not empty) with ONE DRAW MORE off the tape: the statement 'return trimLeftByte(trimRightByte(s, c), c)' draws its order of evaluation. (LAID: no walk: one application.) -/
theorem Tryz.strings_Trim_one (s : ByteArray) (c : UInt8) (hc : c.toNat < 128) (w : World) (hs : s.size ≤ 9223372036854775807) :
    Calls Tryz.prog 72 #[.string s, .string ⟨#[c]⟩] w fun e w' => e = .returned (.string ⟨(Lib.trimB s.data.toList c).toArray⟩) ∧ (w' = w ∨ w' = w.drew) := Any.strings_Trim_one Tryz.lays160 s c hc w hs
def Tryz.lays119_ren : Go.Shelf.Ren := ⟨fun | 119 => 111 | n => n, fun | 21 => 21 | 4 => 4 | n => n, fun | n => n⟩
theorem Tryz.lays119 : Go.Proofs.Lays.n119 Tryz.prog Tryz.lays119_ren := {
  mixed := by kernel_rfl
  f119 := Tryz.func111.trans (congrArg some (by kernel_rfl))
  t4 := Tryz.underlying4
  a4 := Tryz.isAgg4
  z4 := Tryz.sizeOf4
  v4 := Tryz.zeroValue4
  t21 := Tryz.underlying21
  a21 := Tryz.isAgg21
  z21 := Tryz.sizeOf21
  v21 := Tryz.zeroValue21 }
/-- utf8.ValidRune: "ValidRune reports whether r can be legally encoded as UTF-8. Code points that are out of range or a surrogate half are illegal.": IT RETURNS 'Lib.validRune r'; the world is as it was. (LAID: no walk: one application.) -/
theorem Tryz.utf8_ValidRune (r : Int) (w : World) :
    Calls Tryz.prog 111 #[.int .i32 r] w fun e w' => e = .returned (.bool (Lib.validRune r)) ∧ w' = w := Any.utf8_ValidRune Tryz.lays119 r w
def Tryz.lays137_ren : Go.Shelf.Ren := ⟨fun | 137 => 67 | 217 => 88 | 266 => 109 | n => n, fun | 9 => 9 | 5 => 5 | 3 => 3 | n => n, fun | n => n⟩
theorem Tryz.lays137 : Go.Proofs.Lays.n137 Tryz.prog Tryz.lays137_ren := {
  mixed := by kernel_rfl
  f137 := Tryz.func67.trans (congrArg some (by kernel_rfl))
  f217 := Tryz.func88.trans (congrArg some (by kernel_rfl))
  f266 := Tryz.func109.trans (congrArg some (by kernel_rfl))
  t3 := Tryz.underlying3
  a3 := Tryz.isAgg3
  z3 := Tryz.sizeOf3
  v3 := Tryz.zeroValue3
  t5 := Tryz.underlying5
  a5 := Tryz.isAgg5
  z5 := Tryz.sizeOf5
  v5 := Tryz.zeroValue5
  t9 := Tryz.underlying9
  a9 := Tryz.isAgg9
  z9 := Tryz.sizeOf9
  v9 := Tryz.zeroValue9 }
open Go.RowKit in
/-- strings.IndexByte: "IndexByte returns the index of the first instance of c in s, or -1 if c is not present in s.": IT RETURNS 'Lib.indexByte s c'; the world is as it was. (LAID: no walk: one application.) -/
theorem Tryz.strings_IndexByte (s : ByteArray) (c : Int) (w : World) :
    Calls Tryz.prog 67 #[.string s, .int .u8 c] w fun e w' => e = .returned (.int .i64 (Lib.indexByte s.data.toList c.toNat.toUInt8)) ∧ w' = w := Any.strings_IndexByte Tryz.lays137 s c w
def Tryz.laysGw17_ren : Go.Shelf.Ren := ⟨fun | 17 => 69 | 15 => 89 | 20 => 110 | n => n, fun | 9 => 9 | 23 => 106 | 4 => 4 | 3 => 3 | 0 => 0 | 21 => 21 | n => n, fun | n => n⟩
theorem Tryz.laysGw17 : Go.Proofs.LaysGw.n17 Tryz.prog Tryz.laysGw17_ren := {
  mixed := by kernel_rfl
  f15 := Tryz.func89.trans (congrArg some (by kernel_rfl))
  f17 := Tryz.func69.trans (congrArg some (by kernel_rfl))
  f20 := Tryz.func110.trans (congrArg some (by kernel_rfl))
  t0 := Tryz.underlying0
  a0 := Tryz.isAgg0
  z0 := Tryz.sizeOf0
  v0 := Tryz.zeroValue0
  i0 := by kernel_rfl
  t3 := Tryz.underlying3
  a3 := Tryz.isAgg3
  z3 := Tryz.sizeOf3
  v3 := Tryz.zeroValue3
  i3 := by kernel_rfl
  t4 := Tryz.underlying4
  a4 := Tryz.isAgg4
  z4 := Tryz.sizeOf4
  v4 := Tryz.zeroValue4
  i4 := by kernel_rfl
  t9 := Tryz.underlying9
  a9 := Tryz.isAgg9
  z9 := Tryz.sizeOf9
  v9 := Tryz.zeroValue9
  i9 := by kernel_rfl
  t21 := Tryz.underlying21
  a21 := Tryz.isAgg21
  z21 := Tryz.sizeOf21
  v21 := Tryz.zeroValue21
  i21 := by kernel_rfl
  t23 := Tryz.underlying106
  a23 := Tryz.isAgg106
  z23 := Tryz.sizeOf106
  v23 := Tryz.zeroValue106
  i23 := by kernel_rfl }
open Go.RowKit Go.Lib in
theorem Tryz.strings_ContainsFunc_runes (g : Nat) (lb : Array Value) (eg : ∀ args w, (callFunc g args).run Tryz.prog w = .ok (.enter g args) w) (p : Nat → Bool) (s : ByteArray) (w : World) (hp : PredAtRunes Tryz.prog g lb p w) :
    Calls Tryz.prog 69 #[.string s, .func (.func g) #[] lb] w fun e w' => e = .returned (.bool (decide (0 ≤ Lib.idxFunc p true s))) ∧ Below w.heap.size w w' := Any.strings_ContainsFunc_runes Tryz.laysGw17 g lb eg p s w hp
def Tryz.sortLen_ren : Go.Shelf.Ren := ⟨fun | 6 => 53 | 15 => 83 | 14 => 82 | 28 => 107 | 29 => 108 | 20 => 99 | 21 => 100 | 22 => 101 | 23 => 102 | 24 => 103 | 25 => 104 | 26 => 105 | 27 => 106 | 46 => 117 | 47 => 118 | 48 => 119 | 49 => 120 | 50 => 121 | 57 => 124 | n => n, fun | 22 => 32 | 24 => 47 | 25 => 85 | 3 => 3 | 39 => 121 | 0 => 0 | 53 => 143 | 55 => 145 | 4 => 4 | 46 => 137 | 45 => 136 | 50 => 108 | 5 => 5 | 9 => 9 | 66 => 151 | 70 => 155 | 76 => 157 | 77 => 115 | n => n, fun | n => n⟩
theorem Tryz.sortLen : Go.Proofs.SlLaysF0.n6 Tryz.prog Tryz.sortLen_ren := {
  mixed := by kernel_rfl
  f6 := ⟨Tryz.f53.name, by decide, Tryz.func53.trans (congrArg some (by kernel_rfl))⟩
  f14 := ⟨Tryz.f82.name, by decide, Tryz.func82.trans (congrArg some (by kernel_rfl))⟩
  f15 := Tryz.func83.trans (congrArg some (by kernel_rfl))
  f20 := ⟨Tryz.f99.name, by decide, Tryz.func99.trans (congrArg some (by kernel_rfl))⟩
  f21 := ⟨Tryz.f100.name, by decide, Tryz.func100.trans (congrArg some (by kernel_rfl))⟩
  f22 := ⟨Tryz.f101.name, by decide, Tryz.func101.trans (congrArg some (by kernel_rfl))⟩
  f23 := ⟨Tryz.f102.name, by decide, Tryz.func102.trans (congrArg some (by kernel_rfl))⟩
  f24 := ⟨Tryz.f103.name, by decide, Tryz.func103.trans (congrArg some (by kernel_rfl))⟩
  f25 := ⟨Tryz.f104.name, by decide, Tryz.func104.trans (congrArg some (by kernel_rfl))⟩
  f26 := ⟨Tryz.f105.name, by decide, Tryz.func105.trans (congrArg some (by kernel_rfl))⟩
  f27 := ⟨Tryz.f106.name, by decide, Tryz.func106.trans (congrArg some (by kernel_rfl))⟩
  f28 := Tryz.func107.trans (congrArg some (by kernel_rfl))
  f29 := Tryz.func108.trans (congrArg some (by kernel_rfl))
  f46 := ⟨Tryz.f117.name, by decide, Tryz.func117.trans (congrArg some (by kernel_rfl))⟩
  f47 := Tryz.func118.trans (congrArg some (by kernel_rfl))
  f48 := Tryz.func119.trans (congrArg some (by kernel_rfl))
  f49 := ⟨Tryz.f120.name, by decide, Tryz.func120.trans (congrArg some (by kernel_rfl))⟩
  f50 := ⟨Tryz.f121.name, by decide, Tryz.func121.trans (congrArg some (by kernel_rfl))⟩
  f57 := ⟨Tryz.f124.name, by decide, Tryz.func124.trans (congrArg some (by kernel_rfl))⟩
  t0 := Tryz.underlying0
  a0 := Tryz.isAgg0
  z0 := Tryz.sizeOf0
  v0 := Tryz.zeroValue0
  t3 := Tryz.underlying3
  a3 := Tryz.isAgg3
  z3 := Tryz.sizeOf3
  v3 := Tryz.zeroValue3
  t4 := Tryz.underlying4
  a4 := Tryz.isAgg4
  z4 := Tryz.sizeOf4
  v4 := Tryz.zeroValue4
  t5 := Tryz.underlying5
  a5 := Tryz.isAgg5
  z5 := Tryz.sizeOf5
  v5 := Tryz.zeroValue5
  t9 := Tryz.underlying9
  a9 := Tryz.isAgg9
  z9 := Tryz.sizeOf9
  v9 := Tryz.zeroValue9
  t22 := Tryz.underlying32
  a22 := Tryz.isAgg32
  z22 := Tryz.sizeOf32
  v22 := Tryz.zeroValue32
  t25 := Tryz.underlying85
  a25 := Tryz.isAgg85
  z25 := Tryz.sizeOf85
  v25 := Tryz.zeroValue85
  t39 := Tryz.underlying121
  a39 := Tryz.isAgg121
  z39 := Tryz.sizeOf121
  v39 := Tryz.zeroValue121
  t45 := Tryz.underlying136
  a45 := Tryz.isAgg136
  z45 := Tryz.sizeOf136
  v45 := Tryz.zeroValue136
  t46 := Tryz.underlying137
  a46 := Tryz.isAgg137
  z46 := Tryz.sizeOf137
  v46 := Tryz.zeroValue137
  t50 := Tryz.underlying108
  a50 := Tryz.isAgg108
  z50 := Tryz.sizeOf108
  v50 := Tryz.zeroValue108
  t53 := Tryz.underlying143
  a53 := Tryz.isAgg143
  z53 := Tryz.sizeOf143
  v53 := Tryz.zeroValue143
  t55 := Tryz.underlying145
  a55 := Tryz.isAgg145
  z55 := Tryz.sizeOf145
  v55 := Tryz.zeroValue145
  t66 := Tryz.underlying151
  a66 := Tryz.isAgg151
  z66 := Tryz.sizeOf151
  v66 := Tryz.zeroValue151
  t70 := Tryz.underlying155
  a70 := Tryz.isAgg155
  z70 := Tryz.sizeOf155
  v70 := Tryz.zeroValue155
  t76 := Tryz.underlying157
  a76 := Tryz.isAgg157
  z76 := Tryz.sizeOf157
  v76 := Tryz.zeroValue157
  t77 := Tryz.underlying115
  a77 := Tryz.isAgg115
  z77 := Tryz.sizeOf115
  v77 := Tryz.zeroValue115 }
end Go.Proofs

namespace Go.Proofs.YthcfhmebikcfpaaGreatDoor
open Go.RowKit

attribute [local go_sem] Holds.drew Holds.alloc Holds.drewN WB.holds Oper.semAt_some

abbrev SP := { p : Pr // SmallP p }
instance : Inhabited SP := ⟨⟨⟨0, 0⟩, by decide, by decide⟩⟩
def encSP (x : SP) : List Value := [.int .i64 x.1.s, .int .i64 x.1.n]
def cfSP (x y : SP) : Int := codeCmp x.1 y.1
theorem ltOf_SP (x y : SP) : Go.Proofs.ltOf cfSP x y = ltP x.1 y.1 := rfl
theorem swoSP : Go.Sort.SWO (Go.Proofs.ltOf cfSP) where
  irrefl x := by rw [ltOf_SP, ← Bool.not_eq_true, ltP_iff]; omega
  trans x y z h1 h2 := by rw [ltOf_SP, ltP_iff] at *; omega
  ntrans x y z h1 h2 := by rw [ltOf_SP, ← Bool.not_eq_true, ltP_iff] at *; omega
theorem totSP (x y : SP) (h1 : Go.Proofs.ltOf cfSP x y = false) (h2 : Go.Proofs.ltOf cfSP y x = false) : x = y := by
  rw [ltOf_SP, ← Bool.not_eq_true, ltP_iff] at h1 h2
  apply Subtype.ext
  obtain ⟨⟨a, b⟩, _⟩ := x
  obtain ⟨⟨c, d⟩, _⟩ := y
  simp only [Pr.mk.injEq]
  simp only at h1 h2
  omega
theorem cmpLaysSP (blk off size : Nat) (w : World) : Go.Proofs.CmpLays Tryz.prog 54 #[] encSP 2 cfSP blk off size w := by
  intro m os dk _ x y
  refine (codedCmp_any x.1 y.1 x.2 y.2 _).mono ?_
  rintro e w' ⟨rfl, A, B, C, rfl⟩
  exact ⟨rfl, 0, #[A, B, C], by rw [Go.Sort.alloc_eq_grow, Go.Sort.alloc_eq_grow, Go.Sort.alloc_eq_grow, Go.Sort.grow_grow, Go.Sort.grow_grow]; rfl⟩

theorem reps_of_cells {H : Snap} : ∀ {xs : List Pr} {cs : List Value}, cs.length = xs.length * 2 → (∀ p ∈ xs, I64 p.s ∧ I64 p.n) → (∀ i p, At xs i p → cs[i * 2]? = some (.int .i64 p.s) ∧ cs[i * 2 + 1]? = some (.int .i64 p.n)) → reps H xs cs
  | [], cs, hl, _, _ => List.eq_nil_of_length_eq_zero (by simpa using hl)
  | p :: xs, c0 :: c1 :: cs, hl, hi, hc => by
    have h0 := hc 0 p rfl
    simp at h0
    refine ⟨[c0, c1], cs, rfl, ⟨by rw [h0.1, h0.2], hi p (by simp)⟩, reps_of_cells (by simp at hl; omega) (fun q hq => hi q (by simp [hq])) fun i q hq => ?_⟩
    have h := hc (i + 1) q (by simpa [At] using hq)
    rw [show (i + 1) * 2 = i * 2 + 2 by omega, show i * 2 + 2 + 1 = i * 2 + 1 + 2 by omega] at h
    simpa using h
  | p :: xs, [c0], hl, _, _ => by simp at hl; omega
  | p :: xs, [], hl, _, _ => by simp at hl

theorem nSort_any (g cap : Nat) (l : List Pr) (hsm : ∀ p ∈ l, SmallP p) (hl : l.length ≤ 1000) (H : Snap) (base : Nat) (w : World) (o : Own H base w 47 (.slice (some ⟨g, 0, none⟩) l.length cap) l) :
    Calls Tryz.prog 53 #[.slice (some ⟨g, 0, none⟩) l.length cap, .func (.func 54) #[] #[]] w (fun e w' => e = .returned (.tuple #[]) ∧ Own H base w' 47 (.slice (some ⟨g, 0, none⟩) l.length cap) (sortA l) ∧ w'.os = w.os ∧ w'.tape = w.tape ∧ w'.output = w.output ∧ w.heap.size ≤ w'.heap.size ∧ ∀ b, b < w.heap.size → b ≠ g → w'.heap[b]? = w.heap[b]?) := by
  obtain ⟨cells, ⟨hcl, ho⟩, hr, hf, hby⟩ := o
  have o : Own H base w 47 (.slice (some ⟨g, 0, none⟩) l.length cap) l := ⟨cells, ⟨hcl, ho⟩, hr, hf, hby⟩
  rcases ho with ⟨h0, _⟩ | ⟨g', cap', cur, hv, hbg, hg, hnc, hcm, hcs, htake⟩
  · cases h0
  cases hv
  have hgl : g < w.heap.size := (Array.getElem?_eq_some_iff.1 hg).1
  obtain ⟨xs, hxs⟩ : ∃ xs : List SP, xs.map Subtype.val = l := ⟨l.attachWith SmallP hsm, by simp⟩
  have hxl : xs.toArray.size = l.length := by rw [← hxs]; simp
  have hat : ∀ i (hi : i < l.length), ∃ x : SP, xs.toArray[i]! = x ∧ At l i x.1 := fun i hi => by
    have hi2 : i < xs.length := by rw [← hxs] at hi; simpa using hi
    refine ⟨xs[i], by rw [getElem!_pos xs.toArray i (by simpa using hi2)]; simp, ?_⟩
    show l[i]? = _
    rw [← hxs, List.getElem?_map, List.getElem?_eq_getElem hi2]; rfl
  have hH : Go.Sort.HoldsK encSP 2 w g 0 xs.toArray := by
    intro j hj
    rw [Go.Sort.size_flatK, hxl] at hj
    have hj2 : j / 2 < l.length := by omega
    obtain ⟨x, hx, hax⟩ := hat (j / 2) hj2
    obtain ⟨g2, c2, hv2, _, _, _, _, s1, s2, hfz, _⟩ := o.pr hax
    cases hv2
    rw [Go.Sort.get_flatK _ _ _ _ (by rw [hxl]; exact hj), hx]
    refine ⟨?_, by rw [Nat.zero_add]; exact hfz j⟩
    rw [Nat.zero_add]
    rcases Nat.mod_two_eq_zero_or_one j with h | h
    · have e : j / 2 * 2 = j := by omega
      rw [e] at s1
      rw [h]
      exact s1
    · have e : j / 2 * 2 + 1 = j := by omega
      rw [e] at s2
      rw [h]
      exact s2
  have eg : ∀ args w, (callFunc 54 args).run Tryz.prog w = .ok (.enter 54 args) w := enters_of Tryz.func54 (by kernel_rfl) rfl
  have hcon := Go.Proofs.AnyQ.slices_SortFunc_total Tryz.sortLen 2 Tryz.isAgg47 Tryz.sizeOf47 encSP (fun _ => rfl) (fun x v hv => by simp [encSP] at hv; rcases hv with rfl | rfl <;> rfl) cfSP swoSP 54 #[] g 0 cap xs.toArray w eg (cmpLaysSP g 0 _ w) hH hgl (by rw [hxl]; omega) totSP
  rw [hxl] at hcon
  refine hcon.mono ?_
  rintro e w' ⟨rfl, n, os, rfl⟩
  have hmap : (xs.mergeSort fun x y => !(Go.Proofs.ltOf cfSP) y x).map Subtype.val = sortA l := by
    unfold sortA
    rw [← hxs]
    exact List.map_mergeSort fun a _ b _ => rfl
  generalize (xs.mergeSort fun x y => !(Go.Proofs.ltOf cfSP) y x) = S at *
  have hSl : S.length = l.length := by
    have := congrArg List.length hmap
    rw [List.length_map] at this
    rw [this]; exact (sortA_perm l).length_eq
  have hsz : (sortA l).length = l.length := (sortA_perm l).length_eq
  generalize hF : Go.Sort.flatK encSP 2 S.toArray = F
  have hFs : F.size = l.length * 2 := by rw [← hF, Go.Sort.size_flatK]; simp [hSl]
  have hrow : (Go.Proofs.sortWorldK encSP 2 w g 0 n S.toArray os).heap[g]? = some (.cells (Go.Sort.putCells id 0 F cur) 47 (0, 0)) := by
    unfold Go.Proofs.sortWorldK Go.Sort.putRowK Go.Sort.putRow
    rw [hF]
    show ((w.heap.modify g _) ++ os)[g]? = _
    rw [Array.getElem?_append_left (by simpa using hgl), Array.getElem?_modify, if_pos rfl, hg]
    rfl
  have hoth : ∀ b, b < w.heap.size → b ≠ g → (Go.Proofs.sortWorldK encSP 2 w g 0 n S.toArray os).heap[b]? = w.heap[b]? := fun b hb hne => by
    unfold Go.Proofs.sortWorldK Go.Sort.putRowK Go.Sort.putRow
    show ((w.heap.modify g _) ++ os)[b]? = _
    rw [Array.getElem?_append_left (by simpa using hb), Array.getElem?_modify, if_neg (fun e => hne e.symm)]
  have hFat : ∀ i p, At (sortA l) i p → F[i * 2]? = some (.int .i64 p.s) ∧ F[i * 2 + 1]? = some (.int .i64 p.n) := fun i p hp => by
    have hi := hp.lt
    rw [hsz] at hi
    have hi2 : i < S.length := by omega
    have hx : (S[i]'hi2).1 = p := by
      have h1 : (S.map Subtype.val)[i]? = some p := by rw [hmap]; exact hp
      rw [List.getElem?_map, List.getElem?_eq_getElem hi2] at h1
      exact Option.some.inj h1
    have hg2 : ∀ c, c < 2 → F[i * 2 + c]? = some ((encSP (S[i]'hi2))[c]!) := fun c hc => by
      have hlt : i * 2 + c < F.size := by rw [hFs]; omega
      have h2 := Go.Sort.get_flatK encSP 2 S.toArray (i * 2 + c) (by simp [hSl]; omega)
      rw [hF] at h2
      rw [getElem!_pos F _ hlt] at h2
      rw [Array.getElem?_eq_getElem hlt, h2, show (i * 2 + c) / 2 = i by omega, show (i * 2 + c) % 2 = c by omega, getElem!_pos S.toArray i (by simpa using hi2)]
      simp
    have a := hg2 0 (by omega)
    have b := hg2 1 (by omega)
    rw [Nat.add_zero] at a
    rw [a, b]
    unfold encSP
    rw [hx]
    exact ⟨rfl, rfl⟩
  refine ⟨rfl, ⟨F.toList, ⟨by simp [hsz, hFs, Enc.sz], .inr ⟨g, cap, _, by rw [hsz], hbg, hrow, by rw [hsz]; exact hnc, hcm, by unfold Go.Sort.putCells; simpa using hcs, ?_⟩⟩, reps_of_cells (by simp [hsz, hFs]) (fun p hp => ?_) (fun i p hp => by simpa using hFat i p hp), hf, by rw [hsz]; exact hby⟩, rfl, rfl, rfl, ?_, hoth⟩
  · apply List.ext_getElem
    · simp [hsz, hFs, Enc.sz, Go.Sort.putCells, hcs]
      rw [Nat.min_eq_left hnc]
    · intro k a b
      have hk : k < F.size := by simpa using b
      simp only [Go.Sort.putCells, List.getElem_take, Array.getElem_toList, Array.getElem_mapIdx]
      rw [if_pos ⟨by omega, by omega⟩]
      simp only [Nat.sub_zero, id]
      rw [getElem!_pos F k hk]
  · have hm := (sortA_perm l).mem_iff.1 hp
    obtain ⟨⟨a, b⟩, c, d⟩ := hsm p hm
    exact ⟨⟨by omega, by omega⟩, ⟨by omega, by omega⟩⟩
  · unfold Go.Proofs.sortWorldK Go.Sort.putRowK Go.Sort.putRow
    show w.heap.size ≤ ((w.heap.modify g _) ++ os).size
    simp
end Go.Proofs.YthcfhmebikcfpaaGreatDoor

namespace Go.Proofs.YthcfhmebikcfpaaGreatDoor

theorem IsCode.pos {l : List Pr} (h : IsCode l) : ∀ p ∈ l, 0 ≤ p.s ∧ p.s < 256 := fun p hp => by
  have := (h.ok p hp).1
  unfold okSym at this
  rw [Bool.or_eq_true, beq_iff_eq, within_iff] at this
  omega
theorem at_get {α : Type} {l : List α} {k : Nat} {p : α} (h : At l k p) : l[k]'h.lt = p := by
  have h2 := h
  unfold At at h2
  rw [List.getElem?_eq_getElem h.lt] at h2
  exact Option.some.inj h2
theorem symI_at {l : List Pr} {k : Nat} {p : Pr} (h : At l k p) : symI l k = p.s := by unfold symI; rw [h.getD]
theorem bits_cost {m : List UInt8} (h : Fair m) : (bitsA (lensA m) m).length = costB (wsA m) (huff (wsA m)) := by
  have C := lens_code h
  rw [bits_sum C.rise (fun p hp => (C.pos p hp).1) m fun b hb => by
    obtain ⟨k, _, _, n, hp⟩ := find_lens hb
    exact ⟨k, _, hp, rfl⟩]
  unfold costB
  rw [lensA_len, wsA_len]
  refine sumOn_congr fun k hk => ?_
  have hk := List.mem_range.1 hk
  obtain ⟨p, hp⟩ := At.mk hk
  rw [symI_at (lensA_at hp), bitsN_lens hk]
  obtain ⟨c, _, _, e⟩ := wts_mem hp.mem
  have hw : bitAt (wsA m) k = cnt m c := by
    unfold bitAt wsA
    rw [List.getD_eq_getElem?_getD, List.getElem?_map, show (wtsA m)[k]? = some p from hp, e]
    rfl
  rw [hw, e]
  rfl
theorem sumOn_ones {α : Type} (s : List α) : sumOn (fun _ => 1) s = s.length := by
  induction s with
  | nil => rfl
  | cons x s ih => rw [sumOn_cons, ih, List.length_cons]; omega
theorem bits_bound {m : List UInt8} (h : Fair m) : (bitsA (lensA m) m).length ≤ 7 * m.length := by
  rw [bits_cost h]
  have hn := wts_few h.1
  have hb : ∀ k, k < (wsA m).length → bitAt (List.replicate (wsA m).length 7) k = 7 := fun k hk => by
    unfold bitAt; rw [List.getD_eq_getElem?_getD, List.getElem?_replicate, if_pos hk]; rfl
  have hle := huff_least (ws := wsA m) (ls := List.replicate (wsA m).length 7) (D := 15) (by simp) (fun b hb => by rw [List.eq_of_mem_replicate hb]; decide) (fun b hb => by rw [List.eq_of_mem_replicate hb]; decide) (by
    rw [sumOn_congr (g := fun _ => 256 * 1) fun i hi => by rw [hb i (List.mem_range.1 hi)], sumOn_mul]
    have : sumOn (fun _ => 1) (List.range (wsA m).length) = (wsA m).length := by rw [sumOn_ones, List.length_range]
    rw [this, wsA_len]
    omega)
  refine Nat.le_trans hle ?_
  unfold costB
  rw [sumOn_congr (g := fun i => 7 * bitAt (wsA m) i) fun i hi => by rw [hb i (List.mem_range.1 hi), Nat.mul_comm], sumOn_mul]
  have key : ∀ l : List Nat, sumOn (bitAt l) (List.range l.length) = l.sum := by
    intro l
    induction l with
    | nil => rfl
    | cons a l ih =>
      rw [List.length_cons, List.range_succ_eq_map, sumOn_cons, sumOn_map, List.sum_cons, ← ih]
      rfl
  rw [key, wsA_sum]
  exact Nat.le_refl _
theorem twoB_len (n : Nat) : (twoB n).length = 2 := rfl
theorem pairs_len (l : List Pr) : (l.flatMap pairB).length = 2 * l.length := by
  induction l with
  | nil => rfl
  | cons p l ih => rw [List.flatMap_cons, List.length_append, ih, List.length_cons]; show 2 + _ = _; omega
theorem sixesA_len (bits : List UInt8) : (sixesA bits).length = six bits.length := by unfold sixesA sixesTo; simp
theorem file_len (l : List ByteArray) : (fileA l).length = 4 + 2 * (lensA (msgOf l)).length + six (bitsA (lensA (msgOf l)) (msgOf l)).length := by
  unfold fileA headA
  rw [List.length_append, List.length_append, List.length_append, pairs_len, sixesA_len]
  rfl
theorem file_le {l : List ByteArray} (h : areE l = 0) : (fileA l).length ≤ 1340 ∧ 4 ≤ (fileA l).length := by
  rw [file_len]
  have h1 := wts_few (msg_ok h).1
  have h2 := bits_bound (msg_ok h)
  have h3 := msgOf_len h
  rw [← lensA_len] at h1
  unfold six
  omega

/-! ### The form -/

theorem num_two {n : Nat} (h : n ≤ 99) : num2 ((48 + n / 10).toUInt8) ((48 + n % 10).toUInt8) = some n := by
  have : ∀ n : Fin 100, num2 ((48 + n.val / 10).toUInt8) ((48 + n.val % 10).toUInt8) = some n.val := by decide
  exact this ⟨n, by omega⟩
theorem syms_pairs : ∀ {l : List Pr} {last : Int} (r : List UInt8), (∀ p ∈ l, last < p.s ∧ okSym p.s = true ∧ 1 ≤ p.n ∧ p.n ≤ 15) → (l.map Pr.s).Pairwise (· < ·) → symsA l.length last (l.flatMap pairB ++ r) = some (l, r)
  | [], last, r, _, _ => rfl
  | p :: l, last, r, h, hr => by
    obtain ⟨h1, h2, h3, h4⟩ := h p (by simp)
    have h5 : 0 ≤ p.s ∧ p.s < 256 := by
      have := h2
      unfold okSym at this
      rw [Bool.or_eq_true, beq_iff_eq, within_iff] at this
      omega
    rw [List.map_cons, List.pairwise_cons] at hr
    have e1 : ((p.s.toNat.toUInt8).toNat : Int) = p.s := by rw [UInt8.toNat_ofNat']; omega
    have e2 : ((64 + p.n.toNat).toUInt8).toNat = 64 + p.n.toNat := by rw [UInt8.toNat_ofNat']; omega
    show symsA (l.length + 1) last (p.s.toNat.toUInt8 :: (64 + p.n.toNat).toUInt8 :: (l.flatMap pairB ++ r)) = _
    unfold symsA
    rw [e1, e2, if_pos ⟨h1, h2, by omega⟩, syms_pairs r (fun q hq => ⟨hr.1 _ (List.mem_map.2 ⟨q, hq, rfl⟩), (h q (by simp [hq])).2⟩) hr.2]
    have e3 : ((64 + p.n.toNat : Nat) : Int) - 64 = p.n := by omega
    rw [Option.map_some, e3]
theorem form_file {l : List ByteArray} (h : areE l = 0) : formA (fileA l) = some ⟨l.length, lensA (msgOf l), sixesA (bitsA (lensA (msgOf l)) (msgOf l))⟩ := by
  have C := lens_code (msg_ok h)
  have hf := file_le h
  rw [file_len] at hf
  have h1 := wts_few (msg_ok h).1
  have h20 := (areE_zero h).1
  rw [← lensA_len] at h1
  have hs := sixesA_len (bitsA (lensA (msgOf l)) (msgOf l))
  have hall : (sixesA (bitsA (lensA (msgOf l)) (msgOf l))).all (fun b => (letN b).isSome) = true := by
    rw [List.all_eq_true]
    intro b hb
    obtain ⟨k, _, rfl⟩ := List.mem_map.1 hb
    exact isLet_at _ k
  unfold fileA
  generalize sixesA (bitsA (lensA (msgOf l)) (msgOf l)) = r at *
  generalize six (bitsA (lensA (msgOf l)) (msgOf l)).length = q at *
  have hp := pairs_len (lensA (msgOf l))
  have hsy := syms_pairs r (l := lensA (msgOf l)) (last := -1) (fun p hp => ⟨by have := C.pos p hp; omega, C.ok p hp⟩) C.rise
  generalize lensA (msgOf l) = ls at *
  have e : headA l.length ls ++ ls.flatMap pairB ++ r = (48 + l.length / 10).toUInt8 :: (48 + l.length % 10).toUInt8 :: (48 + ls.length / 10).toUInt8 :: (48 + ls.length % 10).toUInt8 :: (ls.flatMap pairB ++ r) := by
    unfold headA twoB
    simp
  rw [e]
  unfold formA
  simp only [num_two (show l.length ≤ 99 by omega), num_two (show ls.length ≤ 99 by omega)]
  rw [if_pos ⟨by rw [List.length_append, hp]; omega, by omega, by omega, by rw [List.length_append, hp]; omega⟩, hsy]
  simp only [hall, if_true]

/-! ### There and back -/

theorem first_code {l : List Pr} (C : IsCode l) {i : Nat} (hi : i < l.length) (x : List UInt8) : firstA l (codeAt l i ++ x) = some i := by
  unfold firstA
  rw [List.find?_range_eq_some]
  refine ⟨by rw [List.isPrefixOf_iff_prefix]; exact List.prefix_append _ _, List.mem_range.2 hi, fun j hj => ?_⟩
  rw [Bool.not_eq_true', ← Bool.not_eq_true, List.isPrefixOf_iff_prefix]
  intro hc
  have := code_both C.b15 C.kraftN (by omega) hi hc (List.prefix_append _ _)
  omega
theorem first_some {l : List Pr} {bits : List UInt8} {i : Nat} (h : firstA l bits = some i) : i < l.length ∧ codeAt l i <+: bits := by
  unfold firstA at h
  have h1 := List.mem_of_find?_eq_some h
  have h2 := List.find?_some h
  exact ⟨List.mem_range.1 h1, List.isPrefixOf_iff_prefix.1 h2⟩
theorem dec_step {many : Nat} {l : List Pr} {n : Nat} {out : List ByteArray} {own x : List UInt8} (C : IsCode l) {k : Nat} {b : UInt8} (hl : out.length < many) (hp : ∃ v, At l k ⟨(b.toNat : Int), v⟩) :
    decA many l (n + 1) out own (codeOf l (b.toNat : Int) ++ x) = if b = 10 then decA many l n (out ++ [strB own]) [] x else decA many l n out (own ++ [b]) x := by
  obtain ⟨v, hp⟩ := hp
  have hc : codeOf l (b.toNat : Int) = codeAt l k := codeOf_at C.rise hp
  rw [hc]
  have hd : decA many l (n + 1) out own (codeAt l k ++ x) = if symI l k = 10 then decA many l n (out ++ [strB own]) [] ((codeAt l k ++ x).drop (bitsN l k)) else decA many l n out (own ++ [(symI l k).toNat.toUInt8]) ((codeAt l k ++ x).drop (bitsN l k)) := by
    show (if many ≤ out.length then some (out, codeAt l k ++ x) else _) = _
    rw [if_neg (by omega), first_code C hp.lt]
  rw [hd]
  have hdr : (codeAt l k ++ x).drop (bitsN l k) = x := List.drop_left' (codeAt_len l k)
  rw [hdr, symI_at hp]
  have e1 : ((b.toNat : Int) = 10) ↔ b = 10 := ⟨fun h => UInt8.toNat_inj.1 (by show b.toNat = 10; omega), fun h => by subst h; rfl⟩
  have e2 : ((b.toNat : Int)).toNat.toUInt8 = b := by rw [Int.toNat_natCast]; exact UInt8.ofNat_toNat
  simp only [e1, e2]
/-- One text. -/
theorem dec_text {many : Nat} {l : List Pr} (C : IsCode l) {out : List ByteArray} (hl : out.length < many) (x : List UInt8) :
    ∀ (t own : List UInt8) (n : Nat), t.length + 1 ≤ n → (∀ b ∈ t ++ [10], ∃ k v, At l k ⟨(b.toNat : Int), v⟩) → (∀ b ∈ t, b ≠ 10) →
      ∃ n', n ≤ n' + t.length + 1 ∧ decA many l n out own (bitsA l (t ++ [10]) ++ x) = decA many l n' (out ++ [strB (own ++ t)]) [] x
  | [], own, n, hn, hk, _ => by
    obtain ⟨m, rfl⟩ : ∃ m, n = m + 1 := ⟨n - 1, by simp at hn; omega⟩
    obtain ⟨k, hp⟩ := hk 10 (by simp)
    refine ⟨m, by simp, ?_⟩
    have := dec_step (n := m) (x := x) (own := own) C hl hp
    rw [if_pos rfl] at this
    rw [List.append_nil, ← this]
    unfold bitsA
    simp
  | b :: t, own, n, hn, hk, hne => by
    obtain ⟨m, rfl⟩ : ∃ m, n = m + 1 := ⟨n - 1, by simp at hn; omega⟩
    obtain ⟨k, hp⟩ := hk b (by simp)
    obtain ⟨n', h1, h2⟩ := dec_text C hl x t (own ++ [b]) m (by simp at hn ⊢; omega) (fun c hc => hk c (by simp at hc ⊢; exact .inr hc)) (fun c hc => hne c (by simp [hc]))
    refine ⟨n', by simp at hn ⊢; omega, ?_⟩
    have h3 := dec_step (n := m) (x := bitsA l (t ++ [10]) ++ x) (own := own) C hl hp
    rw [if_neg (hne b (by simp)), h2] at h3
    have e : bitsA l (b :: t ++ [10]) ++ x = codeOf l (b.toNat : Int) ++ (bitsA l (t ++ [10]) ++ x) := by
      unfold bitsA
      rw [List.cons_append, List.flatMap_cons, List.append_assoc]
    rw [e, h3, List.append_assoc]
    rfl
theorem msgOf_cons (s : ByteArray) (l : List ByteArray) : msgOf (s :: l) = bys s ++ [10] ++ msgOf l := by unfold msgOf; rw [List.flatMap_cons]
theorem bitsA_append (l : List Pr) (m k : List UInt8) : bitsA l (m ++ k) = bitsA l m ++ bitsA l k := by unfold bitsA; rw [List.flatMap_append]
theorem dec_texts {many : Nat} {l : List Pr} (C : IsCode l) (z : List UInt8) : ∀ (ts out : List ByteArray) (n : Nat), out.length + ts.length = many → (msgOf ts).length + 1 ≤ n → (∀ b ∈ msgOf ts, ∃ k v, At l k ⟨(b.toNat : Int), v⟩) → (∀ s ∈ ts, ∀ b ∈ bys s, b ≠ 10) →
    decA many l n out [] (bitsA l (msgOf ts) ++ z) = some (out ++ ts, z)
  | [], out, n, hl, hn, _, _ => by
    obtain ⟨m, rfl⟩ : ∃ m, n = m + 1 := ⟨n - 1, by omega⟩
    simp at hl
    show (if many ≤ out.length then some (out, bitsA l (msgOf []) ++ z) else _) = _
    rw [if_pos (by omega), List.append_nil]
    rfl
  | s :: ts, out, n, hl, hn, hk, hne => by
    rw [msgOf_cons] at hn hk ⊢
    rw [bitsA_append, List.append_assoc]
    simp only [List.length_cons] at hl
    obtain ⟨n', h1, h2⟩ := dec_text C (out := out) (many := many) (by omega) (bitsA l (msgOf ts) ++ z) (bys s) [] n (by simp at hn ⊢; omega) (fun b hb => hk b (by rw [List.mem_append]; exact .inl hb)) (hne s (by simp))
    rw [h2, List.nil_append]
    have e : strB (bys s) = s := rfl
    rw [e, dec_texts C z ts (out ++ [s]) n' (by simp; omega) (by simp at hn h1 ⊢; omega) (fun b hb => hk b (by rw [List.mem_append]; exact .inr hb)) (fun x hx => hne x (by simp [hx]))]
    simp
theorem codeOf_digs (l : List Pr) (s : Int) : Digs (codeOf l s) := by
  unfold codeOf
  split
  · intro b hb; cases hb
  · exact fun b hb => binB_bits _ _ b hb
theorem bitsA_digs (l : List Pr) (m : List UInt8) : Digs (bitsA l m) := fun b hb => by
  unfold bitsA at hb
  obtain ⟨x, _, hx⟩ := List.mem_flatMap.1 hb
  exact codeOf_digs _ _ b hx
theorem text_no10 {l : List ByteArray} (h : areE l = 0) : ∀ s ∈ l, ∀ b ∈ bys s, b ≠ 10 := fun s hs b hb e => by
  have ht := (areE_zero h).2 s hs
  unfold isTextA at ht
  rw [Bool.and_eq_true] at ht
  have := okByte_iff.1 (List.all_eq_true.1 ht.2 b hb)
  rw [e] at this
  have : (10 : UInt8).toNat = 10 := rfl
  omega
theorem code_pos {l : List Pr} (C : IsCode l) {m : List UInt8} (hk : ∀ b ∈ m, ∃ k v, At l k ⟨(b.toNat : Int), v⟩) : m.length ≤ (bitsA l m).length := by
  induction m with
  | nil => exact Nat.zero_le _
  | cons b m ih =>
    have ih := ih fun x hx => hk x (by simp [hx])
    obtain ⟨k, v, hp⟩ := hk b (by simp)
    have hc : codeOf l (b.toNat : Int) = codeAt l k := codeOf_at C.rise hp
    have := C.b15.at hp.lt
    unfold bitsA at ih ⊢
    rw [List.flatMap_cons, List.length_append, hc, codeAt_len, List.length_cons]
    omega
/-- What is read of the file of some texts: these texts. -/
theorem read_file {l : List ByteArray} (h : areE l = 0) : readA (fileA l) = (l, 0) := by
  unfold readA
  rw [form_file h]
  have F := msg_ok h
  have C := lens_code F
  have hk : ∀ b ∈ msgOf l, ∃ k v, At (lensA (msgOf l)) k ⟨(b.toNat : Int), v⟩ := fun b hb => by
    obtain ⟨k, _, _, n, hp⟩ := find_lens hb
    exact ⟨k, n, hp⟩
  have hcp := code_pos C hk
  have ht : textsA l.length (lensA (msgOf l)) (unsix (sixesA (bitsA (lensA (msgOf l)) (msgOf l)))) = some l := by
    unfold textsA
    rw [if_pos (isCode_of C), unsix_sixes (bitsA_digs _ _)]
    rw [dec_texts C (List.replicate _ 48) l [] _ (by simp) (by rw [List.length_append]; omega) hk (text_no10 h), List.nil_append]
    have hs := six_le (bitsA (lensA (msgOf l)) (msgOf l)).length
    have : restOk (List.replicate (6 * six (bitsA (lensA (msgOf l)) (msgOf l)).length - (bitsA (lensA (msgOf l)) (msgOf l)).length) 48) = true := by
      unfold restOk
      rw [Bool.and_eq_true, decide_eq_true_eq, List.length_replicate, List.all_eq_true]
      exact ⟨by omega, fun b hb => by rw [List.eq_of_mem_replicate hb]; decide⟩
    simp only [this, if_true]
  simp only [ht]
  rw [if_pos ⟨h, trivial⟩]

end Go.Proofs.YthcfhmebikcfpaaGreatDoor

namespace Go.Proofs.YthcfhmebikcfpaaGreatDoor
open Go.RowKit

attribute [local go_sem] Holds.drew Holds.alloc Holds.drewN WB.holds Oper.semAt_some

set_option maxRecDepth 100000 in
theorem nClone_any (v : Value) (l : List Pr) (hl : l.length ≤ 1000) (H : Snap) (w : World) (hw : Holds H w) (hs : Sl H v l) :
    Calls Tryz.prog 52 #[v] w (PostO w H 47 l) := by
  have hs0 := hs
  have heq : ∀ (w : World) (a : Option Addr) (n c n' c' : Nat), _ := fun w a n c n' c' => Go.Lib.run_eql_slice_nil (P := Tryz.prog) w 32 47 a n c n' c' Tryz.underlying32
  obtain ⟨a, c, rfl, _, _, _, hor⟩ := hs0
  cases a with
  | none =>
    have he : l = [] := by
      rcases hor with h | ⟨_, _, _, _, _, h, _⟩
      · exact h
      · cases h
    subst he
    clear hor
    go_enter Tryz.func52, Tryz.ntmps52
    go_wp2
    go_ret
    exact ⟨_, H, rfl, Ext.refl hw, Own.nil _ _ _ _⟩
  | some ad =>
    clear hor
    go_enter Tryz.func52, Tryz.ntmps52
    go_wp2_with (first | ((refine wpList_appX (w0 := w) (H0 := H) eLen rfl _ _ rfl ((Ext.refl hw).alloc _) rfl (Own.emptyAt (heap_alloc_new _ _) (Nat.le_refl _) (hw.none_of_ge (Nat.le_refl _))) rfl hs (by simp [Enc.by_]; omega) (by simp; omega) ?_; intro vB wB hownB hxB hwB hgB; rw [List.nil_append] at hownB)))
    go_ret
    exact ⟨vB, H, rfl, hxB, hownB⟩
end Go.Proofs.YthcfhmebikcfpaaGreatDoor
