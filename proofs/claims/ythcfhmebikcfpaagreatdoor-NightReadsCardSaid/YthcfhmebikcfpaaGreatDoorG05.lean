/- Lemmas and walks on which the claims of this seat lean: NWts NPrg2 NLw1 NCmp NOpt NPref NLens NSrt NTwo NFile. -/
import Derived.Test.YthcfhmebikcfpaaGreatDoorG02
import Derived.Test.YthcfhmebikcfpaaGreatDoorG04
import Derived.Lib.Strings

set_option linter.all false

namespace Go.Proofs.YthcfhmebikcfpaaGreatDoor
open Go.RowKit

attribute [local go_sem] Holds.drew Holds.alloc Holds.drewN WB.holds Oper.semAt_some

/-- How often a byte comes. -/
def cnt (m : List UInt8) (c : Nat) : Nat := m.countP fun b => b.toNat == c
theorem cnt_snoc (m : List UInt8) (x : UInt8) (c : Nat) : cnt (m ++ [x]) c = cnt m c + (if c = x.toNat then 1 else 0) := by
  unfold cnt
  rw [List.countP_append, List.countP_singleton]
  congr 1
  by_cases h : c = x.toNat
  · subst h; simp
  · rw [if_neg h, if_neg]; simp; exact fun e => h e.symm
theorem cnt_le (m : List UInt8) (c : Nat) : cnt m c ≤ m.length := List.countP_le_length
def cells256 (m : List UInt8) : Array Value := ((List.range 256).map fun c => Value.int .i64 (cnt m c : Int)).toArray
theorem cells256_size (m : List UInt8) : (cells256 m).size = 256 := by simp [cells256]
theorem cells256_at (m : List UInt8) {c : Nat} (h : c < 256) : (cells256 m)[c]? = some (.int .i64 (cnt m c : Int)) := by
  unfold cells256
  rw [List.getElem?_toArray, List.getElem?_map, List.getElem?_range h]; rfl
theorem cells256_set (m : List UInt8) (x : UInt8) : (cells256 m).setIfInBounds x.toNat (.int .i64 ((cnt m x.toNat : Int) + 1)) = cells256 (m ++ [x]) := by
  apply Array.ext_getElem?
  intro i
  have hx : x.toNat < 256 := x.toNat_lt
  by_cases hi : i < 256
  · rw [cells256_at _ hi, cnt_snoc]
    by_cases e : i = x.toNat
    · subst e
      rw [Array.getElem?_setIfInBounds_self_of_lt (by rw [cells256_size]; exact hi), if_pos rfl]
      simp
    · rw [Array.getElem?_setIfInBounds_ne (fun h => e h.symm), cells256_at _ hi, if_neg e]; simp
  · rw [Array.getElem?_eq_none (by rw [Array.size_setIfInBounds, cells256_size]; omega), Array.getElem?_eq_none (by rw [cells256_size]; omega)]
theorem cells256_nil : Tryz.zeroCells89 = cells256 [] := by kernel_rfl
theorem info256 : (Tryz.prog.info? 89).map (·.size) = some 256 := by kernel_rfl

theorem heap_set_same {w : World} {b i : Nat} {cs : Array Value} {T : TypeId} {fr : Nat × Nat} (hb : w.heap[b]? = some (.cells cs T fr)) (v : Value) :
    (w.setCell ⟨b, i, none⟩ v).heap[b]? = some (.cells (cs.setIfInBounds i v) T fr) := by
  simp [World.setCell, Array.getElem?_modify, hb]
/-- The weights of the first symbols. -/
def wtsTo (m : List UInt8) (k : Nat) : List Pr := ((List.range k).filter fun c => decide (0 < cnt m c)).map fun c : Nat => (⟨(c : Int), (cnt m c : Int)⟩ : Pr)
def wtsA (m : List UInt8) : List Pr := wtsTo m 256
theorem wtsTo_pos {m : List UInt8} {k : Nat} (h : 0 < cnt m k) : wtsTo m (k + 1) = wtsTo m k ++ [(⟨(k : Int), (cnt m k : Int)⟩ : Pr)] := by
  unfold wtsTo
  rw [List.range_succ, List.filter_append, List.map_append]
  simp [h]
theorem wtsTo_zero {m : List UInt8} {k : Nat} (h : ¬ 0 < cnt m k) : wtsTo m (k + 1) = wtsTo m k := by
  unfold wtsTo
  rw [List.range_succ, List.filter_append, List.map_append]
  simp [h]
theorem wtsTo_len (m : List UInt8) (k : Nat) : (wtsTo m k).length ≤ k := by
  unfold wtsTo
  rw [List.length_map]
  have := List.length_filter_le (fun c => decide (0 < cnt m c)) (List.range k)
  rw [List.length_range] at this
  exact this

theorem cells_int1 : Tryz.prog.cellsOf 3 = 1 := by kernel_rfl
def index256 (x i : Value) : Sem Value := Instr.index 89 x i
theorem index_256 (x i : Value) : Instr.index 89 x i = index256 x i := rfl
theorem run_index256 {w : World} {m : List UInt8} {j : Nat} (hj : j < 256) : (index256 (.agg (cells256 m)) (.int .i64 (j : Int))).run Tryz.prog w = .ok (.int .i64 (cnt m j : Int)) w := by
  obtain ⟨i, hi⟩ : ∃ i, Tryz.prog.info? 3 = some i := info_of_underlying Tryz.underlying3
  have hpart : (part 3 (cells256 m) (j * 1)).run Tryz.prog w = .ok (.int .i64 (cnt m j : Int)) w := by
    have hagg : (isAgg 3).run Tryz.prog w = .ok false w := by
      unfold isAgg
      rw [Sem.run_bind, run_underlying Tryz.underlying3 w]
      simp
    unfold part
    simp [Sem.run_bind, hagg, cells256_at m hj]
  unfold index256 Instr.index
  simp only [asIntOf, Sem.run_bind, Sem.run_pure, Result.andThen_ok, run_underlying Tryz.underlying89 w]
  rw [if_pos ⟨by omega, by omega⟩]
  simp only [Sem.run_bind, run_sizeOf w hi, Result.andThen_ok, cells_int1, Int.toNat_natCast, hpart]

theorem wpList_app1P {P : Program} {H H0 : Snap} {w w0 : World} {t e : TypeId} {v : Value} {xs : List Pr} {ops : Array Oper} {o : Oper} {a : Act} {Q : Exit → Act → World → Prop} {rest : List Oper} {te : TypeId} {c : Nat}
    (T : ElemT P t e Pr) (s y : Operand) (hX : Ext w0 H0 w H) (hown : Own H w0.heap.size w e v xs) (p q : Int) (hp : I64 p ∧ I64 q) (hlen : xs.length ≤ 1000000000)
    (hgd : o.guard = none) (ho : o.op = .call { callee := .builtin .append, args := #[s, y], argTypes := #[t, t] }) (hs : a.eval s = v) (hy : a.eval y = .slice (some ⟨w.heap.size, 0, none⟩) 1 c)
    (h : ∀ v' w', Own H w0.heap.size w' e v' (xs ++ [⟨p, q⟩]) → Ext w0 H0 w' H → Holds H w' → wpList P ops Q rest (a.put o.dst v') w') : wpList P ops Q (o :: rest) a (w.alloc (.cells #[.int .i64 p, .int .i64 q] te)) :=
  wpList_app1X (x := (⟨p, q⟩ : Pr)) (cs := [.int .i64 p, .int .i64 q]) T hgd s y ho hX hs hown hy ⟨rfl, hp⟩ (by simp [Enc.by_]; omega) (by omega) h

attribute [local go_sem] run_index256
attribute [local go_sem ↓] index_256
set_option maxRecDepth 100000 in
set_option maxHeartbeats 1000000 in
theorem nWeights_any (s : ByteArray) (hsz : s.size ≤ 100000) (H : Snap) (w : World) (hw : Holds H w) :
    Calls Tryz.prog 40 #[.string s] w (PostO w H 69 (wtsA (bys s))) := by
  go_enter Tryz.func40, Tryz.ntmps40
  go_wp2
  go_loopw [10] (fun i wr => ∃ k : Nat, k ≤ s.size ∧ i = .int .i64 k ∧ wr.heap[w.heap.size]? = some (.cells (cells256 ((bys s).take k)) 89 (0, 0)) ∧ Ext w H wr H) (fun i _ => s.size - (intOf i).toNat)
  case atStart => exact ⟨0, Nat.zero_le _, rfl, by rw [cells256_nil]; exact heap_alloc_new w _, (Ext.refl hw).alloc _⟩
  case round =>
    obtain ⟨k, hk, rfl, hrow, xr⟩ := hrel
    by_cases hlk : k < s.size
    · obtain ⟨x, hx⟩ := At.mk (show k < (bys s).length from hlk)
      have hk0 : (0 : Int) ≤ (k : Int) := by omega
      have hk1 : (k : Int) < (s.size : Int) := by omega
      have hsk : s[k] = x := by
        have h1 : (bys s)[k]? = some x := hx
        rw [List.getElem?_eq_getElem (show k < (bys s).length from hlk)] at h1
        exact Option.some.inj h1
      have hwk : wrap64 ((k : Int) + 1) = (k : Int) + 1 := wrap64_in _ (by omega) (by omega)
      have hx256 : x.toNat < 256 := x.toNat_lt
      have hxi : (x.toNat : Int) < 256 := by omega
      have hx0 : (0 : Int) ≤ (x.toNat : Int) := by omega
      have hcl := cnt_le ((bys s).take k) x.toNat
      rw [List.length_take, bys_len] at hcl
      have hcell : wr.cell? ⟨w.heap.size, x.toNat, none⟩ = some (.int .i64 (cnt ((bys s).take k) x.toNat : Int)) := by rw [Lib.cell_of_heap hrow]; exact cells256_at _ hx256
      have hfz : wr.frozen? ⟨w.heap.size, x.toNat, none⟩ = false := Lib.frozen_of_heap hrow _
      have hwc : wrap64 ((cnt ((bys s).take k) x.toNat : Int) + 1) = (cnt ((bys s).take k) x.toNat : Int) + 1 := wrap64_in _ (by omega) (by omega)
      have hrow2 : (wr.setCell ⟨w.heap.size, x.toNat, none⟩ (.int .i64 ((cnt ((bys s).take k) x.toNat : Int) + 1))).heap[w.heap.size]? = some (.cells (cells256 ((bys s).take (k + 1))) 89 (0, 0)) := by
        rw [heap_set_same hrow, cells256_set, hx.take]
      have hxn := xr.setCell (a := ⟨w.heap.size, x.toNat, none⟩) (Nat.le_refl _) (by show H w.heap.size = none; exact hw.none_of_ge (Nat.le_refl _)) (.int .i64 ((cnt ((bys s).take k) x.toNat : Int) + 1))
      clear hrow hcl
      replace hrow2 := Lib.hid hrow2
      go_wp2_with fail
      go_roundw
      case rel => exact ⟨k + 1, by omega, by go_num, hrow2.out, hxn⟩
      case measure => simp [intOf]; omega
    · have hall : (bys s).take k = bys s := List.take_of_length_le (by rw [bys_len]; omega)
      rw [hall] at hrow
      have hcb : ∀ c, cnt (bys s) c ≤ 100000 := fun c => Nat.le_trans (cnt_le _ c) (by rw [bys_len]; exact hsz)
      generalize bys s = m at *
      replace hcb := Lib.hid hcb
      go_wp2_with (refine wpList_load_row rfl _ _ rfl w.heap.size rfl _ _ _ _ hrow Tryz.underlying89 rfl (by rw [cells256_size]; exact info256) ?_)
      have hs256 := cells256_size m
      go_loopw [5, 22] (fun ov i wq => ∃ k : Nat, k ≤ 256 ∧ i = .int .i64 (k : Int) ∧ Own H w.heap.size wq 69 ov (wtsTo m k) ∧ Ext w H wq H) (fun _ i _ => 256 - (intOf i).toNat)
      case atStart => exact ⟨0, Nat.zero_le _, rfl, Own.nil _ _ _ _, xr⟩
      case round =>
        obtain ⟨j, hj, rfl, own, xq⟩ := hrel
        by_cases hlj : j < 256
        · have hj0 : (0 : Int) ≤ (j : Int) := by omega
          have hj1 : (j : Int) < 256 := by omega
          have hidx := cells256_at m hlj
          have hcm := hcb.out j
          by_cases hpos : 0 < cnt m j
          · have hpi : (0 : Int) < (cnt m j : Int) := by omega
            have hnext := wtsTo_pos hpos
            have hln := wtsTo_len m j
            have hrep : I64 (j : Int) ∧ I64 (cnt m j : Int) := ⟨by unfold I64; omega, by unfold I64; omega⟩
            replace hrep := Lib.hid hrep
            replace hnext := Lib.hid hnext
            clear hpos
            go_wp2_with (first | ((at_builtin; have hgd := own; clear hgd; go_must (refine wpList_app1P eWt _ _ xq own (j : Int) (cnt m j : Int) hrep.out (by omega) rfl rfl rfl rfl ?_); intro vA wA ownA xA hwA)))
            go_roundw
            case rel => exact ⟨j + 1, by omega, by go_num, by rw [hnext.out]; exact ownA, xA⟩
            case measure => simp [intOf]; omega
          · have hpi : ¬ (0 : Int) < (cnt m j : Int) := by omega
            have hnext := wtsTo_zero hpos
            replace hnext := Lib.hid hnext
            clear hpos
            go_wp2_with fail
            go_roundw
            case rel => exact ⟨j + 1, by omega, by go_num, by rw [hnext.out]; exact own, xq⟩
            case measure => simp [intOf]; omega
        · have : j = 256 := by omega
          subst this
          go_wp2_with fail
          go_ret
          exact ⟨_, H, rfl, xq, own⟩
end Go.Proofs.YthcfhmebikcfpaaGreatDoor

namespace Go.Proofs.YthcfhmebikcfpaaGreatDoor
open Go.RowKit

attribute [local go_sem] Holds.drew Holds.alloc Holds.drewN WB.holds Oper.semAt_some

/-- A fresh slice and an error. -/
def PostOE {α : Type} [Enc α] (w : World) (H : Snap) (e : TypeId) (xs : List α) (n : Int) (f : Ending) (w' : World) : Prop :=
  ∃ v H', f = .returned (.tuple #[v, .int .i64 n]) ∧ Ext w H w' H' ∧ Own H' w.heap.size w' e v xs
theorem areE_zero {l : List ByteArray} (h : areE l = 0) : l.length ≤ 20 ∧ ∀ s ∈ l, isTextA s = true := by
  unfold areE at h
  by_cases g : 20 < l.length
  · rw [if_pos g] at h; cases h
  · rw [if_neg g] at h
    by_cases g2 : l.all isTextA = true
    · exact ⟨by omega, List.all_eq_true.1 g2⟩
    · rw [if_neg g2] at h; cases h
theorem isTextA_size {s : ByteArray} (h : isTextA s = true) : s.size ≤ 48 := by
  unfold isTextA at h
  rw [Bool.and_eq_true, decide_eq_true_eq] at h
  exact h.1
theorem areE_size {l : List ByteArray} (h : areE l = 0) : ∀ s ∈ l, s.size ≤ 200 := fun s hs => by have := isTextA_size ((areE_zero h).2 s hs); omega
theorem msgOf_len {l : List ByteArray} (h : areE l = 0) : (msgOf l).length ≤ 980 := by
  have key : ∀ m : List ByteArray, (∀ s ∈ m, isTextA s = true) → (msgOf m).length ≤ 49 * m.length := by
    intro m
    induction m with
    | nil => intro _; simp [msgOf]
    | cons s m ih =>
      intro h
      have h1 := ih fun x hx => h x (by simp [hx])
      have h2 := isTextA_size (h s (by simp))
      unfold msgOf at *
      rw [List.flatMap_cons, List.length_append, List.length_append, bys_len, List.length_cons]
      simp only [List.length_cons, List.length_nil]
      omega
  have := key l (areE_zero h).2
  have := (areE_zero h).1
  omega
def wtsR (l : List ByteArray) : List Pr := if areE l = 0 then wtsA (msgOf l) else []

set_option maxRecDepth 100000 in
theorem nWeightsT_any (v : Value) (l : List ByteArray) (H : Snap) (w : World) (hw : Holds H w) (hs : Sl H v l) (hz : ∀ s ∈ l, s.size ≤ 1000000) :
    Calls Tryz.prog 11 #[v] w (PostOE w H 69 (wtsR l) (areE l)) := by
  have hc := nCheck_any v l H w hw hs hz
  by_cases h : areE l = 0
  · have e : wtsR l = wtsA (msgOf l) := by unfold wtsR; rw [if_pos h]
    have hl := (areE_zero h).1
    have hsz := areE_size h
    have hml : (strB (msgOf l)).size ≤ 100000 := Nat.le_trans (msgOf_len h) (by decide)
    rw [h] at hc
    rw [e, h]
    clear e h
    replace hc := Lib.hid hc
    go_enter Tryz.func11, Tryz.ntmps11
    go_wp2_with (first | ((go_at_call 40; refine (nWeights_any _ hml H _ hw3).mono ?_; rintro e w4 ⟨v4, H4, rfl, x4, o4⟩)) | ((go_at_call 35; refine (nMessage_any _ l H _ hw2 hs (by omega) hsz).mono ?_; rintro e w3 ⟨rfl, hb3⟩; have hw3 := hw2.below hb3; have x3 := x2.step (hb3.mono x2.below.size) hw3)) | ((go_at_call 39; refine hc.out.mono ?_; rintro e w2 ⟨rfl, hb2⟩; have hw2 := hw.below hb2; have x2 := (Ext.refl hw).step hb2 hw2)))
    go_ret2
    exact ⟨v4, H4, rfl, x3.trans x4, o4.weaken x3.below.size⟩
  · have e : wtsR l = [] := by unfold wtsR; rw [if_neg h]
    have hb : (areE l == 0) = false := by rw [beq_eq_false_iff_ne]; exact h
    have hb2 : (areE l != 0) = true := by rw [bne_iff_ne]; exact h
    rw [e]
    generalize areE l = n at *
    clear e h
    replace hc := Lib.hid hc
    go_enter Tryz.func11, Tryz.ntmps11
    go_wp2_with (first | ((go_at_call 39; refine hc.out.mono ?_; rintro e w2 ⟨rfl, hb2⟩; have hw2 := hw.below hb2; have x2 := (Ext.refl hw).step hb2 hw2)))
    go_ret2
    exact ⟨_, H, rfl, x2, Own.nil _ _ _ _⟩
end Go.Proofs.YthcfhmebikcfpaaGreatDoor

namespace Go.Proofs.YthcfhmebikcfpaaGreatDoor
open Go.RowKit
attribute [local go_sem] Holds.drew Holds.alloc Holds.drewN WB.holds Oper.semAt_some

theorem toList_same (a : ByteArray) : (a.toList == a.toList) = true := beq_self_eq_true _
theorem toList_ne {a b : ByteArray} (h : ¬ a = b) : (a.toList == b.toList) = false := by
  rw [ByteArray.toList_eq, ByteArray.toList_eq, beq_eq_false_iff_ne]
  intro e
  apply h
  cases a; cases b
  simp only [ByteArray.mk.injEq]
  exact Array.ext' e
set_option maxRecDepth 100000 in
theorem sameTexts_any (va vb : Value) (xs ys : List ByteArray) (H : Snap) (w : World) (hw : Holds H w) (ha : Sl H va xs) (hb : Sl H vb ys) :
    Calls Tryz.prog 10 #[va, vb] w (PostV w (.bool (decide (xs = ys)))) := by
  obtain ⟨aa, ca, rfl, ha1, ha2⟩ := ha.form
  obtain ⟨ab, cb, rfl, hb1, hb2⟩ := hb.form
  cases hl : ((xs.length : Int) != ys.length)
  · have HL : Hid (xs.length = ys.length) := Lib.hid (by have := bne_eq_false_iff_eq.1 hl; omega)
    go_enter Tryz.func10, Tryz.ntmps10
    go_wp2
    go_loopw [4, 5] (fun _ i wr => ∃ k : Nat, k ≤ xs.length ∧ i = .int .i64 k ∧ xs.take k = ys.take k ∧ Ext w H wr H) (fun _ i _ => xs.length - (intOf i).toNat)
    case atStart => exact ⟨0, Nat.zero_le _, rfl, rfl, Ext.refl hw⟩
    case round =>
      obtain ⟨k, hk, rfl, hok, hxr⟩ := hrel
      have hwr := hxr.holds
      replace hok := Lib.hid hok
      by_cases hlt : k < xs.length
      · obtain ⟨x, hxk⟩ := At.mk hlt
        have hlt2 : k < ys.length := by rw [← HL.out]; exact hlt
        obtain ⟨y, hyk⟩ := At.mk hlt2
        obtain ⟨b, o, c, he, hi, hr⟩ := ha.str hxk
        cases he
        obtain ⟨b', o', c', he, hi', hr'⟩ := hb.str hyk
        cases he
        clear hi hi'
        by_cases hxy : x = y
        · subst hxy
          have ht := toList_same x
          go_wp2
          go_quiet (fail)
          go_wp2
          go_roundw
          case rel => exact ⟨k + 1, by omega, by go_num, by rw [hxk.take, hyk.take, hok.out], hxr.drewN _⟩
          case measure => simp [intOf]; omega
        · have ht := toList_ne hxy
          go_wp2
          go_quiet (fail)
          go_wp2
          go_ret
          exact ⟨ret_bool (by symm; rw [decide_eq_false_iff_not]; intro e; apply hxy; have hyk2 := hyk; rw [← e] at hyk2; exact Option.some.inj (hxk.symm.trans hyk2)), (hxr.drewN _).below⟩
      · go_wp2
        go_ret
        have h1 : xs.take k = ys.take k := hok.out
        rw [List.take_of_length_le (by omega), List.take_of_length_le (by rw [← HL.out]; omega)] at h1
        exact ⟨ret_bool (by simp [h1]), hxr.below⟩
  · go_enter Tryz.func10, Tryz.ntmps10
    go_wp2
    go_ret
    exact ⟨ret_bool (by symm; rw [decide_eq_false_iff_not]; rintro rfl; simp at hl), Below.refl _ _⟩
set_option maxRecDepth 100000 in
theorem sameLengths_any (va vb : Value) (xs ys : List Pr) (H : Snap) (w : World) (hw : Holds H w) (ha : Sl H va xs) (hb : Sl H vb ys) :
    Calls Tryz.prog 16 #[va, vb] w (PostV w (.bool (decide (xs = ys)))) := by
  obtain ⟨aa, ca, rfl, ha1, ha2⟩ := ha.form
  obtain ⟨ab, cb, rfl, hb1, hb2⟩ := hb.form
  cases hl : ((xs.length : Int) != ys.length)
  · have HL : Hid (xs.length = ys.length) := Lib.hid (by have := bne_eq_false_iff_eq.1 hl; omega)
    go_enter Tryz.func16, Tryz.ntmps16
    go_wp2
    go_loopw [4, 5] (fun _ i wr => ∃ k : Nat, k ≤ xs.length ∧ i = .int .i64 k ∧ xs.take k = ys.take k ∧ Ext w H wr H) (fun _ i _ => xs.length - (intOf i).toNat)
    case atStart => exact ⟨0, Nat.zero_le _, rfl, rfl, Ext.refl hw⟩
    case round =>
      obtain ⟨k, hk, rfl, hok, hxr⟩ := hrel
      have hwr := hxr.holds
      replace hok := Lib.hid hok
      by_cases hlt : k < xs.length
      · obtain ⟨x, hxk⟩ := At.mk hlt
        have hlt2 : k < ys.length := by rw [← HL.out]; exact hlt
        obtain ⟨y, hyk⟩ := At.mk hlt2
        obtain ⟨b, o, c, he, hi, hr, hr1⟩ := ha.pr hxk
        cases he
        obtain ⟨b', o', c', he, hi', hr', hr1'⟩ := hb.pr hyk
        cases he
        clear hi hi'
        obtain ⟨x1, x2⟩ := x
        obtain ⟨y1, y2⟩ := y
        simp only at hr hr1 hr' hr1'
        by_cases hxy : x1 = y1 ∧ x2 = y2
        · obtain ⟨rfl, rfl⟩ := hxy
          go_wp2
          go_quiet (fail)
          go_wp2
          go_roundw
          case rel => exact ⟨k + 1, by omega, by go_num, by rw [hxk.take, hyk.take, hok.out], hxr.drewN _⟩
          case measure => simp [intOf]; omega
        · have hfin : decide (xs = ys) = false := by
            rw [decide_eq_false_iff_not]
            intro e
            have hyk2 := hyk
            rw [← e] at hyk2
            have := Option.some.inj (hxk.symm.trans hyk2)
            simp only [Pr.mk.injEq] at this
            exact hxy this
          by_cases h1 : x1 = y1
          · subst h1
            have ht : (x2 == y2) = false := beq_eq_false_iff_ne.2 fun e => hxy ⟨rfl, e⟩
            have ht2 : ¬ x2 = y2 := fun e => hxy ⟨rfl, e⟩
            go_wp2
            go_quiet (fail)
            go_wp2
            go_ret
            exact ⟨ret_bool hfin.symm, (hxr.drewN _).below⟩
          · have ht : (x1 == y1) = false := beq_eq_false_iff_ne.2 h1
            go_wp2
            go_quiet (fail)
            go_wp2
            go_ret
            exact ⟨ret_bool hfin.symm, (hxr.drewN _).below⟩
      · go_wp2
        go_ret
        have h1 : xs.take k = ys.take k := hok.out
        rw [List.take_of_length_le (by omega), List.take_of_length_le (by rw [← HL.out]; omega)] at h1
        exact ⟨ret_bool (by simp [h1]), hxr.below⟩
  · go_enter Tryz.func16, Tryz.ntmps16
    go_wp2
    go_ret
    exact ⟨ret_bool (by symm; rw [decide_eq_false_iff_not]; rintro rfl; simp at hl), Below.refl _ _⟩

def longA (l : List ByteArray) : Bool := decide (60 < l.length) || l.any fun s => decide (200 < s.size)
set_option maxRecDepth 100000 in
theorem long14_any (v : Value) (l : List ByteArray) (H : Snap) (w : World) (hw : Holds H w) (hs : Sl H v l) :
    Calls Tryz.prog 6 #[v] w (PostV w (.bool (longA l))) := by
  obtain ⟨a, c, rfl, _, _⟩ := hs.form
  have hle := hs.le
  by_cases h60 : 60 < l.length
  · have e : longA l = true := by unfold longA; rw [decide_eq_true h60]; rfl
    have hI : (60 : Int) < (l.length : Int) := by omega
    rw [e]
    go_enter Tryz.func6, Tryz.ntmps6
    go_wp2
    go_ret
    exact ⟨rfl, Below.refl _ _⟩
  · have e : longA l = l.any fun s => decide (200 < s.size) := by unfold longA; rw [decide_eq_false h60]; rfl
    have hI : ¬ (60 : Int) < (l.length : Int) := by omega
    rw [e]
    clear e
    obtain ⟨bb, hbb⟩ : ∃ bb, bb = l.any fun s => decide (200 < s.size) := ⟨_, rfl⟩
    rw [← hbb]
    replace hbb := Lib.hid hbb
    go_enter Tryz.func6, Tryz.ntmps6
    go_wp2
    clear hI
    go_loopw [2, 3] (fun _ i wr => ∃ k : Nat, k ≤ l.length ∧ i = .int .i64 k ∧ Hid ((l.take k).any (fun s => decide (200 < s.size)) = false) ∧ Ext w H wr H) (fun _ i _ => l.length - (intOf i).toNat)
    case atStart => exact ⟨0, Nat.zero_le _, rfl, Lib.hid rfl, Ext.refl hw⟩
    case round =>
      obtain ⟨k, hk, rfl, hok, hxr⟩ := hrel
      have hwr := hxr.holds
      by_cases hlt : k < l.length
      · obtain ⟨x, hxk⟩ := At.mk hlt
        obtain ⟨b, o, c, he, hi, hr⟩ := hs.str hxk
        cases he
        clear hi
        have hg : wrap64 ((k : Int) + 1) = (k : Int) + 1 := wrap64_in _ (by omega) (by omega)
        by_cases h2 : 200 < x.size
        · have hI2 : (200 : Int) < (x.size : Int) := by omega
          have e : bb = true := hbb.out.trans (List.any_eq_true.2 ⟨x, hxk.mem, decide_eq_true h2⟩)
          subst e
          clear hle
          go_wp2
          go_ret
          exact ⟨rfl, hxr.below⟩
        · have hI2 : ¬ (200 : Int) < (x.size : Int) := by omega
          clear hle
          go_wp2
          go_roundw
          case rel => exact ⟨k + 1, by omega, by first | rfl | (rw [hg]; rfl), Lib.hid (by rw [hxk.take, List.any_append, hok.out]; simp [h2]), hxr⟩
          case measure => first | (simp [intOf]; omega) | (rw [hg]; simp [intOf]; omega)
      · have h1 := hok.out
        rw [List.take_of_length_le (by omega)] at h1
        have e : bb = false := hbb.out.trans h1
        subst e
        clear h1 hle
        go_wp2
        go_ret
        exact ⟨rfl, hxr.below⟩
theorem areE_long {l : List ByteArray} (h : areE l = 0) : longA l = false := by
  have h1 := (areE_zero h).1
  have h2 := areE_size h
  unfold longA
  rw [decide_eq_false (by omega), Bool.false_or, List.any_eq_false]
  intro s hs
  have := h2 s hs
  simp; omega
end Go.Proofs.YthcfhmebikcfpaaGreatDoor

namespace Go.Proofs.YthcfhmebikcfpaaGreatDoor
open Go.RowKit

attribute [local go_sem] Holds.drew Holds.alloc Holds.drewN WB.holds Oper.semAt_some

def orA : List Int → Int
  | [] => 0
  | x :: xs => if x = 0 then orA xs else x

set_option maxRecDepth 100000 in
theorem cmpOr_any (v : Value) (xs : List Int) (H : Snap) (w : World) (hw : Holds H w) (hs : Sl H v xs) (hl : xs.length ≤ 1000000) :
    Calls Tryz.prog 55 #[v] w (fun e w' => e = .returned (.int .i64 (orA xs)) ∧ w' = w) := by
  obtain ⟨a, c, rfl, _, _⟩ := hs.form
  go_enter Tryz.func55, Tryz.ntmps55
  go_wp2
  go_loopw [8] (fun i wr => ∃ k : Nat, k ≤ xs.length ∧ i = .int .i64 (k : Int) ∧ Hid (orA (xs.drop k) = orA xs) ∧ Hid (wr = w)) (fun i _ => xs.length - (intOf i).toNat)
  case atStart => exact ⟨0, Nat.zero_le _, rfl, rfl, Lib.hid rfl⟩
  case round =>
    obtain ⟨k, hk, rfl, hor, hww⟩ := hrel
    have hww2 := hww.out
    clear hww
    subst hww2
    by_cases hlk : k < xs.length
    · obtain ⟨x, hx⟩ := At.mk hlk
      obtain ⟨b, o, c', he, hi, hr⟩ := hs.int hx
      cases he
      have hd : xs.drop k = x :: xs.drop (k + 1) := by
        rw [List.drop_eq_getElem_cons hlk]
        congr 1
        have := hx; unfold At at this; rw [List.getElem?_eq_getElem hlk] at this; exact Option.some.inj this
      have hor2 := hor.out
      rw [hd] at hor2
      have hk0 : (0 : Int) ≤ (k : Int) := by omega
      have hk1 : (k : Int) < (xs.length : Int) := by omega
      by_cases h0 : x = 0
      · subst h0
        have hnext : orA (xs.drop (k + 1)) = orA xs := by rw [← hor2]; rfl
        replace hnext := Lib.hid hnext
        clear hor2 hd hor
        go_wp2_with fail
        go_roundw
        case rel => exact ⟨k + 1, by omega, by go_num, hnext, Lib.hid (by first | rfl | trivial)⟩
        case measure => simp [intOf]; omega
      · have hres : orA xs = x := by rw [← hor2]; exact if_neg h0
        have hb1 : (x == 0) = false := by rw [beq_eq_false_iff_ne]; exact h0
        have hb2 : (x != 0) = true := by rw [bne_iff_ne]; exact h0
        replace hres := Lib.hid hres
        clear hor2 hd hor
        go_wp2_with fail
        go_ret
        rw [hres.out]
        exact ⟨rfl, rfl⟩
    · have hres : orA xs = 0 := by rw [← hor.out, List.drop_of_length_le (by omega)]; rfl
      replace hres := Lib.hid hres
      go_wp2_with fail
      go_ret
      rw [hres.out]
      exact ⟨rfl, rfl⟩

theorem cmpOr2 (W : World) (g : Nat) (hg : g = W.heap.size) (x y : Int) (hx : I64 x) (hy : I64 y) :
    Calls Tryz.prog 55 #[.slice (some ⟨g, 0, none⟩) 2 2] (W.alloc (.cells #[.int .i64 x, .int .i64 y] 3)) (fun e w' => e = .returned (.int .i64 (orA [x, y])) ∧ w' = W.alloc (.cells #[.int .i64 x, .int .i64 y] 3)) := by
  subst hg
  have hr : reps noSnap [x, y] [.int .i64 x, .int .i64 y] := ⟨[.int .i64 x], [.int .i64 y], rfl, ⟨rfl, hx⟩, [.int .i64 y], [], rfl, ⟨rfl, hy⟩, rfl⟩
  obtain ⟨H2, _, hx2, hs2⟩ := Ext.lit (Ext.refl (noHolds W)) hr 3 (by simp [Enc.by_]) (by simp)
  exact cmpOr_any _ [x, y] H2 _ hx2.holds hs2 (by simp)
def codeCmp (a b : Pr) : Int := orA [a.n - b.n, a.s - b.s]
def SmallP (p : Pr) : Prop := (0 ≤ p.s ∧ p.s ≤ 1000) ∧ (0 ≤ p.n ∧ p.n ≤ 1000)
set_option maxRecDepth 100000 in
theorem codedCmp_any (a b : Pr) (ha : SmallP a) (hb : SmallP b) (w : World) :
    Calls Tryz.prog 54 #[.agg #[.int .i64 a.s, .int .i64 a.n], .agg #[.int .i64 b.s, .int .i64 b.n]] w (fun e w' => e = .returned (.int .i64 (codeCmp a b)) ∧ ∃ A B C, w' = ((w.alloc A).alloc B).alloc C) := by
  obtain ⟨⟨a1, a2⟩, a3, a4⟩ := ha
  obtain ⟨⟨b1, b2⟩, b3, b4⟩ := hb
  have e1 : IntKind.i64.wrap (a.n - b.n) = a.n - b.n := IntWalk.i64_in _ (by omega)
  have e2 : IntKind.i64.wrap (a.s - b.s) = a.s - b.s := IntWalk.i64_in _ (by omega)
  have f1 : wrap64 (a.n - b.n) = a.n - b.n := wrap64_in _ (by omega) (by omega)
  have f2 : wrap64 (a.s - b.s) = a.s - b.s := wrap64_in _ (by omega) (by omega)
  have hi : I64 (a.n - b.n) ∧ I64 (a.s - b.s) := ⟨by unfold I64; omega, by unfold I64; omega⟩
  clear a1 a2 a3 a4 b1 b2 b3 b4
  go_enter Tryz.func54, Tryz.ntmps54
  go_wp2_with (first | (go_at_call 55; go_must (refine (cmpOr2 ((w.alloc _).alloc _) _ (by simp) _ _ hi.1 hi.2).mono ?_); rintro e w2 ⟨rfl, rfl⟩))
  go_ret
  exact ⟨rfl, _, _, _, rfl⟩
end Go.Proofs.YthcfhmebikcfpaaGreatDoor

namespace Go.Proofs.YthcfhmebikcfpaaGreatDoor

/-! ### What joining costs -/

def joinC : Nat → List Nod → Nat
  | 0, _ => 0
  | n + 1, l => if l.length ≤ 1 then 0 else (joinX l).w + joinC n (joinR l ++ [joinX l])
theorem joinC_succ {n : Nat} {l : List Nod} (h : 2 ≤ l.length) : joinC (n + 1) l = (joinX l).w + joinC n (joinR l ++ [joinX l]) := by
  show (if l.length ≤ 1 then 0 else _) = _
  rw [if_neg (by omega)]
theorem joinC_one (n : Nat) {l : List Nod} (h : l.length ≤ 1) : joinC n l = 0 := by
  cases n with
  | zero => rfl
  | succ n => show (if l.length ≤ 1 then 0 else _) = 0; rw [if_pos h]
theorem huffGo_succ {n : Nat} {l : List Nod} {bits : List Nat} (h : 2 ≤ l.length) : huffGo (n + 1) l bits = huffGo n (joinR l ++ [joinX l]) (incr bits (joinX l).s) := by
  show (if l.length ≤ 1 then bits else _) = _
  rw [if_neg (by omega)]
/-- The bits that symbols of some weights have by some lengths. -/
def costB (ws bits : List Nat) : Nat := sumOn (fun i => bitAt ws i * bitAt bits i) (List.range ws.length)
theorem sum_mem {f : Nat → Nat} {n : Nat} {s : List Nat} (hn : s.Nodup) (h : ∀ i ∈ s, i < n) : sumOn (fun i => if i ∈ s then f i else 0) (List.range n) = sumOn f s := by
  have hp : (List.range n).Perm (s ++ (List.range n).filter (fun i => decide (i ∉ s))) := by
    have h1 : ((List.range n).filter (fun i => decide (i ∈ s))).Perm s := by
      refine (List.perm_ext_iff_of_nodup (List.nodup_range.filter _) hn).2 fun a => ?_
      simp only [List.mem_filter, List.mem_range, decide_eq_true_eq]
      exact ⟨fun k => k.2, fun k => ⟨h a k, k⟩⟩
    have h2 := List.filter_append_perm (fun i => decide (i ∈ s)) (List.range n)
    have h3 : (List.range n).filter (fun i => !decide (i ∈ s)) = (List.range n).filter (fun i => decide (i ∉ s)) := by
      congr 1; funext i; simp
    rw [h3] at h2
    exact h2.symm.trans (h1.append_right _)
  rw [sumOn_perm hp, sumOn_append]
  rw [sumOn_congr (s := s) (g := f) fun i hi => if_pos hi]
  rw [sumOn_congr (s := (List.range n).filter _) (g := fun _ => 0) fun i hi => by
    have := (List.mem_filter.1 hi).2
    rw [if_neg (by simpa using this)]]
  generalize (List.range n).filter _ = r
  have : sumOn (fun _ => 0) r = 0 := by
    induction r with
    | nil => rfl
    | cons x r ih => rw [sumOn_cons, ih]
  omega
theorem cost_join {ws : List Nat} {l : List Nod} {bits : List Nat} (F : Forest ws l bits) (h : 2 ≤ l.length) : costB ws (incr bits (joinX l).s) = costB ws bits + (joinX l).w := by
  obtain ⟨F2, hnd, hlt, _⟩ := F.join h
  have hat := incr_at hnd hlt
  have hw := F2.weigh (joinX l) (by simp)
  rw [hw, ← sum_mem (n := ws.length) hnd (fun i hi => by rw [← F.len]; exact hlt i hi)]
  unfold costB
  rw [← sumOn_add]
  refine sumOn_congr fun i _ => ?_
  rw [hat]
  split
  · rw [Nat.mul_add, Nat.mul_one]
  · simp
theorem huffGo_cost {ws : List Nat} : ∀ (n : Nat) (l : List Nod) (bits : List Nat), Forest ws l bits → costB ws (huffGo n l bits) = costB ws bits + joinC n l
  | 0, _, _, _ => rfl
  | n + 1, l, bits, F => by
    by_cases h : l.length ≤ 1
    · rw [huffGo_one _ h, joinC_one _ h]; rfl
    · rw [huffGo_succ (by omega), joinC_succ (by omega), huffGo_cost n _ _ (F.join (by omega)).1, cost_join F (by omega)]; omega
theorem sumOn_zero {α : Type} (s : List α) : sumOn (fun _ => 0) s = 0 := by
  induction s with
  | nil => rfl
  | cons x r ih => rw [sumOn_cons, ih]
theorem huff_cost {ws : List Nat} (h : 2 ≤ ws.length) : costB ws (huff ws) = joinC ws.length (startN ws) := by
  unfold huff
  rw [if_neg (by omega), huffGo_cost _ _ _ (Forest.start (by simp))]
  have : costB ws (List.replicate ws.length 0) = 0 := by
    unfold costB
    rw [sumOn_congr (g := fun _ => 0) fun i _ => by rw [bitAt_zero]; rfl]
    exact sumOn_zero _
  omega

/-! ### Any code costs as much at least -/

def costP (L : List (Nat × Nat)) : Nat := sumOn (fun p => p.1 * p.2) L
structure Kr (D : Nat) (L : List (Nat × Nat)) : Prop where
  deep : ∀ p ∈ L, p.2 ≤ D
  sum : sumOn (fun p => 2 ^ (D - p.2)) L ≤ 2 ^ D
theorem Kr.perm {D : Nat} {L K : List (Nat × Nat)} (h : Kr D L) (hp : L.Perm K) : Kr D K :=
  ⟨fun p hm => h.deep p (hp.mem_iff.2 hm), by rw [← sumOn_perm hp]; exact h.sum⟩
theorem costP_perm {L K : List (Nat × Nat)} (hp : L.Perm K) : costP L = costP K := sumOn_perm hp
theorem max_of (L : List (Nat × Nat)) (h : L ≠ []) : ∃ p K, L.Perm (p :: K) ∧ ∀ q ∈ K, q.2 ≤ p.2 := by
  induction L with
  | nil => exact absurd rfl h
  | cons x L ih =>
    by_cases e : L = []
    · subst e; exact ⟨x, [], List.Perm.refl _, by simp⟩
    · obtain ⟨p, K, hp, hm⟩ := ih e
      by_cases g : p.2 ≤ x.2
      · refine ⟨x, L, List.Perm.refl _, fun q hq => ?_⟩
        rcases List.mem_cons.1 (hp.mem_iff.1 hq) with rfl | hq
        · exact g
        · exact Nat.le_trans (hm q hq) g
      · refine ⟨p, x :: K, (hp.cons x).trans (List.Perm.swap _ _ _), fun q hq => ?_⟩
        rcases List.mem_cons.1 hq with rfl | hq
        · omega
        · exact hm q hq
theorem pow_dvd_sum {D M : Nat} (hM : M ≤ D) : ∀ {L : List (Nat × Nat)}, (∀ p ∈ L, p.2 ≤ M) → ∃ c, sumOn (fun p => 2 ^ (D - p.2)) L = c * 2 ^ (D - M)
  | [], _ => ⟨0, by simp⟩
  | p :: L, h => by
    obtain ⟨c, hc⟩ := pow_dvd_sum hM (L := L) fun q hq => h q (by simp [hq])
    have hp := h p (by simp)
    refine ⟨2 ^ (M - p.2) + c, ?_⟩
    rw [sumOn_cons, hc, Nat.add_mul, ← Nat.pow_add, show M - p.2 + (D - M) = D - p.2 by omega]
/-- Two of the deepest, with no more bits. -/
theorem deepest {D : Nat} : ∀ (n : Nat) (L : List (Nat × Nat)), sumOn (fun p => p.2) L = n → 2 ≤ L.length → Kr D L →
    ∃ x y M K, 1 ≤ M ∧ M ≤ D ∧ Kr D ((x, M) :: (y, M) :: K) ∧ (∀ p ∈ K, p.2 ≤ M) ∧ (L.map Prod.fst).Perm (x :: y :: K.map Prod.fst) ∧ costP ((x, M) :: (y, M) :: K) ≤ costP L := by
  intro n
  induction n using Nat.strongRecOn with
  | _ n ih =>
    intro L hn hl hk
    obtain ⟨p, K, hp, hm⟩ := max_of L (by intro e; subst e; simp at hl)
    have hlen := hp.length_eq
    have hKne : K ≠ [] := by intro e; subst e; simp at hlen; omega
    obtain ⟨q, K2, hq, hm2⟩ := max_of K hKne
    have hp2 : L.Perm (p :: q :: K2) := hp.trans (hq.cons p)
    have hk2 := hk.perm hp2
    have hqp := hm q (hq.mem_iff.2 (by simp))
    have hpD := hk2.deep p (by simp)
    have hsum := hk2.sum
    rw [sumOn_cons, sumOn_cons] at hsum
    by_cases e : q.2 = p.2
    · have h1 : 1 ≤ p.2 := by
        apply Classical.byContradiction
        intro h0
        have hz : p.2 = 0 := by omega
        rw [e, hz, Nat.sub_zero] at hsum
        have := Nat.two_pow_pos D
        omega
      refine ⟨p.1, q.1, p.2, K2, h1, hpD, ?_, fun r hr => by rw [← e]; exact hm2 r hr, ?_, ?_⟩
      · have : (q.1, p.2) = q := by rw [← e]
        rw [this]; exact hk2
      · have := hp2.map Prod.fst
        simpa using this
      · have : (q.1, p.2) = q := by rw [← e]
        rw [this, costP_perm hp2]
        exact Nat.le_refl _
    · have hlt : q.2 < p.2 := by omega
      have hall : ∀ r ∈ q :: K2, r.2 ≤ p.2 - 1 := fun r hr => by
        rcases List.mem_cons.1 hr with rfl | hr
        · omega
        · have := hm2 r hr; omega
      obtain ⟨c, hc⟩ := pow_dvd_sum (D := D) (M := p.2 - 1) (by omega) hall
      rw [sumOn_cons] at hc
      have e1 : D - (p.2 - 1) = D - p.2 + 1 := by omega
      have e2 : 2 ^ D = 2 ^ (p.2 - 1) * 2 ^ (D - (p.2 - 1)) := by rw [← Nat.pow_add]; congr 1; omega
      have hpos := Nat.two_pow_pos (D - p.2)
      have hlt2 : c < 2 ^ (p.2 - 1) := by
        apply Classical.byContradiction
        intro hcc
        have := Nat.mul_le_mul_right (2 ^ (D - (p.2 - 1))) (show 2 ^ (p.2 - 1) ≤ c by omega)
        omega
      have hle := Nat.mul_le_mul_right (2 ^ (D - (p.2 - 1))) (show c + 1 ≤ 2 ^ (p.2 - 1) by omega)
      rw [Nat.add_mul, Nat.one_mul] at hle
      have hkn : Kr D ((p.1, p.2 - 1) :: q :: K2) := by
        refine ⟨fun r hr => ?_, ?_⟩
        · rcases List.mem_cons.1 hr with rfl | hr
          · show p.2 - 1 ≤ D; omega
          · exact hk2.deep r (by simp [List.mem_cons.1 hr])
        · rw [sumOn_cons, sumOn_cons, hc]
          show 2 ^ (D - (p.2 - 1)) + _ ≤ _
          omega
      have hn2 : sumOn (fun p => p.2) ((p.1, p.2 - 1) :: q :: K2) < n := by
        rw [← hn, sumOn_perm hp2]
        simp only [sumOn_cons]
        omega
      obtain ⟨x, y, M, K3, g1, g2, g3, g4, g5, g6⟩ := ih _ hn2 _ rfl (by simp) hkn
      refine ⟨x, y, M, K3, g1, g2, g3, g4, ?_, Nat.le_trans g6 ?_⟩
      · have := hp2.map Prod.fst
        simp only [List.map_cons] at this g5
        exact this.trans g5
      · rw [costP_perm hp2]
        unfold costP
        simp only [sumOn_cons]
        have : p.1 * (p.2 - 1) ≤ p.1 * p.2 := Nat.mul_le_mul_left _ (by omega)
        omega
/-- A lighter one comes to the deepest place. -/
theorem exch {x M a : Nat} {K : List (Nat × Nat)} (hK : ∀ p ∈ K, p.2 ≤ M) (ha : a ∈ x :: K.map Prod.fst) (hax : a ≤ x) :
    ∃ K2, (x :: K.map Prod.fst).Perm (a :: K2.map Prod.fst) ∧ (K.map Prod.snd).Perm (K2.map Prod.snd) ∧ a * M + costP K2 ≤ x * M + costP K := by
  rcases List.mem_cons.1 ha with rfl | ha
  · exact ⟨K, List.Perm.refl _, List.Perm.refl _, Nat.le_refl _⟩
  · obtain ⟨⟨a', d⟩, hm, rfl⟩ := List.mem_map.1 ha
    have hp := List.perm_cons_erase hm
    generalize K.erase (a', d) = K3 at hp
    have hd := hK _ hm
    refine ⟨(x, d) :: K3, ?_, ?_, ?_⟩
    · have := hp.map Prod.fst
      simp only [List.map_cons] at this ⊢
      exact (this.cons x).trans (List.Perm.swap _ _ _)
    · have := hp.map Prod.snd
      simpa using this
    · rw [costP_perm hp]
      unfold costP
      rw [sumOn_cons, sumOn_cons]
      simp only at hd hax ⊢
      obtain ⟨k, rfl⟩ := Nat.exists_eq_add_of_le hax
      obtain ⟨j, rfl⟩ := Nat.exists_eq_add_of_le hd
      have e1 : a' * (d + j) = a' * d + a' * j := Nat.mul_add _ _ _
      have e2 : (a' + k) * (d + j) = a' * d + a' * j + (k * d + k * j) := by rw [Nat.add_mul, Nat.mul_add, Nat.mul_add]
      have e3 : (a' + k) * d = a' * d + k * d := Nat.add_mul _ _ _
      omega
theorem kr_of_snd {D : Nat} {K L : List (Nat × Nat)} (h : (K.map Prod.snd).Perm (L.map Prod.snd)) : sumOn (fun p => 2 ^ (D - p.2)) K = sumOn (fun p => 2 ^ (D - p.2)) L := by
  have h1 := sumOn_map (fun d => 2 ^ (D - d)) Prod.snd K
  have h2 := sumOn_map (fun d => 2 ^ (D - d)) Prod.snd L
  rw [← h1, ← h2]
  exact sumOn_perm h
/-- The two lightest are joined. -/
theorem merge {D a b : Nat} {rest : List Nat} {L : List (Nat × Nat)} (hk : Kr D L) (hw : (L.map Prod.fst).Perm (a :: b :: rest)) (ha : ∀ y ∈ b :: rest, a ≤ y) (hb : ∀ y ∈ rest, b ≤ y) :
    ∃ L2, (L2.map Prod.fst).Perm ((a + b) :: rest) ∧ Kr D L2 ∧ costP L2 + (a + b) ≤ costP L := by
  have hl : 2 ≤ L.length := by have := hw.length_eq; simp at this; omega
  obtain ⟨x, y, M, K, h1, h2, h3, h4, h5, h6⟩ := deepest _ L rfl hl hk
  have hw2 : (x :: y :: K.map Prod.fst).Perm (a :: b :: rest) := h5.symm.trans hw
  have hall : ∀ z ∈ x :: y :: K.map Prod.fst, a ≤ z := fun z hz => by
    rcases List.mem_cons.1 (hw2.mem_iff.1 hz) with rfl | hz
    · exact Nat.le_refl _
    · exact ha z hz
  obtain ⟨K2, p1, p2, p3⟩ := exch (x := x) (M := M) (a := a) (K := (y, M) :: K) (fun p hp => by
    rcases List.mem_cons.1 hp with rfl | hp
    · exact Nat.le_refl _
    · exact h4 p hp) (hw2.mem_iff.2 (by simp)) (hall x (by simp))
  have hM : M ∈ K2.map Prod.snd := p2.mem_iff.1 (by simp)
  obtain ⟨⟨y', M'⟩, hm, e⟩ := List.mem_map.1 hM
  have e : M' = M := e
  subst e
  have hp := List.perm_cons_erase hm
  generalize K2.erase (y', M') = K3 at hp
  have q2 : (K.map Prod.snd).Perm (K3.map Prod.snd) := by
    have := hp.map Prod.snd
    simp only [List.map_cons] at this p2
    exact (List.perm_cons M').1 (p2.trans this)
  have q1 : (y' :: K3.map Prod.fst).Perm (b :: rest) := by
    have := hp.map Prod.fst
    simp only [List.map_cons] at this p1
    exact (List.perm_cons a).1 ((p1.trans (this.cons a)).symm.trans hw2)
  have hd3 : ∀ p ∈ K3, p.2 ≤ M' := fun p hp => by
    have : p.2 ∈ K.map Prod.snd := q2.mem_iff.2 (List.mem_map.2 ⟨p, hp, rfl⟩)
    obtain ⟨r, hr, e⟩ := List.mem_map.1 this
    rw [← e]; exact h4 r hr
  obtain ⟨K4, r1, r2, r3⟩ := exch (x := y') (M := M') (a := b) (K := K3) hd3 (q1.mem_iff.2 (by simp)) (by
    rcases List.mem_cons.1 (q1.mem_iff.1 (show y' ∈ y' :: K3.map Prod.fst by simp)) with e | h
    · omega
    · exact hb y' h)
  have s1 : (K4.map Prod.fst).Perm rest := (List.perm_cons b).1 (r1.symm.trans q1)
  have hK4 := (kr_of_snd (D := D) q2).trans (kr_of_snd (D := D) r2)
  refine ⟨(a + b, M' - 1) :: K4, ?_, ⟨fun p hp => ?_, ?_⟩, ?_⟩
  · simp only [List.map_cons]; exact s1.cons _
  · rcases List.mem_cons.1 hp with rfl | hp
    · show M' - 1 ≤ D; omega
    · have : p.2 ∈ K.map Prod.snd := q2.mem_iff.2 (r2.mem_iff.2 (List.mem_map.2 ⟨p, hp, rfl⟩))
      obtain ⟨r, hr, e⟩ := List.mem_map.1 this
      have := h4 r hr
      omega
  · have hs := h3.sum
    rw [sumOn_cons, sumOn_cons, hK4] at hs
    rw [sumOn_cons]
    show 2 ^ (D - (M' - 1)) + _ ≤ _
    rw [show D - (M' - 1) = D - M' + 1 by omega, Nat.pow_succ]
    simp only at hs
    omega
  · have hc1 : costP ((y, M') :: K) = y * M' + costP K := sumOn_cons _ _ _
    have hc2 : costP K2 = y' * M' + costP K3 := (costP_perm hp).trans (sumOn_cons _ _ _)
    have hc3 : costP ((x, M') :: (y, M') :: K) = x * M' + costP ((y, M') :: K) := sumOn_cons _ _ _
    have hc4 : costP ((a + b, M' - 1) :: K4) = (a + b) * (M' - 1) + costP K4 := sumOn_cons _ _ _
    obtain ⟨m, rfl⟩ : ∃ m, M' = m + 1 := ⟨M' - 1, by omega⟩
    rw [Nat.add_sub_cancel] at hc4 ⊢
    rw [hc4, Nat.add_mul]
    have e1 : a * (m + 1) = a * m + a := Nat.mul_succ _ _
    have e2 : b * (m + 1) = b * m + b := Nat.mul_succ _ _
    omega
/-- Joining costs the least. -/
theorem joinC_least {D : Nat} : ∀ (n : Nat) (l : List Nod) (L : List (Nat × Nat)), Kr D L → (L.map Prod.fst).Perm (l.map Nod.w) → joinC n l ≤ costP L
  | 0, _, _, _, _ => Nat.zero_le _
  | n + 1, l, L, hk, hw => by
    by_cases h : l.length ≤ 1
    · rw [joinC_one _ h]; exact Nat.zero_le _
    · have h2 : 2 ≤ l.length := by omega
      obtain ⟨hp, _⟩ := join_perm h2
      have hw2 : (L.map Prod.fst).Perm ((lightN l).w :: (lightN (lightR l)).w :: (joinR l).map Nod.w) := hw.trans (hp.map Nod.w)
      obtain ⟨L2, w2, k2, c2⟩ := merge hk hw2 (fun y hy => by
        rcases List.mem_cons.1 hy with rfl | hy
        · exact join_ab h2
        · obtain ⟨z, hz, rfl⟩ := List.mem_map.1 hy
          exact (join_le h2 hz).1) (fun y hy => by
        obtain ⟨z, hz, rfl⟩ := List.mem_map.1 hy
        exact (join_le h2 hz).2)
      have ih := joinC_least n (joinR l ++ [joinX l]) L2 k2 (by
        rw [List.map_append]
        refine w2.trans ?_
        exact (List.perm_append_comm (l₁ := [(joinX l).w])).trans (List.Perm.refl _))
      rw [joinC_succ h2]
      have e : (joinX l).w = (lightN l).w + (lightN (lightR l)).w := rfl
      omega
theorem startN_w (ws : List Nat) : (startN ws).map Nod.w = ws := by
  unfold startN
  apply List.ext_getElem (by simp)
  intro i h1 h2
  simp
/-- No lengths that are a code have fewer bits. -/
theorem huff_least {ws ls : List Nat} {D : Nat} (hl : ls.length = ws.length) (hd : ∀ b ∈ ls, b ≤ D) (h1 : ∀ b ∈ ls, 1 ≤ b) (hk : sumOn (fun i => 2 ^ (D - bitAt ls i)) (List.range ws.length) ≤ 2 ^ D) : costB ws (huff ws) ≤ costB ws ls := by
  have hz : ∀ i, i < ws.length → bitAt ls i ∈ ls := fun i hi => by
    unfold bitAt
    rw [List.getD_eq_getElem?_getD, List.getElem?_eq_getElem (by omega)]
    exact List.getElem_mem _
  by_cases h2 : 2 ≤ ws.length
  · have hfst : ((List.range ws.length).map fun i => (bitAt ws i, bitAt ls i)).map Prod.fst = ws := by
      apply List.ext_getElem (by simp)
      intro i a b
      simp only [List.length_map, List.length_range] at a
      simp [bitAt, List.getElem?_eq_getElem a]
    have h := joinC_least (D := D) ws.length (startN ws) ((List.range ws.length).map fun i => (bitAt ws i, bitAt ls i)) ⟨fun p hp => by
      obtain ⟨i, hi, rfl⟩ := List.mem_map.1 hp
      exact hd _ (hz i (List.mem_range.1 hi)), by rw [sumOn_map]; exact hk⟩ (by rw [startN_w, hfst])
    rw [huff_cost h2]
    refine Nat.le_trans h ?_
    unfold costP costB
    rw [sumOn_map]
    exact Nat.le_refl _
  · unfold costB
    refine sumOn_le fun i hi => ?_
    have hi := List.mem_range.1 hi
    have e1 : ws.length = 1 := by omega
    have e0 : i = 0 := by omega
    subst e0
    have hh : huff ws = [1] := by
      unfold huff
      rw [if_pos e1, huffGo_one _ (by rw [startN_len]; omega)]
    rw [hh]
    exact Nat.mul_le_mul_left _ (by
      have := h1 _ (hz 0 hi)
      simpa [bitAt] using this)

end Go.Proofs.YthcfhmebikcfpaaGreatDoor

namespace Go.Proofs.YthcfhmebikcfpaaGreatDoor

/-! ### Binary digits -/

theorem binB_zero (n : Nat) : binB n 0 = [] := rfl
theorem binB_take : ∀ (d n e : Nat), e ≤ d → (binB n d).take e = binB (n / 2 ^ (d - e)) e
  | 0, n, e, h => by
    obtain rfl : e = 0 := by omega
    rfl
  | d + 1, n, e, h => by
    by_cases g : e = d + 1
    · subst g
      rw [Nat.sub_self, Nat.pow_zero, Nat.div_one, List.take_of_length_le (by rw [binB_len]; omega)]
    · rw [binB_succ, List.take_append_of_le_length (by rw [binB_len]; omega), binB_take d (n / 2) e (by omega), Nat.div_div_eq_div_mul]
      congr 2
      rw [show d + 1 - e = (d - e) + 1 by omega, Nat.pow_succ]; omega
theorem binB_inj : ∀ (d m n : Nat), m < 2 ^ d → n < 2 ^ d → binB m d = binB n d → m = n
  | 0, m, n, h1, h2, _ => by simp at h1 h2; omega
  | d + 1, m, n, h1, h2, h => by
    rw [binB_succ, binB_succ] at h
    obtain ⟨h3, h4⟩ := List.append_inj' h rfl
    have h5 := binB_inj d (m / 2) (n / 2) (by rw [Nat.pow_succ] at h1; omega) (by rw [Nat.pow_succ] at h2; omega) h3
    have h6 : m % 2 = n % 2 := by
      simp only [List.cons.injEq, and_true] at h4
      rcases Nat.mod_two_eq_zero_or_one m with a | a <;> rcases Nat.mod_two_eq_zero_or_one n with b | b
      · omega
      · rw [a, b] at h4; exact absurd h4 (by decide)
      · rw [a, b] at h4; exact absurd h4 (by decide)
      · omega
    omega
theorem binB_bits : ∀ (d n : Nat), ∀ b ∈ binB n d, b = 48 ∨ b = 49
  | 0, _, b, h => by cases h
  | d + 1, n, b, h => by
    rw [binB_succ] at h
    rcases List.mem_append.1 h with h | h
    · exact binB_bits d _ b h
    · rw [List.mem_singleton.1 h]; split <;> simp

/-! ### The sums -/

def pw (l : List Pr) (j : Nat) : Nat := 2 ^ (15 - bitsN l j)
def kraftN (l : List Pr) : Nat := sumOn (pw l) (List.range l.length)
theorem pow15_bits {n : Int} (h1 : 1 ≤ n) (h2 : n ≤ 15) : pow15 n = ((2 ^ (15 - n.toNat) : Nat) : Int) := by
  have : ∀ k : Nat, 1 ≤ k → k ≤ 15 → pow15 (k : Int) = ((2 ^ (15 - (k : Int).toNat) : Nat) : Int) := by
    intro k a b
    have : k = 1 ∨ k = 2 ∨ k = 3 ∨ k = 4 ∨ k = 5 ∨ k = 6 ∨ k = 7 ∨ k = 8 ∨ k = 9 ∨ k = 10 ∨ k = 11 ∨ k = 12 ∨ k = 13 ∨ k = 14 ∨ k = 15 := by omega
    rcases this with rfl | rfl | rfl | rfl | rfl | rfl | rfl | rfl | rfl | rfl | rfl | rfl | rfl | rfl | rfl <;> rfl
  have h := this n.toNat (by omega) (by omega)
  rwa [show ((n.toNat : Nat) : Int) = n by omega] at h
theorem kraftN_cons (p : Pr) (l : List Pr) : kraftN (p :: l) = 2 ^ (15 - p.n.toNat) + kraftN l := by
  unfold kraftN
  rw [List.length_cons, List.range_succ_eq_map, sumOn_cons, sumOn_map]
  rfl
theorem kraft_eq {l : List Pr} (h : Bits15 l) : ((l.map fun p => pow15 p.n).foldr (· + ·) 0) = (kraftN l : Int) := by
  induction l with
  | nil => rfl
  | cons p l ih =>
    have hp := h p (by simp)
    rw [List.map_cons, List.foldr_cons, ih fun q hq => h q (by simp [hq]), kraftN_cons, pow15_bits hp.1 hp.2]
    omega
theorem IsCode.kraftN {l : List Pr} (h : IsCode l) : kraftN l ≤ 32768 := by
  have := h.kraft
  rw [kraft_eq h.b15] at this
  omega
theorem sum_at {f : Nat → Nat} {n i : Nat} (hi : i < n) : sumOn (fun j => if j = i then f j else 0) (List.range n) = f i := by
  have := sum_mem (f := f) (n := n) (s := [i]) (by simp) (by simpa using hi)
  simp only [List.mem_singleton, sumOn_cons, sumOn_nil, Nat.add_zero] at this
  exact this
/-- Where a symbol's stretch begins. -/
def strt (l : List Pr) (i : Nat) : Nat := befS l (bitsN l i) i
theorem isBef_self (l : List Pr) (i : Nat) : isBef l (bitsN l i) i i = false := by unfold isBef; simp
theorem strt_lt {l : List Pr} {i j : Nat} (hi : i < l.length) (h : isBef l (bitsN l j) j i = true) : strt l i + pw l i ≤ strt l j := by
  have h1 := sum_at (f := pw l) hi
  unfold strt befS
  rw [← h1, ← sumOn_add]
  refine sumOn_le fun x _ => ?_
  have hi2 : bitsN l i < bitsN l j ∨ (bitsN l i = bitsN l j ∧ i < j) := by
    unfold isBef at h
    simpa using h
  by_cases e : x = i
  · subst e
    rw [isBef_self, if_pos rfl, h]
    simp [pw]
  · rw [if_neg e]
    by_cases g : isBef l (bitsN l i) i x = true
    · have : isBef l (bitsN l j) j x = true := by
        unfold isBef at g ⊢
        simp only [Bool.or_eq_true, Bool.and_eq_true, decide_eq_true_eq] at g ⊢
        omega
      rw [if_pos g, if_pos this]; omega
    · rw [if_neg g]; omega
theorem strt_le {l : List Pr} {i : Nat} (hi : i < l.length) : strt l i + pw l i ≤ kraftN l := by
  have h1 := sum_at (f := pw l) hi
  unfold strt befS kraftN
  rw [← h1, ← sumOn_add]
  refine sumOn_le fun x _ => ?_
  by_cases e : x = i
  · subst e
    rw [isBef_self, if_pos rfl]
    simp [pw]
  · rw [if_neg e]
    split
    · show 2 ^ (15 - bitsN l x) + 0 ≤ pw l x; exact Nat.le_refl _
    · omega
theorem bef_total (l : List Pr) {i j : Nat} (h : i ≠ j) : isBef l (bitsN l j) j i = true ∨ isBef l (bitsN l i) i j = true := by
  unfold isBef
  simp only [Bool.or_eq_true, Bool.and_eq_true, decide_eq_true_eq]
  omega
theorem strt_dvd {l : List Pr} (h : Bits15 l) (i : Nat) : ∃ c, strt l i = c * pw l i := by
  unfold strt befS
  have key : ∀ r : List Nat, ∃ c, sumOn (fun j => if isBef l (bitsN l i) i j then 2 ^ (15 - bitsN l j) else 0) r = c * pw l i := by
    intro r
    induction r with
    | nil => exact ⟨0, by simp⟩
    | cons x r ih =>
      obtain ⟨c, hc⟩ := ih
      rw [sumOn_cons, hc]
      by_cases g : isBef l (bitsN l i) i x = true
      · rw [if_pos g]
        have hle : bitsN l x ≤ bitsN l i := by
          unfold isBef at g
          simp only [Bool.or_eq_true, Bool.and_eq_true, decide_eq_true_eq] at g
          omega
        have hb : bitsN l i ≤ 15 := by
          by_cases hi : i < l.length
          · exact (h.at hi).2
          · unfold bitsN
            rw [List.getD_eq_getElem?_getD, List.getElem?_eq_none (by omega)]
            decide
        refine ⟨2 ^ (bitsN l i - bitsN l x) + c, ?_⟩
        unfold pw
        rw [Nat.add_mul, ← Nat.pow_add, show bitsN l i - bitsN l x + (15 - bitsN l i) = 15 - bitsN l x by omega]
      · rw [if_neg g]; exact ⟨c, by omega⟩
  exact key _
theorem pw_pos (l : List Pr) (i : Nat) : 0 < pw l i := Nat.two_pow_pos _
theorem codeAt_len (l : List Pr) (i : Nat) : (codeAt l i).length = bitsN l i := binB_len _ _
theorem codeAt_lt {l : List Pr} (h : Bits15 l) (hk : kraftN l ≤ 32768) {i : Nat} (hi : i < l.length) : strt l i / pw l i < 2 ^ bitsN l i := by
  have h1 := strt_le hi
  have h2 := (h.at hi).2
  have h3 := pw_pos l i
  rw [Nat.div_lt_iff_lt_mul h3]
  unfold pw at *
  rw [← Nat.pow_add, show bitsN l i + (15 - bitsN l i) = 15 by omega]
  have : 2 ^ 15 = 32768 := by decide
  omega
/-- No symbol's bits begin with those of another one. -/
theorem code_prefix {l : List Pr} (h : Bits15 l) (hk : kraftN l ≤ 32768) {i j : Nat} (hi : i < l.length) (hj : j < l.length) (hp : codeAt l i <+: codeAt l j) : i = j := by
  apply Classical.byContradiction
  intro hne
  have hle : bitsN l i ≤ bitsN l j := by
    have := hp.length_le
    rwa [codeAt_len, codeAt_len] at this
  have hbi := h.at hi
  have hbj := h.at hj
  have he : codeAt l i = (codeAt l j).take (bitsN l i) := by
    have := List.prefix_iff_eq_take.1 hp
    rwa [codeAt_len] at this
  have e1 : codeAt l i = binB (strt l i / pw l i) (bitsN l i) := rfl
  have e2 : codeAt l j = binB (strt l j / pw l j) (bitsN l j) := rfl
  rw [e1, e2, binB_take _ _ _ hle, Nat.div_div_eq_div_mul] at he
  have ep : pw l j * 2 ^ (bitsN l j - bitsN l i) = pw l i := by
    unfold pw
    rw [← Nat.pow_add]; congr 1; omega
  rw [ep] at he
  have hs := strt_le hj
  have hpj := pw_pos l j
  have hpi := pw_pos l i
  have hlt : strt l j / pw l i < 2 ^ bitsN l i := by
    rw [Nat.div_lt_iff_lt_mul hpi]
    have : 2 ^ bitsN l i * pw l i = 32768 := by
      unfold pw
      rw [← Nat.pow_add, show bitsN l i + (15 - bitsN l i) = 15 by omega]
    omega
  have heq := binB_inj _ _ _ (codeAt_lt h hk hi) hlt he
  obtain ⟨c, hc⟩ := strt_dvd h i
  rw [hc, Nat.mul_div_cancel _ hpi] at heq
  have hm := Nat.div_add_mod (strt l j) (pw l i)
  have hml := Nat.mod_lt (strt l j) hpi
  rw [← heq, Nat.mul_comm] at hm
  rcases bef_total l hne with hb | hb
  · have := strt_lt hi hb; omega
  · have := strt_lt hj hb; omega
theorem code_inj {l : List Pr} (h : Bits15 l) (hk : kraftN l ≤ 32768) {i j : Nat} (hi : i < l.length) (hj : j < l.length) (hp : codeAt l i = codeAt l j) : i = j :=
  code_prefix h hk hi hj (hp ▸ List.prefix_rfl)
/-- Two codes with which the same bits begin are one. -/
theorem code_both {l : List Pr} (h : Bits15 l) (hk : kraftN l ≤ 32768) {i j : Nat} (hi : i < l.length) (hj : j < l.length) {bits : List UInt8} (h1 : codeAt l i <+: bits) (h2 : codeAt l j <+: bits) : i = j := by
  rcases Nat.le_total (codeAt l i).length (codeAt l j).length with g | g
  · exact code_prefix h hk hi hj (List.prefix_of_prefix_length_le h1 h2 g)
  · exact (code_prefix h hk hj hi (List.prefix_of_prefix_length_le h2 h1 g)).symm

end Go.Proofs.YthcfhmebikcfpaaGreatDoor

namespace Go.Proofs.YthcfhmebikcfpaaGreatDoor

theorem wts_mem {m : List UInt8} {p : Pr} (h : p ∈ wtsA m) : ∃ c, c < 256 ∧ 0 < cnt m c ∧ p = (⟨(c : Int), (cnt m c : Int)⟩ : Pr) := by
  unfold wtsA wtsTo at h
  obtain ⟨c, hc, rfl⟩ := List.mem_map.1 h
  obtain ⟨h1, h2⟩ := List.mem_filter.1 hc
  exact ⟨c, List.mem_range.1 h1, of_decide_eq_true h2, rfl⟩
theorem mem_wts {m : List UInt8} {b : UInt8} (h : b ∈ m) : (⟨(b.toNat : Int), (cnt m b.toNat : Int)⟩ : Pr) ∈ wtsA m := by
  unfold wtsA wtsTo
  refine List.mem_map.2 ⟨b.toNat, List.mem_filter.2 ⟨List.mem_range.2 b.toNat_lt, ?_⟩, rfl⟩
  rw [decide_eq_true_eq]
  unfold cnt
  rw [List.countP_pos_iff]
  exact ⟨b, h, by simp⟩
theorem cnt_mem {m : List UInt8} {c : Nat} (h : 0 < cnt m c) : ∃ b ∈ m, b.toNat = c := by
  unfold cnt at h
  rw [List.countP_pos_iff] at h
  obtain ⟨b, hb, he⟩ := h
  exact ⟨b, hb, by simpa using he⟩
theorem wts_rise (m : List UInt8) : ((wtsA m).map Pr.s).Pairwise (· < ·) := by
  unfold wtsA wtsTo
  rw [List.map_map]
  have h : ((List.range 256).filter fun c => decide (0 < cnt m c)).Pairwise (· < ·) := List.Pairwise.filter _ List.pairwise_lt_range
  refine List.Pairwise.map _ (fun a b hab => ?_) h
  show ((a : Nat) : Int) < (b : Int)
  omega
def wsA (m : List UInt8) : List Nat := (wtsA m).map fun p => p.n.toNat
theorem wsA_len (m : List UInt8) : (wsA m).length = (wtsA m).length := by unfold wsA; simp
theorem wsA_pos {m : List UInt8} : ∀ w ∈ wsA m, 1 ≤ w := fun w hw => by
  obtain ⟨p, hp, rfl⟩ := List.mem_map.1 hw
  obtain ⟨c, _, h, rfl⟩ := wts_mem hp
  show 1 ≤ ((cnt m c : Nat) : Int).toNat
  omega
theorem cnt_sum (m : List UInt8) : sumOn (cnt m) (List.range 256) = m.length := by
  have key : ∀ r : List UInt8, sumOn (cnt r.reverse) (List.range 256) = r.length := by
    intro r
    induction r with
    | nil => exact sumOn_zero _
    | cons x r ih =>
      rw [List.reverse_cons, sumOn_congr (g := fun c => cnt r.reverse c + if c = x.toNat then 1 else 0) fun c _ => cnt_snoc _ x c, sumOn_add, ih]
      have := sum_at (f := fun _ => 1) x.toNat_lt
      rw [show (sumOn (fun j => if j = x.toNat then 1 else 0) (List.range 256)) = 1 from this]
      rfl
  have := key m.reverse
  rwa [List.reverse_reverse, List.length_reverse] at this
theorem sum_sumOn (s : List Nat) : s.sum = sumOn (fun x => x) s := by unfold sumOn; simp
theorem sumOn_filter {α : Type} (f : α → Nat) (p : α → Bool) (s : List α) (h : ∀ x ∈ s, p x = false → f x = 0) : sumOn f (s.filter p) = sumOn f s := by
  induction s with
  | nil => rfl
  | cons x s ih =>
    have ih := ih fun y hy => h y (by simp [hy])
    rw [List.filter_cons, sumOn_cons]
    split
    · rw [sumOn_cons, ih]
    · rename_i g
      rw [ih, h x (by simp) (by simpa using g)]; omega
theorem wsA_sum (m : List UInt8) : (wsA m).sum = m.length := by
  rw [← cnt_sum m, sum_sumOn]
  unfold wsA wtsA wtsTo
  rw [sumOn_map, sumOn_map]
  simp only [Int.toNat_natCast]
  refine sumOn_filter _ _ _ fun c _ h => ?_
  have : ¬ 0 < cnt m c := by simpa using h
  omega
/-- The lengths of a message. -/
def lensA (m : List UInt8) : List Pr := List.zipWith (fun p b => (⟨p.s, ((b : Nat) : Int)⟩ : Pr)) (wtsA m) (huff (wsA m))
theorem lensA_len (m : List UInt8) : (lensA m).length = (wtsA m).length := by
  unfold lensA
  rw [List.length_zipWith, huff_len, wsA_len, Nat.min_self]
theorem lensA_at {m : List UInt8} {k : Nat} {p : Pr} (hp : At (wtsA m) k p) : At (lensA m) k ⟨p.s, (bitAt (huff (wsA m)) k : Int)⟩ := by
  have hk := hp.lt
  have hk2 : k < (huff (wsA m)).length := by rw [huff_len, wsA_len]; exact hk
  show (lensA m)[k]? = _
  unfold lensA bitAt
  rw [List.getElem?_zipWith, show (wtsA m)[k]? = some p from hp, List.getElem?_eq_getElem hk2, List.getD_eq_getElem?_getD, List.getElem?_eq_getElem hk2]
  rfl
theorem lensA_s (m : List UInt8) : (lensA m).map Pr.s = (wtsA m).map Pr.s := by
  apply List.ext_getElem (by rw [List.length_map, List.length_map, lensA_len])
  intro k h1 h2
  rw [List.length_map] at h2
  obtain ⟨p, hp⟩ := At.mk h2
  have h3 := lensA_at hp
  have e1 : (wtsA m)[k] = p := by have := hp; unfold At at this; rw [List.getElem?_eq_getElem h2] at this; exact Option.some.inj this
  have h4 : k < (lensA m).length := by rw [lensA_len]; exact h2
  have e2 : (lensA m)[k] = ⟨p.s, (bitAt (huff (wsA m)) k : Int)⟩ := by unfold At at h3; rw [List.getElem?_eq_getElem h4] at h3; exact Option.some.inj h3
  rw [List.getElem_map, List.getElem_map, e1, e2]
theorem bitsN_lens {m : List UInt8} {k : Nat} (hk : k < (wtsA m).length) : bitsN (lensA m) k = bitAt (huff (wsA m)) k := by
  obtain ⟨p, hp⟩ := At.mk hk
  rw [bitsN_at (lensA_at hp)]
  rfl
theorem huff_one {ws : List Nat} (h : ws.length = 1) : huff ws = [1] := by
  unfold huff
  rw [if_pos h, huffGo_one _ (by rw [startN_len]; omega)]
theorem huff_range {ws : List Nat} (hp : ∀ w ∈ ws, 1 ≤ w) (hs : ws.sum ≤ 986) {k : Nat} (hk : k < ws.length) : 1 ≤ bitAt (huff ws) k ∧ bitAt (huff ws) k ≤ 13 := by
  by_cases h : 2 ≤ ws.length
  · exact ⟨huff_pos h hp hk, huff_low h hp hs hk⟩
  · have h1 : ws.length = 1 := by omega
    obtain rfl : k = 0 := by omega
    rw [huff_one h1]
    decide
/-- The symbols of a message that texts have. -/
def Fair (m : List UInt8) : Prop := (∀ b ∈ m, okSym (b.toNat : Int) = true) ∧ m.length ≤ 986
theorem Fair.b15 {m : List UInt8} (h : Fair m) : Bits15 (lensA m) := fun p hp => by
  obtain ⟨k, hk, rfl⟩ := List.getElem_of_mem hp
  rw [lensA_len] at hk
  obtain ⟨q, hq⟩ := At.mk hk
  have h3 := lensA_at hq
  have h4 : k < (lensA m).length := by rw [lensA_len]; exact hk
  have e2 : (lensA m)[k] = ⟨q.s, (bitAt (huff (wsA m)) k : Int)⟩ := by unfold At at h3; rw [List.getElem?_eq_getElem h4] at h3; exact Option.some.inj h3
  rw [e2]
  have := huff_range wsA_pos (by rw [wsA_sum]; exact h.2) (k := k) (by rw [wsA_len]; exact hk)
  constructor
  · show (1 : Int) ≤ ((bitAt (huff (wsA m)) k : Nat) : Int); omega
  · show ((bitAt (huff (wsA m)) k : Nat) : Int) ≤ 15; omega
theorem kraft_lens {m : List UInt8} (h : Fair m) (h2 : 2 ≤ (wtsA m).length) : kraftN (lensA m) = 32768 := by
  have hk := huff_kraft (ws := wsA m) (by rw [wsA_len]; exact h2) (D := (wsA m).length + 15) (by omega) wsA_pos
  have e : sumOn (fun i => kr ((wsA m).length + 15) (bitAt (huff (wsA m)) i)) (List.range (wsA m).length) = 2 ^ (wsA m).length * kraftN (lensA m) := by
    unfold kraftN
    rw [← sumOn_mul, lensA_len, ← wsA_len]
    refine sumOn_congr fun i hi => ?_
    have hi := List.mem_range.1 hi
    have hr := huff_range wsA_pos (by rw [wsA_sum]; exact h.2) hi
    unfold kr pw
    rw [bitsN_lens (by rw [← wsA_len]; exact hi), ← Nat.pow_add]
    congr 1
    omega
  rw [e, Nat.pow_add] at hk
  have := Nat.eq_of_mul_eq_mul_left (Nat.two_pow_pos _) hk
  rw [this]
theorem kraft_one {m : List UInt8} (h1 : (wtsA m).length = 1) : kraftN (lensA m) = 16384 := by
  unfold kraftN
  rw [lensA_len, h1]
  show sumOn _ [0] = _
  rw [sumOn_cons, sumOn_nil]
  unfold pw
  rw [bitsN_lens (by omega), huff_one (by rw [wsA_len, h1])]
  decide
theorem kraft_le {m : List UInt8} (h : Fair m) : kraftN (lensA m) ≤ 32768 := by
  by_cases h2 : 2 ≤ (wtsA m).length
  · rw [kraft_lens h h2]; exact Nat.le_refl _
  · by_cases h1 : (wtsA m).length = 1
    · rw [kraft_one h1]; decide
    · have : (lensA m).length = 0 := by rw [lensA_len]; omega
      unfold kraftN
      rw [this]
      exact Nat.zero_le _
theorem codeGo_some : ∀ {l : List Pr} {last sum : Int}, (∀ p ∈ l, last < p.s ∧ okSym p.s = true ∧ within p.n 1 15 = true) → (l.map Pr.s).Pairwise (· < ·) → codeGo l last sum = some (sum + ((l.map fun p => pow15 p.n).foldr (· + ·) 0))
  | [], last, sum, _, _ => by simp [codeGo]
  | p :: l, last, sum, h, hr => by
    unfold codeGo
    have hp := h p (by simp)
    have g : okPr last p = true := by
      unfold okPr
      simp only [Bool.and_eq_true, decide_eq_true_eq]
      exact hp
    rw [if_pos g]
    rw [List.map_cons, List.pairwise_cons] at hr
    rw [codeGo_some (l := l) (fun q hq => ⟨hr.1 _ (List.mem_map.2 ⟨q, hq, rfl⟩), (h q (by simp [hq])).2⟩) hr.2]
    rw [List.map_cons, List.foldr_cons]
    congr 1
    omega
theorem isCode_of {l : List Pr} (h : IsCode l) : isCodeA l = true := by
  unfold isCodeA
  rw [codeGo_some (l := l) (fun p hp => by
    have h1 := h.ok p hp
    refine ⟨?_, h1.1, within_iff.2 h1.2⟩
    have h2 := h1.1
    unfold okSym at h2
    rw [Bool.or_eq_true, beq_iff_eq, within_iff] at h2
    omega) h.rise]
  have := h.kraft
  simp only [decide_eq_true_eq]
  omega
theorem Fair.sym {m : List UInt8} (h : Fair m) {p : Pr} (hp : p ∈ wtsA m) : okSym p.s = true := by
  obtain ⟨c, _, hc, rfl⟩ := wts_mem hp
  obtain ⟨b, hb, rfl⟩ := cnt_mem hc
  exact h.1 b hb
theorem lens_code {m : List UInt8} (h : Fair m) : IsCode (lensA m) := by
  refine ⟨fun p hp => ⟨?_, h.b15 p hp⟩, by rw [lensA_s]; exact wts_rise m, ?_⟩
  · have : p.s ∈ (wtsA m).map Pr.s := by rw [← lensA_s]; exact List.mem_map.2 ⟨p, hp, rfl⟩
    obtain ⟨q, hq, e⟩ := List.mem_map.1 this
    rw [← e]; exact h.sym hq
  · rw [kraft_eq h.b15]
    have := kraft_le h
    omega
/-- At most 96 symbols. -/
theorem wts_few {m : List UInt8} (h : ∀ b ∈ m, okSym (b.toNat : Int) = true) : (wtsA m).length ≤ 96 := by
  unfold wtsA wtsTo
  rw [List.length_map]
  have h1 : ((List.range 256).filter fun c => decide (0 < cnt m c)).length ≤ ((List.range 256).filter fun c : Nat => okSym (c : Int)).length := by
    rw [← List.countP_eq_length_filter, ← List.countP_eq_length_filter]
    refine List.countP_mono_left fun c _ hc => ?_
    obtain ⟨b, hb, rfl⟩ := cnt_mem (of_decide_eq_true hc)
    exact h b hb
  have h2 : ((List.range 256).filter fun c : Nat => okSym (c : Int)).length = 96 := by decide +kernel
  omega
theorem msg_ok {l : List ByteArray} (h : areE l = 0) : Fair (msgOf l) := by
  refine ⟨fun b hb => ?_, Nat.le_trans (msgOf_len h) (by decide)⟩
  unfold msgOf at hb
  obtain ⟨s, hs, hb⟩ := List.mem_flatMap.1 hb
  have ht := (areE_zero h).2 s hs
  unfold isTextA at ht
  rw [Bool.and_eq_true] at ht
  unfold okSym
  rcases List.mem_append.1 hb with hb | hb
  · have := List.all_eq_true.1 ht.2 b hb
    rw [Bool.or_eq_true]
    exact .inr this
  · rw [List.mem_singleton.1 hb]; rfl
/-- A symbol's bits. -/
def codeOf (l : List Pr) (s : Int) : List UInt8 := match findS l s with | none => [] | some i => codeAt l i
/-- All bits of a message. -/
def bitsA (l : List Pr) (m : List UInt8) : List UInt8 := m.flatMap fun b => codeOf l (b.toNat : Int)
theorem bitsA_snoc (l : List Pr) (m : List UInt8) (b : UInt8) : bitsA l (m ++ [b]) = bitsA l m ++ codeOf l (b.toNat : Int) := by
  unfold bitsA; rw [List.flatMap_append]; simp
theorem find_at {l : List Pr} (h : (l.map Pr.s).Pairwise (· < ·)) {k : Nat} {p : Pr} (hp : At l k p) : findS l p.s = some k := by
  refine findS_some hp rfl fun q hq => ?_
  obtain ⟨j, hj, rfl⟩ := List.mem_take_iff_getElem.1 hq
  have hk := hp.lt
  have h1 := List.pairwise_iff_getElem.1 h j k (by rw [List.length_map]; omega) (by rw [List.length_map]; exact hk) (by omega)
  rw [List.getElem_map, List.getElem_map] at h1
  have e : l[k] = p := by have := hp; unfold At at this; rw [List.getElem?_eq_getElem hk] at this; exact Option.some.inj this
  rw [e] at h1
  omega
theorem codeOf_at {l : List Pr} (h : (l.map Pr.s).Pairwise (· < ·)) {k : Nat} {p : Pr} (hp : At l k p) : codeOf l p.s = codeAt l k := by
  unfold codeOf; rw [find_at h hp]
theorem find_lens {m : List UInt8} {b : UInt8} (h : b ∈ m) : ∃ k, k < (lensA m).length ∧ findS (lensA m) (b.toNat : Int) = some k ∧ ∃ n, At (lensA m) k ⟨(b.toNat : Int), n⟩ := by
  obtain ⟨k, hk, e⟩ := List.getElem_of_mem (mem_wts h)
  have hp : At (wtsA m) k ⟨(b.toNat : Int), (cnt m b.toNat : Int)⟩ := by show (wtsA m)[k]? = _; rw [List.getElem?_eq_getElem hk, e]
  have h2 := lensA_at hp
  refine ⟨k, h2.lt, ?_, _, h2⟩
  exact find_at (by rw [lensA_s]; exact wts_rise m) h2

end Go.Proofs.YthcfhmebikcfpaaGreatDoor

namespace Go.Proofs.YthcfhmebikcfpaaGreatDoor

def ltP (x y : Pr) : Bool := decide (codeCmp x y < 0)
theorem ltP_iff {x y : Pr} : ltP x y = true ↔ (x.n < y.n ∨ (x.n = y.n ∧ x.s < y.s)) := by
  unfold ltP codeCmp
  rw [decide_eq_true_eq]
  show (if x.n - y.n = 0 then (if x.s - y.s = 0 then 0 else x.s - y.s) else x.n - y.n) < 0 ↔ _
  split
  · split <;> omega
  · omega
def leP (x y : Pr) : Bool := !(ltP y x)
theorem leP_iff {x y : Pr} : leP x y = true ↔ (x.n < y.n ∨ (x.n = y.n ∧ x.s ≤ y.s)) := by
  unfold leP
  rw [Bool.not_eq_true', ← Bool.not_eq_true, ltP_iff]
  omega
def sortA (l : List Pr) : List Pr := l.mergeSort leP
theorem sortA_perm (l : List Pr) : (sortA l).Perm l := List.mergeSort_perm l leP
theorem sortA_sorted (l : List Pr) : (sortA l).Pairwise (fun x y => leP x y = true) :=
  List.pairwise_mergeSort (fun a b c h1 h2 => by rw [leP_iff] at *; omega) (fun a b => by
    rw [Bool.or_eq_true, leP_iff, leP_iff]; omega) l
theorem nodup_of_rise {l : List Pr} (h : (l.map Pr.s).Pairwise (· < ·)) : l.Pairwise (fun x y => x.s ≠ y.s) := by
  rw [List.pairwise_map] at h
  exact h.imp fun h => by omega
theorem at_getD {l : List Pr} {j : Nat} (hj : j < l.length) : At l j (l.getD j default) := by
  show l[j]? = _
  rw [List.getD_eq_getElem?_getD, List.getElem?_eq_getElem hj]; rfl
theorem rise_lt {l : List Pr} (h : (l.map Pr.s).Pairwise (· < ·)) {i j : Nat} (hj : j < l.length) (hij : i < j) : (l.getD i default).s < (l.getD j default).s := by
  have h1 := List.pairwise_iff_getElem.1 h i j (by rw [List.length_map]; omega) (by rw [List.length_map]; exact hj) hij
  rw [List.getElem_map, List.getElem_map] at h1
  rw [List.getD_eq_getElem?_getD, List.getElem?_eq_getElem (by omega : i < l.length), List.getD_eq_getElem?_getD, List.getElem?_eq_getElem hj]
  exact h1
/-- The weight of those that come first. -/
def preS (m : List Pr) (k : Nat) : Nat := sumOn (fun q : Pr => 2 ^ (15 - q.n.toNat)) (m.take k)
theorem preS_succ {m : List Pr} {k : Nat} {p : Pr} (h : At m k p) : preS m (k + 1) = preS m k + 2 ^ (15 - p.n.toNat) := by
  unfold preS
  rw [h.take, sumOn_append, sumOn_cons, sumOn_nil]; rfl
theorem preS_strt {l m : List Pr} (hb : Bits15 l) (hr : (l.map Pr.s).Pairwise (· < ·)) (hp : m.Perm l) (hs : m.Pairwise (fun x y => leP x y = true)) {k i : Nat} {p : Pr} (hm : At m k p) (hi : At l i p) : preS m k = strt l i := by
  have hil := hi.lt
  have h1 : strt l i = sumOn (fun q => if ltP q p then 2 ^ (15 - q.n.toNat) else 0) l := by
    have hl : l = (List.range l.length).map fun j => l.getD j default := by
      apply List.ext_getElem (by simp)
      intro j a b
      rw [List.getElem_map, List.getElem_range, List.getD_eq_getElem?_getD, List.getElem?_eq_getElem a]; rfl
    rw [show sumOn (fun q => if ltP q p then 2 ^ (15 - q.n.toNat) else 0) l = sumOn (fun q => if ltP q p then 2 ^ (15 - q.n.toNat) else 0) ((List.range l.length).map fun j => l.getD j default) from by rw [← hl], sumOn_map]
    unfold strt befS
    refine sumOn_congr fun j hj => ?_
    have hj := List.mem_range.1 hj
    have hbj := hb _ (at_getD hj).mem
    have hbi := hb _ hi.mem
    have e1 : bitsN l j = (l.getD j default).n.toNat := rfl
    have e2 : bitsN l i = p.n.toNat := bitsN_at hi
    have hpi : l.getD i default = p := hi.getD _
    have e : isBef l (bitsN l i) i j = ltP (l.getD j default) p := by
      rw [Bool.eq_iff_iff, ltP_iff]
      unfold isBef
      simp only [Bool.or_eq_true, Bool.and_eq_true, decide_eq_true_eq]
      rw [e1, e2]
      constructor
      · rintro (h | ⟨h, h2⟩)
        · omega
        · have := rise_lt hr hil h2
          rw [hpi] at this
          omega
      · rintro (h | ⟨h, h2⟩)
        · omega
        · refine .inr ⟨by omega, ?_⟩
          rcases Nat.lt_trichotomy j i with g | g | g
          · exact g
          · subst g; rw [hpi] at h2; omega
          · have := rise_lt hr hj g
            rw [hpi] at this
            omega
    rw [e, e1]
  rw [h1, ← sumOn_perm hp]
  have hkl := hm.lt
  have hsplit : m = m.take k ++ p :: m.drop (k + 1) := by
    have e1 : m = m.take k ++ m.drop k := (List.take_append_drop k m).symm
    rw [List.drop_eq_getElem_cons hkl] at e1
    have e2 : m[k] = p := by have := hm; unfold At at this; rw [List.getElem?_eq_getElem hkl] at this; exact Option.some.inj this
    rw [e2] at e1
    exact e1
  have hd : m.Pairwise (fun x y => x.s ≠ y.s) := ((nodup_of_rise hr).perm hp.symm (fun h => Ne.symm h))
  rw [hsplit, List.pairwise_append] at hs hd
  obtain ⟨_, hs2, hs3⟩ := hs
  obtain ⟨_, hd2, hd3⟩ := hd
  rw [List.pairwise_cons] at hs2 hd2
  have e3 : sumOn (fun q => if ltP q p then 2 ^ (15 - q.n.toNat) else 0) m = sumOn (fun q => if ltP q p then 2 ^ (15 - q.n.toNat) else 0) (m.take k ++ p :: m.drop (k + 1)) := by rw [← hsplit]
  rw [e3, sumOn_append, sumOn_cons]
  have f1 : sumOn (fun q => if ltP q p then 2 ^ (15 - q.n.toNat) else 0) (m.take k) = preS m k := by
    unfold preS
    refine sumOn_congr fun q hq => ?_
    have h4 := hs3 q hq p (by simp)
    have h5 := hd3 q hq p (by simp)
    rw [leP_iff] at h4
    have : ltP q p = true := by rw [ltP_iff]; omega
    rw [this]; rfl
  have f2 : ltP p p = false := by
    rw [← Bool.not_eq_true, ltP_iff]; omega
  have f3 : sumOn (fun q => if ltP q p then 2 ^ (15 - q.n.toNat) else 0) (m.drop (k + 1)) = 0 := by
    rw [sumOn_congr (g := fun _ => 0) fun q hq => ?_, sumOn_zero]
    have h4 := hs2.1 q hq
    have h5 := hd2.1 q hq
    rw [leP_iff] at h4
    have : ltP q p = false := by rw [← Bool.not_eq_true, ltP_iff]; omega
    rw [this]; rfl
  rw [f1, f2, f3]
  simp
/-- What 'next' is at a place of the sorted lengths. -/
structure NextB (m : List Pr) (k n q : Nat) : Prop where
  eq : n * 2 ^ (15 - q) = preS m k
  q15 : q ≤ 15
  low : ∀ p, At m k p → q ≤ p.n.toNat
theorem NextB.start (m : List Pr) : NextB m 0 0 0 := ⟨by unfold preS; simp, by omega, fun _ _ => Nat.zero_le _⟩
theorem NextB.shift {m : List Pr} {k n q : Nat} (h : NextB m k n q) {p : Pr} (hp : At m k p) (h15 : 1 ≤ p.n ∧ p.n ≤ 15) : n * 2 ^ (p.n.toNat - q) = preS m k / 2 ^ (15 - p.n.toNat) ∧ n * 2 ^ (p.n.toNat - q) * 2 ^ (15 - p.n.toNat) = preS m k := by
  have hl := h.low p hp
  have h2 : n * 2 ^ (p.n.toNat - q) * 2 ^ (15 - p.n.toNat) = preS m k := by
    rw [← h.eq, Nat.mul_assoc, ← Nat.pow_add]
    congr 2
    omega
  exact ⟨by rw [← h2, Nat.mul_div_cancel _ (Nat.two_pow_pos _)], h2⟩
theorem NextB.next {m : List Pr} (hs : m.Pairwise (fun x y => leP x y = true)) {k n q : Nat} (h : NextB m k n q) {p : Pr} (hp : At m k p) (h15 : 1 ≤ p.n ∧ p.n ≤ 15) : NextB m (k + 1) (n * 2 ^ (p.n.toNat - q) + 1) p.n.toNat := by
  refine ⟨?_, by omega, fun r hr => ?_⟩
  · rw [preS_succ hp, Nat.add_mul, (h.shift hp h15).2, Nat.one_mul]
  · have h1 := List.pairwise_iff_getElem.1 hs k (k + 1) hp.lt hr.lt (by omega)
    have e1 : m[k]'hp.lt = p := by have := hp; unfold At at this; rw [List.getElem?_eq_getElem hp.lt] at this; exact Option.some.inj this
    have e2 : m[k + 1]'hr.lt = r := by have := hr; unfold At at this; rw [List.getElem?_eq_getElem hr.lt] at this; exact Option.some.inj this
    rw [e1, e2, leP_iff] at h1
    omega
/-- The digits from the greatest on. -/
theorem binB_at : ∀ (d n i : Nat), i < d → (binB n d)[d - 1 - i]? = some (if n / 2 ^ i % 2 = 0 then 48 else 49)
  | 0, _, _, h => by omega
  | d + 1, n, i, h => by
    rw [binB_succ]
    by_cases e : i = 0
    · subst e
      rw [List.getElem?_append_right (by rw [binB_len]; omega), binB_len, Nat.pow_zero, Nat.div_one]
      rw [show d + 1 - 1 - 0 - d = 0 by omega]
      rfl
    · have ih := binB_at d (n / 2) (i - 1) (by omega)
      rw [List.getElem?_append_left (by rw [binB_len]; omega)]
      rw [show d + 1 - 1 - i = d - 1 - (i - 1) by omega, ih, Nat.div_div_eq_div_mul]
      congr 3
      rw [← Nat.pow_succ', show (i - 1).succ = i by omega]
theorem preS_le {l m : List Pr} (hp : m.Perm l) (k : Nat) : preS m k ≤ kraftN l := by
  have h1 : kraftN l = sumOn (fun q : Pr => 2 ^ (15 - q.n.toNat)) l := by
    clear hp
    induction l with
    | nil => rfl
    | cons p l ih => rw [kraftN_cons, ih, sumOn_cons]
  rw [h1, ← sumOn_perm hp]
  unfold preS
  have e : sumOn (fun q : Pr => 2 ^ (15 - q.n.toNat)) m = sumOn (fun q : Pr => 2 ^ (15 - q.n.toNat)) (m.take k ++ m.drop k) := by rw [List.take_append_drop]
  rw [e, sumOn_append]
  omega

end Go.Proofs.YthcfhmebikcfpaaGreatDoor

namespace Go.Proofs.YthcfhmebikcfpaaGreatDoor
open Go.RowKit

attribute [local go_sem] Holds.drew Holds.alloc Holds.drewN WB.holds Oper.semAt_some

def twoB (n : Nat) : List UInt8 := [(48 + n / 10).toUInt8, (48 + n % 10).toUInt8]
set_option maxRecDepth 100000 in
theorem nTwo_any (n : Nat) (hn : n ≤ 99) (w : World) : Calls Tryz.prog 31 #[.int .i64 (n : Int)] w (PostV w (.string (strB (twoB n)))) := by
  have hq : Int.tdiv (n : Int) 10 = ((n / 10 : Nat) : Int) := rfl
  have hr : Int.tmod (n : Int) 10 = ((n % 10 : Nat) : Int) := rfl
  have hq9 : n / 10 ≤ 9 := by omega
  have hr9 : n % 10 ≤ 9 := by omega
  unfold twoB
  generalize n / 10 = q at *
  generalize n % 10 = r at *
  have hx : 48 + (q : Int) = (((48 + q).toUInt8).toNat : Int) := by
    rw [show ((48 + q).toUInt8).toNat = 48 + q by rw [UInt8.toNat_ofNat']; omega]; omega
  have hy : 48 + (r : Int) = (((48 + r).toUInt8).toNat : Int) := by
    rw [show ((48 + r).toUInt8).toNat = 48 + r by rw [UInt8.toNat_ofNat']; omega]; omega
  generalize (48 + q).toUInt8 = x at *
  generalize (48 + r).toUInt8 = y at *
  go_enter Tryz.func31, Tryz.ntmps31
  go_wp2
  rw [show (Value.slice (some ⟨w.heap.size, 0, none⟩) 2 2) = .slice (some ⟨w.heap.size, 0, none⟩) [x, y].length 2 from rfl, run_convert_bytes_back (w.alloc _) _ _ _ _ _ [x, y] Tryz.underlying49 Tryz.underlying5 Tryz.underlying9 (fun j hj => by
    have hnew := heap_alloc_new w (.cells #[.int .u8 (x.toNat : Int), .int .u8 (y.toNat : Int)] 5)
    match j, hj with
    | 0, _ => show World.cell? _ ⟨w.heap.size, 0, none⟩ = _; rw [Lib.cell_of_heap hnew]; rfl
    | 1, _ => show World.cell? _ ⟨w.heap.size, 1, none⟩ = _; rw [Lib.cell_of_heap hnew]; rfl)]
  simp only [Result.andThen]
  rw [Oper.upon_value]
  go_wp2
  go_ret
  exact ⟨rfl, (Below.refl _ _).alloc (Nat.le_refl _) _⟩
end Go.Proofs.YthcfhmebikcfpaaGreatDoor

namespace Go.Proofs.YthcfhmebikcfpaaGreatDoor

/-! ### Six bits a letter -/

def lets : List UInt8 := [65, 66, 67, 68, 69, 70, 71, 72, 73, 74, 75, 76, 77, 78, 79, 80, 81, 82, 83, 84, 85, 86, 87, 88, 89, 90, 97, 98, 99, 100, 101, 102, 103, 104, 105, 106, 107, 108, 109, 110, 111, 112, 113, 114, 115, 116, 117, 118, 119, 120, 121, 122, 48, 49, 50, 51, 52, 53, 54, 55, 56, 57, 43, 47]
def letN (b : UInt8) : Option Nat := lets.idxOf? b
def letB (n : Nat) : UInt8 := lets.getD n 0
theorem letN_letB {n : Nat} (h : n < 64) : letN (letB n) = some n := by
  have : ∀ n : Fin 64, letN (letB n.val) = some n.val := by decide
  exact this ⟨n, h⟩
/-- Whether the digit at a place is one. -/
def oneAt (l : List UInt8) (i : Nat) : Nat := if l[i]? = some 49 then 1 else 0
def valK (l : List UInt8) : Nat → Nat
  | 0 => 0
  | k + 1 => 2 * valK l k + oneAt l k
def digB (l : List UInt8) (i : Nat) : UInt8 := if l[i]? = some 49 then 49 else 48
theorem valK_lt (l : List UInt8) : ∀ k, valK l k < 2 ^ k
  | 0 => Nat.one_pos
  | k + 1 => by
    have := valK_lt l k
    unfold valK oneAt
    rw [Nat.pow_succ]
    split <;> omega
theorem binB_val (l : List UInt8) : ∀ k, binB (valK l k) k = (List.range k).map (digB l)
  | 0 => rfl
  | k + 1 => by
    rw [List.range_succ, List.map_append, ← binB_val l k, binB_succ, show valK l (k + 1) = 2 * valK l k + oneAt l k from rfl]
    unfold oneAt
    have e1 : (2 * valK l k + if l[k]? = some 49 then 1 else 0) / 2 = valK l k := by split <;> omega
    rw [e1]
    congr 1
    show [_] = [digB l k]
    unfold digB
    by_cases h : l[k]? = some 49
    · rw [if_pos h, if_pos h, if_neg (by omega)]
    · rw [if_neg h, if_neg h, if_pos (by omega)]
/-- How many letters some bits take. -/
def six (n : Nat) : Nat := (n + 5) / 6
def chunk (bits : List UInt8) (k : Nat) : List UInt8 := (bits.drop (6 * k)).take 6
def letAt (bits : List UInt8) (k : Nat) : UInt8 := letB (valK (chunk bits k) 6)
def sixesTo (bits : List UInt8) (n : Nat) : List UInt8 := (List.range n).map (letAt bits)
def sixesA (bits : List UInt8) : List UInt8 := sixesTo bits (six bits.length)
theorem sixesTo_succ (bits : List UInt8) (n : Nat) : sixesTo bits (n + 1) = sixesTo bits n ++ [letAt bits n] := by unfold sixesTo; rw [List.range_succ, List.map_append]; rfl
/-- The bits of some letters. -/
def unsix (r : List UInt8) : List UInt8 := r.flatMap fun b => binB ((letN b).getD 0) 6
theorem chunk_dig (bits : List UInt8) (k i : Nat) (hi : i < 6) : digB (chunk bits k) i = digB bits (6 * k + i) := by
  unfold digB chunk
  rw [List.getElem?_take, if_pos hi, List.getElem?_drop]
theorem unsix_to (bits : List UInt8) : ∀ n, unsix (sixesTo bits n) = (List.range (6 * n)).map (digB bits)
  | 0 => rfl
  | n + 1 => by
    have h := unsix_to bits n
    unfold unsix at *
    rw [sixesTo_succ, List.flatMap_append, h]
    have e : List.range (6 * (n + 1)) = List.range (6 * n) ++ (List.range 6).map (6 * n + ·) := by
      rw [show 6 * (n + 1) = 6 * n + 6 by omega, List.range_add]
    rw [e, List.map_append]
    congr 1
    simp only [List.flatMap_cons, List.flatMap_nil, List.append_nil]
    unfold letAt
    rw [letN_letB (by have := valK_lt (chunk bits n) 6; simpa using this), Option.getD_some, binB_val, List.map_map]
    refine List.map_congr_left fun i hi => ?_
    exact chunk_dig bits n i (List.mem_range.1 hi)
def Digs (bits : List UInt8) : Prop := ∀ b ∈ bits, b = 48 ∨ b = 49
theorem digs_map {bits : List UInt8} (h : Digs bits) : (List.range bits.length).map (digB bits) = bits := by
  apply List.ext_getElem (by simp)
  intro i h1 h2
  rw [List.getElem_map, List.getElem_range]
  unfold digB
  rw [List.getElem?_eq_getElem h2]
  rcases h _ (List.getElem_mem h2) with e | e
  · rw [e]; decide
  · rw [e]; decide
theorem six_le (n : Nat) : n ≤ 6 * six n ∧ 6 * six n ≤ n + 5 := by unfold six; omega
/-- What comes back: the bits, and no more zeros behind them than fill a letter. -/
theorem unsix_sixes {bits : List UInt8} (h : Digs bits) : unsix (sixesA bits) = bits ++ List.replicate (6 * six bits.length - bits.length) 48 := by
  unfold sixesA
  rw [unsix_to]
  have hs := six_le bits.length
  generalize six bits.length = n at *
  obtain ⟨k, hk⟩ : ∃ k, 6 * n = bits.length + k := ⟨6 * n - bits.length, by omega⟩
  rw [hk, List.range_add, List.map_append, digs_map h, Nat.add_sub_cancel_left]
  congr 1
  apply List.ext_getElem (by simp)
  intro i h1 h2
  simp only [List.getElem_map, List.getElem_range, List.getElem_replicate]
  unfold digB
  rw [List.getElem?_eq_none (by omega)]
  rfl
theorem isLet_at (bits : List UInt8) (k : Nat) : (letN (letAt bits k)).isSome = true := by
  unfold letAt
  rw [letN_letB (by have := valK_lt (chunk bits k) 6; simpa using this)]
  rfl

/-! ### The file -/

def pairB (p : Pr) : List UInt8 := [p.s.toNat.toUInt8, (64 + p.n.toNat).toUInt8]
def headA (k : Nat) (l : List Pr) : List UInt8 := twoB k ++ twoB l.length
def fileA (l : List ByteArray) : List UInt8 :=
  headA l.length (lensA (msgOf l)) ++ (lensA (msgOf l)).flatMap pairB ++ sixesA (bitsA (lensA (msgOf l)) (msgOf l))

def digN (b : UInt8) : Option Nat := if 48 ≤ b.toNat ∧ b.toNat ≤ 57 then some (b.toNat - 48) else none
def symsA : Nat → Int → List UInt8 → Option (List Pr × List UInt8)
  | 0, _, r => some ([], r)
  | n + 1, last, c :: b :: r =>
    if last < (c.toNat : Int) ∧ okSym (c.toNat : Int) = true ∧ (65 ≤ b.toNat ∧ b.toNat ≤ 79) then
      (symsA n (c.toNat : Int) r).map fun x => (⟨(c.toNat : Int), (b.toNat : Int) - 64⟩ :: x.1, x.2)
    else none
  | _ + 1, _, _ => none
structure Frm where
  many : Nat
  l : List Pr
  rest : List UInt8
def num2 (a b : UInt8) : Option Nat := match digN a, digN b with
  | some x, some y => some (x * 10 + y)
  | _, _ => none
def formA (s : List UInt8) : Option Frm := match s with
  | a :: b :: c :: d :: r =>
    match num2 a b, num2 c d with
    | some many, some n =>
      if r.length ≤ 1496 ∧ many ≤ 20 ∧ n ≤ 96 ∧ 2 * n ≤ r.length then
        match symsA n (-1) r with
        | some (l, rest) => if rest.all (fun b => (letN b).isSome) then some ⟨many, l, rest⟩ else none
        | none => none
      else none
    | _, _ => none
  | _ => none
/-- The place of the symbol with whose bits some bits begin. -/
def firstA (l : List Pr) (bits : List UInt8) : Option Nat := (List.range l.length).find? fun i => (codeAt l i).isPrefixOf bits
def symI (l : List Pr) (i : Nat) : Int := (l.getD i default).s
def decA (many : Nat) (l : List Pr) : Nat → List ByteArray → List UInt8 → List UInt8 → Option (List ByteArray × List UInt8)
  | 0, _, _, _ => none
  | n + 1, out, own, bits =>
    if many ≤ out.length then some (out, bits) else
    match firstA l bits with
    | none => none
    | some i =>
      if symI l i = 10 then decA many l n (out ++ [strB own]) [] (bits.drop (bitsN l i))
      else decA many l n out (own ++ [(symI l i).toNat.toUInt8]) (bits.drop (bitsN l i))
def restOk (r : List UInt8) : Bool := decide (r.length ≤ 5) && r.all (· == 48)
def textsA (many : Nat) (l : List Pr) (bits : List UInt8) : Option (List ByteArray) :=
  if isCodeA l then
    match decA many l (bits.length + 1) [] [] bits with
    | none => none
    | some (out, r) => if restOk r then some out else none
  else none
/-- What is read of a string, and the error. -/
def readA (s : List UInt8) : List ByteArray × Int := match formA s with
  | none => ([], 140)
  | some f => match textsA f.many f.l (unsix f.rest) with
    | none => ([], 141)
    | some out => if areE out = 0 ∧ fileA out = s then (out, 0) else ([], 142)
theorem readA_ok {s : List UInt8} (h : (readA s).2 = 0) : areE (readA s).1 = 0 ∧ fileA (readA s).1 = s := by
  unfold readA at h ⊢
  split at h
  · cases h
  · split at h
    · cases h
    · split at h
      · rename_i g
        rw [if_pos g]
        exact g
      · cases h

/-! ### How long -/

theorem bits_sum {l : List Pr} (hr : (l.map Pr.s).Pairwise (· < ·)) (hz : ∀ p ∈ l, 0 ≤ p.s) : ∀ (m : List UInt8), (∀ b ∈ m, ∃ k p, At l k p ∧ p.s = (b.toNat : Int)) →
    (bitsA l m).length = sumOn (fun k => cnt m (symI l k).toNat * bitsN l k) (List.range l.length) := by
  intro m
  have key : ∀ r : List UInt8, (∀ b ∈ r, ∃ k p, At l k p ∧ p.s = (b.toNat : Int)) → (bitsA l r.reverse).length = sumOn (fun k => cnt r.reverse (symI l k).toNat * bitsN l k) (List.range l.length) := by
    intro r
    induction r with
    | nil => intro _; unfold bitsA cnt; simp [sumOn_zero]
    | cons b r ih =>
      intro h
      have ih := ih fun x hx => h x (by simp [hx])
      obtain ⟨k, p, hp, hb⟩ := h b (by simp)
      have hk := hp.lt
      have hc : codeOf l (b.toNat : Int) = codeAt l k := by rw [← hb]; exact codeOf_at hr hp
      rw [List.reverse_cons, bitsA_snoc, List.length_append, ih, hc, codeAt_len]
      have hs := sum_at (f := bitsN l) hk
      rw [← hs, ← sumOn_add]
      refine sumOn_congr fun j hj => ?_
      have hj := List.mem_range.1 hj
      rw [cnt_snoc, Nat.add_mul]
      congr 1
      have hat : ∀ i (hi : i < l.length), symI l i = l[i].s := fun i hi => by unfold symI; rw [List.getD_eq_getElem?_getD, List.getElem?_eq_getElem hi]; rfl
      have hpk : l[k] = p := by have := hp; unfold At at this; rw [List.getElem?_eq_getElem hk] at this; exact Option.some.inj this
      by_cases e : j = k
      · subst e
        rw [if_pos rfl, hat j hj, hpk, hb, if_pos (by simp), Nat.one_mul]
      · rw [if_neg e, if_neg, Nat.zero_mul]
        intro e2
        rw [hat j hj] at e2
        rcases Nat.lt_or_gt_of_ne e with g | g
        · have h1 := List.pairwise_iff_getElem.1 hr j k (by simpa using hj) (by simpa using hk) g
          rw [List.getElem_map, List.getElem_map, hpk] at h1
          have := hz _ (List.getElem_mem hj)
          omega
        · have h1 := List.pairwise_iff_getElem.1 hr k j (by simpa using hk) (by simpa using hj) g
          rw [List.getElem_map, List.getElem_map, hpk] at h1
          have := hz _ (List.getElem_mem hj)
          omega
  intro h
  have := key m.reverse fun b hb => h b (by simpa using hb)
  rwa [List.reverse_reverse] at this

end Go.Proofs.YthcfhmebikcfpaaGreatDoor
