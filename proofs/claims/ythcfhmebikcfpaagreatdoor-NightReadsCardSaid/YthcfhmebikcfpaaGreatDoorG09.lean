/- Lemmas and walks on which the claims of this seat lean: NLng. -/
import Derived.Test.YthcfhmebikcfpaaGreatDoorG07

set_option linter.all false

namespace Go.Proofs.YthcfhmebikcfpaaGreatDoor
open Go.RowKit

attribute [local go_sem] Holds.drew Holds.alloc Holds.drewN WB.holds Oper.semAt_some

def wsOf (l : List Pr) : List Nat := l.map fun p => p.n.toNat
def outZ (l : List Pr) (bits : List Nat) : List Pr := List.zipWith (fun p b => (⟨p.s, ((b : Nat) : Int)⟩ : Pr)) l bits
def lensOf (l : List Pr) : List Pr := outZ l (huff (wsOf l))
def outTo (l : List Pr) (k : Nat) : List Pr := ((l.take k).map fun p => (⟨p.s, 0⟩ : Pr)) ++ List.replicate (l.length - k) (⟨0, 0⟩ : Pr)
theorem outTo_zero (l : List Pr) : outTo l 0 = List.replicate l.length ⟨0, 0⟩ := by unfold outTo; rw [List.take_zero, List.map_nil, List.nil_append, Nat.sub_zero]
theorem outTo_len (l : List Pr) {k : Nat} (hk : k ≤ l.length) : (outTo l k).length = l.length := by
  unfold outTo; simp; omega
theorem outTo_at (l : List Pr) {k : Nat} (hk : k < l.length) : At (outTo l k) k ⟨0, 0⟩ := by
  show (outTo l k)[k]? = _
  unfold outTo
  rw [List.getElem?_append_right (by simp; omega)]
  simp
  rw [List.getElem?_replicate, if_pos (by omega)]
theorem outTo_set {l : List Pr} {k : Nat} {p : Pr} (hp : At l k p) : (outTo l k).set k ⟨p.s, 0⟩ = outTo l (k + 1) := by
  have hk := hp.lt
  unfold outTo
  rw [hp.take, List.map_append]
  have e : l.length - k = (l.length - (k + 1)) + 1 := by omega
  rw [e, List.replicate_succ, List.set_append_right _ _ (by simp; omega)]
  have e2 : k - ((l.take k).map fun p => (⟨p.s, 0⟩ : Pr)).length = 0 := by simp; omega
  rw [e2, List.set_cons_zero]
  simp
theorem outZ_at {l : List Pr} {bits : List Nat} (hl : bits.length = l.length) {k : Nat} {p : Pr} (hp : At l k p) : At (outZ l bits) k ⟨p.s, (bitAt bits k : Int)⟩ := by
  have hk := hp.lt
  show (outZ l bits)[k]? = _
  unfold outZ bitAt
  rw [List.getElem?_zipWith, show l[k]? = some p from hp, List.getElem?_eq_getElem (by omega), List.getD_eq_getElem?_getD, List.getElem?_eq_getElem (by omega)]
  rfl
theorem outZ_len {l : List Pr} {bits : List Nat} (hl : bits.length = l.length) : (outZ l bits).length = l.length := by
  unfold outZ; rw [List.length_zipWith, hl, Nat.min_self]
theorem outZ_set {l : List Pr} {bits : List Nat} (hl : bits.length = l.length) {k : Nat} {p : Pr} (hp : At l k p) (b : Nat) : (outZ l bits).set k ⟨p.s, (b : Int)⟩ = outZ l (bits.set k b) := by
  apply List.ext_getElem?
  intro j
  have hk := hp.lt
  by_cases e : k = j
  · subst e
    rw [List.getElem?_set_self (by rw [outZ_len hl]; exact hk)]
    have := outZ_at (bits := bits.set k b) (by simpa using hl) hp
    rw [bitAt_set (by omega), if_pos rfl] at this
    exact this.symm
  · rw [List.getElem?_set_ne e]
    by_cases hj : j < l.length
    · obtain ⟨q, hq⟩ := At.mk hj
      have h1 := outZ_at hl hq
      have h2 := outZ_at (bits := bits.set k b) (by simpa using hl) hq
      rw [bitAt_set (by omega), if_neg (fun h => e h.symm)] at h2
      exact (show (outZ l bits)[j]? = _ from h1).trans (show (outZ l (bits.set k b))[j]? = _ from h2).symm
    · rw [List.getElem?_eq_none (by rw [outZ_len hl]; omega), List.getElem?_eq_none (by rw [outZ_len (by simpa using hl)]; omega)]
theorem outTo_all (l : List Pr) : outTo l l.length = outZ l (List.replicate l.length 0) := by
  apply List.ext_getElem?
  intro j
  by_cases hj : j < l.length
  · obtain ⟨q, hq⟩ := At.mk hj
    have h2 := outZ_at (bits := List.replicate l.length 0) (by simp) hq
    rw [bitAt_zero] at h2
    rw [show (outZ l (List.replicate l.length 0))[j]? = _ from h2]
    unfold outTo
    rw [List.take_length, Nat.sub_self, List.replicate_zero, List.append_nil, List.getElem?_map, show l[j]? = some q from hq]
    rfl
  · rw [List.getElem?_eq_none (by rw [outTo_len l (Nat.le_refl _)]; omega), List.getElem?_eq_none (by rw [outZ_len (by simp)]; omega)]
def startTo (l : List Pr) (k : Nat) : List Nod := startN (wsOf (l.take k))
theorem startTo_succ {l : List Pr} {k : Nat} {p : Pr} (hp : At l k p) : startTo l (k + 1) = startTo l k ++ [(⟨p.n.toNat, [k]⟩ : Nod)] := by
  have hk := hp.lt
  unfold startTo startN wsOf
  rw [hp.take, List.map_append, List.mapIdx_append]
  simp
  omega
theorem startTo_len (l : List Pr) {k : Nat} (hk : k ≤ l.length) : (startTo l k).length = k := by
  unfold startTo; rw [startN_len]; unfold wsOf; simp; omega
/-- How many nodes the variable holds. -/
def nodLen (w : World) (NB : Nat) : Nat := match w.cell? ⟨NB, 0, none⟩ with
  | some (.slice _ n _) => n
  | _ => 0

/-! ### The drawn region: the joined node is written beside a call -/

structure NdB (H : Snap) (base : Nat) (w : World) (b : Nat) (cs : Array Value) : Prop where
  at_ : w.heap[b]? = some (.cells cs 94 (0, 0))
  size : cs.size = 2
  base : base ≤ b
  free : H b = none
theorem NdB.lt {H : Snap} {base b : Nat} {w : World} {cs : Array Value} (h : NdB H base w b cs) : b < w.heap.size := (Array.getElem?_eq_some_iff.1 h.at_).1
theorem NdB.new {H : Snap} {base : Nat} {w : World} (hw : Holds H w) (hb : base ≤ w.heap.size) : NdB H base (w.alloc (.cells #[.int .i64 0, .slice none 0 0] 94)) w.heap.size #[.int .i64 0, .slice none 0 0] :=
  ⟨heap_alloc_new w _, rfl, hb, hw.none_of_ge (Nat.le_refl _)⟩
theorem NdB.step {H : Snap} {base b : Nat} {w w' : World} {cs : Array Value} (h : NdB H base w b cs) (hb : Below w.heap.size w w') : NdB H base w' b cs := ⟨(hb.block b h.lt).trans h.at_, h.size, h.base, h.free⟩
theorem NdB.alloc {H : Snap} {base b : Nat} {w : World} {cs : Array Value} (h : NdB H base w b cs) (o : Obj) : NdB H base (w.alloc o) b cs := h.step ((Below.refl _ _).alloc (Nat.le_refl _) o)
theorem NdB.mk1 {H : Snap} {w : World} (hw : Holds H w) (o : Obj) : NdB H w.heap.size ((w.alloc o).alloc (.cells #[.int .i64 0, .slice none 0 0] 94)).drew (w.heap.size + 1) #[.int .i64 0, .slice none 0 0] := by
  refine ⟨?_, rfl, by omega, hw.none_of_ge (by omega)⟩
  have h := heap_alloc_new (w.alloc o) (.cells #[.int .i64 0, .slice none 0 0] 94)
  rw [World.size_alloc] at h
  exact h
theorem NdB.mk0 {H : Snap} {w : World} (hw : Holds H w) (o : Obj) : NdB H w.heap.size ((w.alloc (.cells #[.int .i64 0, .slice none 0 0] 94)).alloc o).drew w.heap.size #[.int .i64 0, .slice none 0 0] :=
  ⟨(heap_alloc_old _ _ (by simp)).trans (heap_alloc_new w _), rfl, Nat.le_refl _, hw.none_of_ge (Nat.le_refl _)⟩
theorem heap_new1 (w : World) (o o' : Obj) : ((w.alloc o).alloc o').heap[w.heap.size + 1]? = some o' := by
  have h := heap_alloc_new (w.alloc o) o'
  rw [World.size_alloc] at h
  exact h
theorem keep_nd {H : Snap} {base : Nat} {w w' : World} (hb : Below w.heap.size w w') : ∀ B cs, NdB H base w B cs → NdB H base w' B cs := fun _ _ h => h.step hb
def storeNd (x y : Value) : Sem Unit := Instr.storeAt 94 x y
theorem storeAt_nd (x y : Value) : Instr.storeAt 94 x y = storeNd x y := rfl
theorem size_nd : (Tryz.prog.info? 94).map (·.size) = some 2 := by kernel_rfl
theorem run_storeNd {w : World} {b : Nat} {x y : Value} (h0 : (w.cell? ⟨b, 0, none⟩).isSome = true) (h1 : (w.cell? ⟨b, 1, none⟩).isSome = true) (f0 : w.frozen? ⟨b, 0, none⟩ = false) (f1 : w.frozen? ⟨b, 1, none⟩ = false) (hx : x.oneCell' = true) (hy : y.oneCell' = true) :
    (storeNd (.pointer (some ⟨b, 0, none⟩)) (.agg #[x, y])).run Tryz.prog w = .ok () ((w.setCell ⟨b, 0, none⟩ x).setCell ⟨b, 1, none⟩ y) := by
  have hth : w.there b 0 2 := fun j hj => by
    have : j = 0 ∨ j = 1 := by omega
    rcases this with rfl | rfl
    · exact ⟨h0, f0⟩
    · exact ⟨h1, f1⟩
  exact run_storeAt_mid (P := Tryz.prog) w b 0 94 #[x, y] hth size_nd (by simp [hx, hy])
theorem run_storeNd_new {w : World} {x y : Value} (hx : x.oneCell' = true) (hy : y.oneCell' = true) :
    (storeNd (.pointer (some ⟨w.heap.size, 0, none⟩)) (.agg #[x, y])).run Tryz.prog (w.alloc (.cells #[.int .i64 0, .slice none 0 0] 94)) = .ok () (w.alloc (.cells #[x, y] 94)) := by
  have hn := heap_alloc_new w (.cells #[.int .i64 0, .slice none 0 0] 94)
  rw [run_storeNd (by rw [Lib.cell_of_heap hn]; rfl) (by rw [Lib.cell_of_heap hn]; rfl) (Lib.frozen_of_heap hn 0) (Lib.frozen_of_heap hn 1) hx hy]
  congr 1
  have e : ((w.alloc (.cells #[.int .i64 0, .slice none 0 0] 94)).setCell ⟨w.heap.size, 0, none⟩ x |>.setCell ⟨w.heap.size, 1, none⟩ y).heap = (w.alloc (.cells #[x, y] 94)).heap := by
    apply Array.ext_getElem?
    intro k
    by_cases hk : k = w.heap.size
    · subst hk
      rw [heap_set_same (heap_set_same hn x) y, heap_alloc_new]
      rfl
    · rw [heap_setCell_other _ ⟨w.heap.size, 1, none⟩ k _ hk, heap_setCell_other _ ⟨w.heap.size, 0, none⟩ k _ hk]
      show (w.heap.push _)[k]? = (w.heap.push _)[k]?
      rw [Array.getElem?_push, Array.getElem?_push, if_neg hk, if_neg hk]
  have h2 : ((w.alloc (.cells #[.int .i64 0, .slice none 0 0] 94)).setCell ⟨w.heap.size, 0, none⟩ x |>.setCell ⟨w.heap.size, 1, none⟩ y) = { w.alloc (.cells #[x, y] 94) with heap := ((w.alloc (.cells #[.int .i64 0, .slice none 0 0] 94)).setCell ⟨w.heap.size, 0, none⟩ x |>.setCell ⟨w.heap.size, 1, none⟩ y).heap } := rfl
  rw [h2, e]
theorem run_storeNd_is {w : World} {k : IntKind} {n : Int} {a : Option Addr} {len c : Nat} : (storeNd (.pointer (some ⟨w.heap.size, 0, none⟩)) (.agg #[.int k n, .slice a len c])).run Tryz.prog (w.alloc (.cells #[.int .i64 0, .slice none 0 0] 94)) = .ok () (w.alloc (.cells #[.int k n, .slice a len c] 94)) := run_storeNd_new rfl rfl
theorem upon_storeNd {o : Oper} {a : Act} {w w0 : World} {H H0 : Snap} {base b : Nat} {cs : Array Value} {k0 : IntKind} {n0 : Int} {a0 : Option Addr} {len0 cap0 : Nat} {Q : Exit → Act → World → Prop} {K : Act → World → Prop} {f : Unit → World → Result Next} (h : NdB H base w b cs) (hX : Ext w0 H0 w H) (hb : w0.heap.size ≤ base)
    (hk : ∀ w', NdB H base w' b #[.int k0 n0, .slice a0 len0 cap0] → Ext w0 H0 w' H → (∀ k, k ≠ b → w'.heap[k]? = w.heap[k]?) → w'.heap.size = w.heap.size → Oper.upon Tryz.prog o a K Q (f () w')) :
    Oper.upon Tryz.prog o a K Q (((storeNd (.pointer (some ⟨b, 0, none⟩)) (.agg #[.int k0 n0, .slice a0 len0 cap0])).run Tryz.prog w).andThen f) := by
  have hat := h.at_
  have hx : (Value.int k0 n0).oneCell' = true := rfl
  have hy : (Value.slice a0 len0 cap0).oneCell' = true := rfl
  generalize Value.int k0 n0 = x at *
  generalize Value.slice a0 len0 cap0 = y at *
  have hs := h.size
  have hc : ∀ j, j < 2 → (w.cell? ⟨b, j, none⟩).isSome = true := fun j hj => by
    rw [cell_of_row w b j _ _ _ hat, Array.getElem?_eq_getElem (by omega)]; rfl
  have hf : ∀ j, w.frozen? ⟨b, j, none⟩ = false := fun j => by simp [World.frozen?, hat]
  rw [run_storeNd (hc 0 (by omega)) (hc 1 (by omega)) (hf 0) (hf 1) hx hy]
  have hbb := h.base
  have hrow : ((w.setCell ⟨b, 0, none⟩ x).setCell ⟨b, 1, none⟩ y).heap[b]? = some (.cells #[x, y] 94 (0, 0)) := by
    rw [heap_set_same (heap_set_same hat x) y]
    congr 2
    match cs, hs with
    | ⟨[c0, c1]⟩, _ => rfl
  have ho : ∀ k, k ≠ b → ((w.setCell ⟨b, 0, none⟩ x).setCell ⟨b, 1, none⟩ y).heap[k]? = w.heap[k]? := fun k hk => by
    rw [heap_setCell_other _ ⟨b, 1, none⟩ k _ hk, heap_setCell_other _ ⟨b, 0, none⟩ k _ hk]
  have hbel : Below base w ((w.setCell ⟨b, 0, none⟩ x).setCell ⟨b, 1, none⟩ y) := ((Below.refl _ _).setCell hbb x).setCell hbb y
  refine hk _ ⟨hrow, rfl, h.base, h.free⟩ (hX.step (hbel.mono hb) ⟨fun k o e => ?_⟩) ho (by simp)
  have hne : k ≠ b := by
    rintro rfl; rw [h.free] at e; cases e
  rw [ho k hne]; exact hX.holds.at_ k o e

theorem ints_append (a b : List Nat) : ints (a ++ b) = ints a ++ ints b := by unfold ints; rw [List.map_append]
theorem concat2 {W : World} {H : Snap} {S : Nat} {ua ub : Value} {xs ys : List Int} (hw : Holds H W) (hS : W.heap[S]? = some (.cells #[ua, ub] 92 (0, 0))) (ha : Sl H ua xs) (hb : Sl H ub ys) (h0 : 0 < xs.length) (hn : xs.length + ys.length ≤ 100000) :
    Calls Tryz.prog 64 #[.slice (some ⟨S, 0, none⟩) 2 2] W (fun e w' => ∃ a5 c5, e = .returned (.slice a5 (xs ++ ys).length c5) ∧ Below W.heap.size W w' ∧
      ∀ (w0 : World) (B : Nat) (w7 : World), Holds H w0 → w0.heap.size ≤ W.heap.size → w0.heap.size ≤ B → w0.heap.size ≤ S → B ≠ S → (B < W.heap.size ∨ w'.heap.size ≤ B) → (∀ k, k ≠ B → k < w'.heap.size → w7.heap[k]? = w'.heap[k]?) →
        ∃ H', SLe H H' ∧ H' B = none ∧ Holds H' w7 ∧ (∀ b, b < w0.heap.size → H' b = H b) ∧ Sl H' (.slice a5 (xs ++ ys).length c5) (xs ++ ys)) := by
  have hle : SLe H (H.put S (.cells #[ua, ub] 92 (0, 0))) := fun b o e => by
    by_cases k : b = S
    · subst k; have := hw.at_ b o e; rw [hS] at this; rw [Snap.put_same]; exact this
    · rw [Snap.put_other _ _ k]; exact e
  have hw1 := hw.put hS
  have hs : Sl (H.put S (.cells #[ua, ub] 92 (0, 0))) (.slice (some ⟨S, 0, none⟩) 2 2) [xs, ys] :=
    ⟨_, 2, rfl, Nat.le_refl _, by omega, by simp [Enc.by_], .inr ⟨S, 0, #[ua, ub], 92, (0, 0), rfl, Snap.put_same _ _ _, by simp [Enc.sz], [ua], [ub], by simp [Enc.sz], ⟨ua, rfl, ha.mono hle⟩, [ub], [], rfl, ⟨ub, rfl, hb.mono hle⟩, rfl⟩⟩
  have hcat : catA [xs, ys] = xs ++ ys := by unfold catA; simp
  have hc := nConcat_any _ [xs, ys] (by simp) (by rw [hcat, List.length_append]; omega) (by rw [hcat, List.length_append]; omega) _ W hw1 hs
  rw [hcat] at hc
  refine hc.mono ?_
  intro e w' hp
  obtain ⟨v, H', rfl, hx, hv⟩ := hp.post
  obtain ⟨a5, c5, rfl, _, _⟩ := hv.form
  refine ⟨a5, c5, rfl, hx.below, fun w0 B w7 h0 h1 h2 h3 h4 h5 h6 => ?_⟩
  have hHB : H B = none := h0.none_of_ge h2
  have hB : H' B = none := by
    rcases h5 with h5 | h5
    · rw [hx.same B h5, Snap.put_other _ _ h4]; exact hHB
    · exact hx.holds.none_of_ge h5
  refine ⟨H', hle.trans (hx.le hw1), hB, ⟨fun k o e => ?_⟩, fun b hb => ?_, hv⟩
  · have hk : k ≠ B := fun e2 => by rw [e2, hB] at e; cases e
    rw [h6 k hk (hx.holds.lt e)]; exact hx.holds.at_ k o e
  · rw [hx.same b (by omega), Snap.put_other _ _ (by omega)]

theorem meet2 {wz w7 : World} {Hz H6 : Snap} {B : Nat} {n0 : Int} {a5 : Option Addr} {c5 : Nat} {xs : List Int} (x : Ext wz Hz w7 Hz) (h1 : SLe Hz H6) (h2 : H6 B = none) (h3 : Holds H6 w7) (h4 : ∀ b, b < wz.heap.size → H6 b = Hz b) (h5 : Sl H6 (.slice a5 xs.length c5) xs)
    (hat : w7.heap[B]? = some (.cells #[.int .i64 n0, .slice a5 xs.length c5] 94 (0, 0))) (hB : wz.heap.size ≤ B) :
    ∃ (B' : Nat) (a : Option Addr) (c : Nat) (Hc : Snap), Value.pointer (some ⟨B, 0, none⟩) = .pointer (some ⟨B', 0, none⟩) ∧ SLe Hz Hc ∧ Ext wz Hz w7 Hc ∧ Hc B' = some (.cells #[.int .i64 n0, .slice a xs.length c] 94 (0, 0)) ∧ Sl Hc (.slice a xs.length c) xs := by
  have hle := Snap.le_put h2 (.cells #[.int .i64 n0, .slice a5 xs.length c5] 94 (0, 0))
  exact ⟨B, a5, c5, _, rfl, h1.trans hle, (Ext.freeze ⟨x.below, h3, h4⟩ hB hat), Snap.put_same _ _ _, h5.mono hle⟩
attribute [local go_sem] run_storeNd_is
attribute [local go_sem ↓] storeAt_nd
theorem costKey : ∀ l : List Nat, sumOn (bitAt l) (List.range l.length) = l.sum
  | [] => rfl
  | a :: l => by
    rw [List.length_cons, List.range_succ_eq_map, sumOn_cons, sumOn_map, List.sum_cons, ← costKey l]
    rfl
set_option maxRecDepth 100000 in
set_option maxHeartbeats 4000000 in
theorem nLengthsOf_any (v : Value) (l : List Pr) (hl : l.length ≤ 256) (hn : ∀ p ∈ l, 0 ≤ p.n) (hsum : (wsOf l).sum ≤ 100000) (H : Snap) (w : World) (hw : Holds H w) (hs : Sl H v l) :
    Calls Tryz.prog 43 #[v] w (PostO w H 47 (lensOf l)) := by
  obtain ⟨a, c, rfl, _, _⟩ := hs.form
  have hmem : ∀ p ∈ l, p.n.toNat ≤ 100000 := fun p hp => by
    have := sumOn_mem (f := fun x => x) (show p.n.toNat ∈ wsOf l from List.mem_map.2 ⟨p, hp, rfl⟩)
    rw [← sum_sumOn] at this
    omega
  go_enter Tryz.func43, Tryz.ntmps43
  go_wp2_with (first | ((refine wpList_makeP eLen (by kernel_rfl) rfl _ _ rfl l.length rfl rfl (by omega) hw (Nat.le_refl _) ?_; intro ov wo oo go hwo; obtain ⟨ao, co, rfl, _, _⟩ := oo.form)))
  have st0 : LSt w H wo.heap.size (.slice ao (List.replicate l.length (⟨0, 0⟩ : Pr)).length co) (outTo l 0) (wo.alloc (.cells #[.slice none 0 0] 91)) H (.slice none 0 0) (startTo l 0) :=
    ⟨((Ext.refl hw).grown go (by simp) (by simp)).alloc _, (oo.congr (outTo_zero l).symm).alloc _, heap_alloc_new _ _, go.size, hwo.none_of_ge (Nat.le_refl _), Own.nil _ _ _ _⟩
  rw [List.length_replicate] at st0
  generalize wo.heap.size = NB at *
  generalize wo.alloc (.cells #[.slice none 0 0] 91) = w1 at *
  clear oo go hwo
  go_loopw [17] (fun i wr => ∃ (k : Nat) (Hr : Snap) (nv : Value), k ≤ l.length ∧ i = .int .i64 (k : Int) ∧ LSt w H NB (.slice ao l.length co) (outTo l k) wr Hr nv (startTo l k)) (fun i _ => l.length - (intOf i).toNat)
  case atStart => exact ⟨0, H, _, Nat.zero_le _, rfl, st0⟩
  case round =>
    obtain ⟨k, Hr, nv, hk, rfl, st⟩ := hrel
    have hwr := st.x.holds
    by_cases hlk : k < l.length
    · obtain ⟨p, hp⟩ := At.mk hlk
      have hsr := hs.mono (st.x.le hw)
      obtain ⟨b, o, c', he, hi, r1, r2⟩ := hsr.pr hp
      cases he
      have hk0 : (0 : Int) ≤ (k : Int) := by omega
      have hk1 : (k : Int) < (l.length : Int) := by omega
      obtain ⟨g, cg, eo, _, hgN, hgl, s1, s2, hfz, hset, _⟩ := (st.alloc (.cells #[.int .i64 p.s, .int .i64 p.n] 69)).setS (outTo_at l hlk)
      rw [outTo_len l hk] at eo
      cases eo
      have st2 := hset p.s hi.1
      rw [outTo_set hp] at st2
      have e1 := new_cell wr #[.int .i64 p.s, .int .i64 p.n] 69 0
      have e2 := new_cell wr #[.int .i64 p.s, .int .i64 p.n] 69 1
      have hgV : g ≠ wr.heap.size := by
        have := (st.o.lt g rfl).2
        omega
      have fz := hfz (k * 2)
      have e3 : ((wr.alloc (.cells #[.int .i64 p.s, .int .i64 p.n] 69)).setCell ⟨g, k * 2, none⟩ (.int .i64 p.s)).cell? ⟨wr.heap.size, 1, none⟩ = some (.int .i64 p.n) := by
        rw [World.cell?_setCell_other _ _ _ _ (by simp)]; exact e2
      clear e2 hset s2 hfz
      go_upto_region 6 with fail
      generalize wr.heap.size = V at *
      generalize wr.alloc (.cells #[.int .i64 p.s, .int .i64 p.n] 69) = wa at *
      go_upto_region 7 with fail
      generalize wa.setCell ⟨g, k * 2, none⟩ (.int .i64 p.s) = wb at *
      have st3 := st2.ext (ext_put st2.x.holds #[.int .i64 (k : Int)] 3)
      obtain ⟨an, cn, rfl, _, _⟩ := st2.n.form
      have cnb := Lib.cell_of_heap (j := 0) st2.nb
      have hpn := hn p hp.mem
      have hpm := hmem p hp.mem
      have hsl := startTo_len l hk
      have hrep : Enc.rep (Hr.put wb.heap.size (.cells #[.int .i64 (k : Int)] 3 (0, 0))) (⟨p.n.toNat, [k]⟩ : Nod) [.int .i64 p.n, .slice (some ⟨wb.heap.size, 0, none⟩) 1 1] := by
        refine ⟨_, by rw [show ((p.n.toNat : Nat) : Int) = p.n by omega], show p.n.toNat ≤ 1000000 by omega, ?_⟩
        refine ⟨_, 1, rfl, Nat.le_refl _, by omega, by simp [ints, Enc.by_], .inr ⟨wb.heap.size, 0, #[.int .i64 (k : Int)], 3, (0, 0), rfl, Snap.put_same _ _ _, by simp [ints, Enc.sz], ?_⟩⟩
        exact ⟨[.int .i64 (k : Int)], [], by simp [ints, Enc.sz], ⟨rfl, (by show I64 ((k : Nat) : Int); unfold I64; omega)⟩, rfl⟩
      have hb32 : ((startTo l k).length + 1) * Enc.by_ Nod ≤ 140737488355328 := by rw [hsl]; show (k + 1) * 32 ≤ _; omega
      have hb63 : (startTo l k).length + 1 ≤ 9223372036854775807 := by omega
      replace hb32 := Lib.hid hb32
      replace hb63 := Lib.hid hb63
      replace hsl := Lib.hid hsl
      have hnx := startTo_succ hp
      replace hnx := Lib.hid hnx
      replace hrep := Lib.hid hrep
      replace st3 := Lib.hid st3
      clear st2
      go_wp2_with (first | ((at_builtin; have hgd := hrep; clear hgd; go_must (refine wpList_app1 (c := 1) eNod rfl _ _ rfl rfl st3.out.n (show _ = _ from by show Value.slice (some ⟨wb.heap.size + 1, 0, none⟩) 1 1 = Value.slice (some ⟨(wb.alloc (.cells #[.int .i64 (k : Int)] 3)).heap.size, 0, none⟩) 1 1; rw [World.size_alloc]) hrep.out st3.out.x.holds hb32.out hb63.out (st3.out.x.below.size) ?_); intro v' w' own' gw hw' _; obtain ⟨c1, c2, st4⟩ := (st3.out.alloc _).put gw own'; obtain ⟨an', cn', rfl, _, _⟩ := own'.form)))
      go_roundw
      case rel => exact ⟨k + 1, _, _, by omega, by go_num, by rw [hnx.out]; rw [List.length_append] at st4; exact st4⟩
      case measure => simp [intOf]; omega
    · have : k = l.length := by omega
      subst this
      rw [outTo_all] at st
      have hst : startTo l l.length = startN (wsOf l) := by unfold startTo; rw [List.take_length]
      rw [hst] at st
      have hwl : (wsOf l).length = l.length := by unfold wsOf; simp
      obtain ⟨bits0, hb0, hbl⟩ : ∃ bits0, bits0 = (if (wsOf l).length = 1 then [1] else List.replicate (wsOf l).length 0) ∧ bits0.length = l.length := ⟨_, rfl, by split <;> simp_all⟩
      have hhuff : huffGo l.length (startN (wsOf l)) bits0 = huff (wsOf l) := by unfold huff; rw [hb0, hwl]
      have hF : Forest (wsOf l) (startN (wsOf l)) bits0 := Forest.start (by rw [hbl, hwl])
      have hbb : ∀ i, bitAt bits0 i + (startN (wsOf l)).length ≤ l.length + 1 := fun i => by
        rw [startN_len, hwl, hb0]
        split
        · have : bitAt [1] i ≤ 1 := by
            unfold bitAt
            rw [List.getD_eq_getElem?_getD]
            cases i with
            | zero => exact Nat.le_refl _
            | succ i => exact Nat.zero_le _
          omega
        · rw [bitAt_zero]; omega
      have hsl : (startN (wsOf l)).length = l.length := by rw [startN_len, hwl]
      replace hhuff := Lib.hid hhuff
      have hfull : ∀ x ∈ startN (wsOf l), 0 < x.s.length := fun x hx => by
        obtain ⟨i, _, rfl⟩ := List.mem_mapIdx.1 hx
        exact Nat.one_pos
      replace hfull := Lib.hid hfull
      replace hbb := Lib.hid hbb
      replace hsl := Lib.hid hsl
      clear hst hmem hs
      obtain ⟨ov, hov⟩ : ∃ ov, Hid (ov = Value.slice ao l.length co) := ⟨_, Lib.hid rfl⟩
      by_cases h1 : l.length = 1
      case' pos =>
        obtain ⟨p, hp⟩ := At.mk (show 0 < l.length by omega)
        obtain ⟨g, cg, eo, _, hgN, hgl, s1, s2, hfz, _, hset⟩ := st.setS (outZ_at (by simp) hp)
        rw [outZ_len (by simp)] at eo
        cases eo
        have stz := hset 1 (by unfold I64; omega)
        have e2 : (outZ l (List.replicate l.length 0)).set 0 ⟨p.s, 1⟩ = outZ l bits0 := by
          rw [hb0, hwl, if_pos h1]
          have := outZ_set (bits := List.replicate l.length 0) (by simp) hp 1
          rw [h1] at this ⊢
          exact this
        rw [e2] at stz
        have fz := hfz 1
        have ht : ((l.length : Int) == 1) = true := by rw [beq_iff_eq]; omega
        have hi0 : (0 : Int) < (l.length : Int) := by omega
        have hi1 : 0 < l.length := by omega
        clear e2 hset hfz hb0 h1
        go_upto_region 11 with fail
        generalize wr.setCell ⟨g, 1, none⟩ (.int .i64 1) = wz at *
        rw [← hov.out] at stz
        clear st s1 s2 fz ht
      case' neg =>
        have e2 : bits0 = List.replicate l.length 0 := by rw [hb0, hwl, if_neg h1]
        have stz := st
        rw [← e2, ← hov.out] at stz
        have ht : ((l.length : Int) == 1) = false := by rw [beq_eq_false_iff_ne]; omega
        clear e2 hb0 h1 st
        go_upto_region 11 with fail
        have hzz : ∃ wz : World, Hid (wz = wr) := ⟨_, Lib.hid rfl⟩
        generalize wr = wz at *
        clear ht hzz
      all_goals
        go_loopw [] (fun wq => ∃ (n : Nat) (Hq : Snap) (nq : Value) (nl : List Nod) (bits : List Nat), LSt w H NB ov (outZ l bits) wq Hq nq nl ∧ Hid (huffGo n nl bits = huff (wsOf l)) ∧ nl.length ≤ n ∧ n ≤ 256 ∧ Forest (wsOf l) nl bits ∧ Hid (∀ i, bitAt bits i + nl.length ≤ l.length + 1) ∧ Hid (∀ x ∈ nl, 0 < x.s.length)) (fun wq => nodLen wq NB)
        case atStart => exact ⟨l.length, Hr, nv, _, bits0, stz, hhuff, by rw [hsl.out]; exact Nat.le_refl _, hl, hF, hbb, hfull⟩
        case round =>
          clear stz hhuff hF hbb hsl hbl hfull
          obtain ⟨n, Hq, nq, nl, bits, sq, hh, hnl, hn256, F, hbb, hfu⟩ := hrel
          obtain ⟨aq, cq, rfl, _, _⟩ := sq.n.form
          have cnb := Lib.cell_of_heap (j := 0) sq.nb
          have hnlq : nodLen wr NB = nl.length := by unfold nodLen; rw [cnb]; rfl
          replace hnlq := Lib.hid hnlq
          by_cases h2 : 2 ≤ nl.length
          · have hne : nl ≠ [] := by intro e; subst e; simp at h2
            have hll := light_len hne
            have hne2 : lightR nl ≠ [] := by intro e; rw [e] at hll; simp at hll; omega
            have ht2 : (1 : Int) < (nl.length : Int) := by omega
            have ht3 : 1 < nl.length := by omega
            go_upto_region 12 with fail
            go_upto_region 13 with (go_at_call 63; go_must (refine (nLightest_any NB _ nl hne (by omega) Hq _ sq.x.holds w.heap.size sq.x.below.size sq.nb sq.n).mono ?_); rintro e w2 ⟨ua, na, rfl, haw, hsa, q1, q2, _, q4, q5, q6, q7, q8⟩; have s2 := sq.turn q1 q2 q4 q5 q6 q7 q8; obtain ⟨aa, ca, rfl, _, _⟩ := hsa.form)
            have s3 := s2.ext (ext_put s2.x.holds #[.int .i64 ((lightN nl).w : Int), .slice aa (ints (lightN nl).s).length ca] 94)
            have hA := Snap.put_same Hq w2.heap.size (.cells #[.int .i64 ((lightN nl).w : Int), .slice aa (ints (lightN nl).s).length ca] 94 (0, 0))
            have hsA := hsa.mono (Snap.le_put (s2.x.holds.none_of_ge (Nat.le_refl _)) (.cells #[.int .i64 ((lightN nl).w : Int), .slice aa (ints (lightN nl).s).length ca] 94 (0, 0)))
            clear s2 hsa q1 q2 q4 q5 q6 q7 q8 sq cnb
            generalize Hq.put w2.heap.size (.cells #[.int .i64 ((lightN nl).w : Int), .slice aa (ints (lightN nl).s).length ca] 94 (0, 0)) = Ha at *
            generalize w2.heap.size = CA at *
            generalize w2.alloc (.cells #[.int .i64 ((lightN nl).w : Int), .slice aa (ints (lightN nl).s).length ca] 94) = wa at *
            go_upto_region 14 with (go_at_call 63; go_must (refine (nLightest_any NB _ (lightR nl) hne2 (by omega) Ha _ s3.x.holds w.heap.size s3.x.below.size s3.nb s3.n).mono ?_); rintro e w4 ⟨ub, nb, rfl, hbw, hsb, q1, q2, _, q4, q5, q6, q7, q8⟩; have s4 := s3.turn q1 q2 q4 q5 q6 q7 q8; obtain ⟨ab, cb, rfl, _, _⟩ := hsb.form)
            have y5 := ext_put s4.x.holds #[.int .i64 ((lightN (lightR nl)).w : Int), .slice ab (ints (lightN (lightR nl)).s).length cb] 94
            have s5 := s4.ext y5
            have l5 := Snap.le_put (s4.x.holds.none_of_ge (Nat.le_refl _)) (.cells #[.int .i64 ((lightN (lightR nl)).w : Int), .slice ab (ints (lightN (lightR nl)).s).length cb] 94 (0, 0))
            have hB := Snap.put_same Ha w4.heap.size (.cells #[.int .i64 ((lightN (lightR nl)).w : Int), .slice ab (ints (lightN (lightR nl)).s).length cb] 94 (0, 0))
            have hsB := hsb.mono l5
            have hsA2 := hsA.mono l5
            have hA2 := l5 _ _ hA
            clear s4 s3 hsb q1 q2 q4 q5 q6 q7 q8 y5 hsA hA
            generalize Ha.put w4.heap.size (.cells #[.int .i64 ((lightN (lightR nl)).w : Int), .slice ab (ints (lightN (lightR nl)).s).length cb] 94 (0, 0)) = Hz at *
            generalize w4.heap.size = CB at *
            generalize w4.alloc (.cells #[.int .i64 ((lightN (lightR nl)).w : Int), .slice ab (ints (lightN (lightR nl)).s).length cb] 94) = wz2 at *
            have ca0 : ∀ w', Holds Hz w' → w'.cell? ⟨CA, 0, none⟩ = some (.int .i64 ((lightN nl).w : Int)) := fun w' hw' => cellH hA2 hw' 0
            have ca1 : ∀ w', Holds Hz w' → w'.cell? ⟨CA, 1, none⟩ = some (.slice aa (ints (lightN nl).s).length ca) := fun w' hw' => cellH hA2 hw' 1
            have cb0 : ∀ w', Holds Hz w' → w'.cell? ⟨CB, 0, none⟩ = some (.int .i64 ((lightN (lightR nl)).w : Int)) := fun w' hw' => cellH hB hw' 0
            have cb1 : ∀ w', Holds Hz w' → w'.cell? ⟨CB, 1, none⟩ = some (.slice ab (ints (lightN (lightR nl)).s).length cb) := fun w' hw' => cellH hB hw' 1
            have hz2 := s5.x.holds
            have xz2 := Ext.refl hz2
            clear l5 hA2 hB
            obtain ⟨F2, hnd, hlt2, hout2⟩ := F.join h2
            have hxs : 0 < (lightN nl).s.length ∧ (lightN nl).s.length + (lightN (lightR nl)).s.length ≤ 256 := by
              obtain ⟨hjp, _⟩ := join_perm h2
              have hfl := (flat_perm hjp).length_eq
              have hpl := F.part.length_eq
              simp only [List.flatMap_cons, List.length_append] at hfl
              rw [List.length_range, hwl] at hpl
              have := hfu.out _ (hjp.mem_iff.2 (by simp : lightN nl ∈ lightN nl :: lightN (lightR nl) :: joinR nl))
              omega
            have hjw : (joinX nl).w = (lightN nl).w + (lightN (lightR nl)).w := rfl
            have hjs : (joinX nl).s = (lightN nl).s ++ (lightN (lightR nl)).s := rfl
            have hjr : lightR (lightR nl) = joinR nl := rfl
            have hjc := joinC_succ (n := n) h2
            have hwp : IntKind.i64.wrap (((lightN nl).w : Int) + ((lightN (lightR nl)).w : Int)) = ((lightN nl).w : Int) + ((lightN (lightR nl)).w : Int) := IntWalk.i64_in _ (by omega)
            have hl1 := ints_len (lightN nl).s
            have hl3 := ints_len (lightN (lightR nl)).s
            have hcc := fun (W : World) (S : Nat) (h1 : Holds Hz W) (h2 : W.heap[S]? = some (.cells #[.slice aa (ints (lightN nl).s).length ca, .slice ab (ints (lightN (lightR nl)).s).length cb] 92 (0, 0))) => concat2 h1 h2 hsA2 hsB (by omega) (by omega)
            rw [← ints_append, ← hjs] at hcc
            replace hcc := Lib.hid hcc
            replace hjw := Lib.hid hjw
            replace hjs := Lib.hid hjs
            clear hjc hl1 hl3 hjr
            (try go_frame)
            go_cut [9] (fun p wc => ∃ (B : Nat) (a5 : Option Addr) (c5 : Nat) (Hc : Snap), p = .pointer (some ⟨B, 0, none⟩) ∧ SLe Hz Hc ∧ Ext wz2 Hz wc Hc ∧ Hc B = some (.cells #[.int .i64 (((lightN nl).w : Int) + ((lightN (lightR nl)).w : Int)), .slice a5 (ints (joinX nl).s).length c5] 94 (0, 0)) ∧ Sl Hc (.slice a5 (ints (joinX nl).s).length c5) (ints (joinX nl).s))
            case first =>
              first
              | go_region_held3 (fun w' => Holds Hz w' ∧ Ext wz2 Hz w' Hz) (first | assumption | exact ⟨by assumption, by assumption⟩ | (go_split_ands; exact ⟨Holds.drew (by assumption), Ext.drew (by assumption)⟩) | (go_split_ands; exact ⟨Holds.alloc (by assumption) _, Ext.alloc (by assumption) _⟩) | (go_split_ands; exact ⟨Holds.drew (Holds.alloc (by assumption) _), Ext.drew (Ext.alloc (by assumption) _)⟩)) (first | (go_split_ands; go_at_call 64; go_must (refine (hcc.out _ _ (by assumption) (by first | exact heap_new1 _ _ _ | exact heap_alloc_new _ _ | exact (heap_alloc_old _ _ (by simp)).trans (heap_alloc_new _ _))).mono ?_); rintro e w5 ⟨a5, c5, rfl, hb5, F5⟩; have k1 : Holds Hz w5 := Holds.below (by assumption) hb5; have k2 : Ext wz2 Hz w5 Hz := Ext.step (by assumption) (hb5.mono (by assumption : Ext wz2 Hz _ Hz).below.size) k1; have kq := keep_nd (H := Hz) (base := wz2.heap.size) hb5) | (have hgd := F5; clear hgd; go_split_ands; (refine upon_storeNd (by first | exact kq _ _ (NdB.mk1 hz2 _) | exact kq _ _ (NdB.mk0 hz2 _) | exact NdB.new (by assumption) (Ext.below (by assumption)).size) (by first | assumption | exact Ext.alloc (by assumption) _ | exact Ext.alloc xz2.drew _) (Nat.le_refl _) ?_); intro w7 r7 x7 hO7 hz7; have k7 := x7.holds))
              | fail
              all_goals
                go_wp2_with fail
                go_meet
                first
                | (have hrb := r7.base
                   have hra := r7.at_
                   have hsz : wz2.heap.size ≤ ((wz2.alloc (.cells #[] 0)).alloc (.cells #[] 0)).heap.size := by simp <;> omega
                   obtain ⟨H6, h1, h2, h3, h4, h5⟩ := F5 wz2 _ _ hz2 (by simpa [World.drew] using hsz) hrb (by simp <;> omega) (by omega) (.inl (by simp [World.drew] <;> omega)) (fun k hk _ => hO7 k hk)
                   exact meet2 x7 h1 h2 h3 h4 h5 hra hrb)
                | (have hz5 := hb5.size
                   simp [World.drew] at hz5
                   obtain ⟨H6, h1, h2, h3, h4, h5⟩ := F5 wz2 w5.heap.size _ hz2 (by simp [World.drew] <;> omega) (by omega) (by simp <;> omega) (by omega) (.inr (Nat.le_refl _)) (fun k hk hk2 => heap_alloc_old w5 _ hk2)
                   exact meet2 ((((xz2.alloc _).drew).step (hb5.mono (by simp [World.drew] <;> omega)) (Holds.below ((hz2.alloc _).drew) hb5)).alloc _) h1 h2 h3 h4 h5 (heap_alloc_new w5 _) (by omega))
            case rest =>
              obtain ⟨B, a5, c5, Hc, rfl, hleC, xC, hBC, hsC⟩ := hcut
              have sC := s5.ext xC
              have hjr : lightR (lightR nl) = joinR nl := rfl
              rw [hjr] at sC
              have cB0 : ∀ w', Holds Hc w' → w'.cell? ⟨B, 0, none⟩ = some (.int .i64 (((lightN nl).w : Int) + ((lightN (lightR nl)).w : Int))) := fun w' hw' => cellH hBC hw' 0
              have cB1 : ∀ w', Holds Hc w' → w'.cell? ⟨B, 1, none⟩ = some (.slice a5 (ints (joinX nl).s).length c5) := fun w' hw' => cellH hBC hw' 1
              have hwC := sC.x.holds
              have hixs := ints_len (joinX nl).s
              have hrepX : Enc.rep Hc (joinX nl) [.int .i64 (((lightN nl).w : Int) + ((lightN (lightR nl)).w : Int)), .slice a5 (ints (joinX nl).s).length c5] := ⟨_, by rw [hjw.out]; simp, by
                have h1 := F2.weigh (joinX nl) (by simp)
                have h3 := sum_mem (f := bitAt (wsOf l)) (n := (wsOf l).length) hnd (fun i hi => by rw [← F.len]; exact hlt2 i hi)
                have h4 : sumOn (fun i => if i ∈ (joinX nl).s then bitAt (wsOf l) i else 0) (List.range (wsOf l).length) ≤ sumOn (bitAt (wsOf l)) (List.range (wsOf l).length) := sumOn_le fun x _ => by
                  show (if x ∈ (joinX nl).s then bitAt (wsOf l) x else 0) ≤ bitAt (wsOf l) x
                  split <;> omega
                have h5 := costKey (wsOf l)
                omega, hsC⟩
              rw [hixs] at hrepX
              replace hrepX := Lib.hid hrepX
              clear s5 hleC xC hBC hcc ca0 ca1 cb0 cb1 hsA2 hsB haw hbw hwp xz2 hz2
              have hbl : bits.length = l.length := by rw [F.len, hwl]
              have hxl : (joinX nl).s.length ≤ 256 := by rw [hjs.out, List.length_append]; omega
              go_wp2
              go_loopw [63] (fun i wx => ∃ j : Nat, j ≤ (joinX nl).s.length ∧ i = .int .i64 (j : Int) ∧ LSt w H NB ov (outZ l (incr bits ((joinX nl).s.take j))) wx Hc nb (joinR nl)) (fun i _ => (joinX nl).s.length - (intOf i).toNat)
              case atStart => exact ⟨0, Nat.zero_le _, rfl, sC⟩
              case round =>
                clear sC
                obtain ⟨j, hj, rfl, sj⟩ := hrel
                have hwj := sj.x.holds
                have hj0 : (0 : Int) ≤ (j : Int) := by omega
                by_cases hlj : j < (joinX nl).s.length
                · obtain ⟨i, hi⟩ := At.mk hlj
                  have hii : At (ints (joinX nl).s) j (i : Int) := by
                    show (ints (joinX nl).s)[j]? = _
                    unfold ints
                    rw [List.getElem?_map, show (joinX nl).s[j]? = some i from hi]; rfl
                  obtain ⟨b1, o1, c1, he1, hr1, r1⟩ := hsC.int hii
                  cases he1
                  have hil := hlt2 i hi.mem
                  rw [hbl] at hil
                  obtain ⟨p, hp⟩ := At.mk hil
                  have hbjl : (incr bits ((joinX nl).s.take j)).length = l.length := by rw [incr_len, hbl]
                  obtain ⟨g1, cg1, eo1, hI, hgN, hgl, s1, s2, hfz, _, hset⟩ := sj.setS (outZ_at hbjl hp)
                  rw [outZ_len hbjl, hov.out] at eo1
                  cases eo1
                  have hbi : bitAt (incr bits ((joinX nl).s.take j)) i ≤ bitAt bits i + 1 := by
                    rw [incr_at (List.Nodup.sublist (List.take_sublist _ _) hnd) (fun k hk => hlt2 k (List.mem_of_mem_take hk))]
                    split <;> omega
                  have hbb1 := hbb.out i
                  have hnx : incr bits ((joinX nl).s.take (j + 1)) = (incr bits ((joinX nl).s.take j)).set i (bitAt (incr bits ((joinX nl).s.take j)) i + 1) := by
                    rw [hi.take]; unfold incr; rw [List.foldl_append]; rfl
                  have stn := hset ((bitAt (incr bits ((joinX nl).s.take j)) i + 1 : Nat) : Int) (by unfold I64; omega)
                  rw [outZ_set hbjl hp, ← hnx] at stn
                  have fz := hfz (i * 2 + 1)
                  have hi0 : (0 : Int) ≤ (i : Int) := by omega
                  have hi1 : (i : Int) < (l.length : Int) := by omega
                  have hj1 : (j : Int) < ((joinX nl).s.length : Int) := by omega
                  generalize hq : bitAt (incr bits ((joinX nl).s.take j)) i = q at *
                  have g4 : wrap64 ((q : Int) + 1) = (q : Int) + 1 := wrap64_in _ (by omega) (by omega)
                  rw [show ((q + 1 : Nat) : Int) = (q : Int) + 1 by omega] at stn
                  clear hset hnx hq hbi hbb1 sj s1
                  go_wp2_with fail
                  go_roundw
                  case rel => exact ⟨j + 1, by omega, by go_num, stn⟩
                  case measure => simp [intOf]; omega
                · have hfin : (joinX nl).s.take j = (joinX nl).s := List.take_of_length_le (by omega)
                  rw [hfin] at sj
                  obtain ⟨am, cm, rfl, _, _⟩ := sj.n.form
                  have cnm := Lib.cell_of_heap (j := 0) sj.nb
                  have hjl := (join_perm h2).2
                  have hb32 : ((joinR nl).length + 1) * Enc.by_ Nod ≤ 140737488355328 := by show ((joinR nl).length + 1) * 32 ≤ _; omega
                  have hb63 : (joinR nl).length + 1 ≤ 9223372036854775807 := by omega
                  obtain ⟨m, rfl⟩ : ∃ m, n = m + 1 := ⟨n - 1, by omega⟩
                  have hh2 : huffGo m (joinR nl ++ [joinX nl]) (incr bits (joinX nl).s) = huff (wsOf l) := by rw [← huffGo_succ h2]; exact hh.out
                  have hbb2 : ∀ i, bitAt (incr bits (joinX nl).s) i + (joinR nl ++ [joinX nl]).length ≤ l.length + 1 := fun i => by
                    have h1 := hbb.out i
                    rw [incr_at hnd hlt2, List.length_append, List.length_singleton]
                    split <;> omega
                  have hfu2 : ∀ x ∈ joinR nl ++ [joinX nl], 0 < x.s.length := fun x hx => by
                    rcases List.mem_append.1 hx with hx | hx
                    · exact hfu.out x ((join_perm h2).1.mem_iff.2 (by simp [hx]))
                    · rw [List.mem_singleton.1 hx, hjs.out, List.length_append]; omega
                  have hln2 : (joinR nl ++ [joinX nl]).length ≤ m := by rw [List.length_append, List.length_singleton]; omega
                  replace hh2 := Lib.hid hh2
                  replace hbb2 := Lib.hid hbb2
                  replace hfu2 := Lib.hid hfu2
                  replace hln2 := Lib.hid hln2
                  replace hb32 := Lib.hid hb32
                  replace hb63 := Lib.hid hb63
                  replace hjl := Lib.hid hjl
                  clear hh hbb hfu hnl
                  go_wp2_with (first | ((at_builtin; have hgd := hrepX; clear hgd; go_must (refine wpList_app1 (c := 1) eNod rfl _ _ rfl rfl sj.n rfl hrepX.out sj.x.holds hb32.out hb63.out (sj.x.below.size) ?_); intro v' w' own' gw hw' _; obtain ⟨c1, c2, st4⟩ := (sj.alloc _).put gw own'; obtain ⟨an', cn', rfl, _, _⟩ := own'.form)))
                  go_roundw
                  case rel =>
                    rw [List.length_append, List.length_singleton] at st4
                    exact ⟨m, Hc, _, _, _, st4, hh2, hln2.out, by omega, F2, hbb2, hfu2⟩
                  case measure =>
                    rw [hnlq.out]
                    have e4 := Lib.cell_of_heap (j := 0) st4.nb
                    have e5 := hjl.out
                    unfold nodLen
                    rw [List.length_append, List.length_singleton] at e4
                    simp only [e4]
                    simp
                    omega
          · have hfin := hh.out
            rw [huffGo_one _ (show nl.length ≤ 1 by omega)] at hfin
            have own := sq.o
            rw [hfin, hov.out] at own
            have ht2 : ¬ (1 : Int) < (nl.length : Int) := by omega
            have ht3 : ¬ 1 < nl.length := by omega
            have hx2 := sq.x
            replace own := Lib.hid own
            clear hfin sq F hh hbb hfu h2 hnl hnlq
            go_wp2
            go_ret
            exact ⟨_, Hq, rfl, hx2, own.out⟩
end Go.Proofs.YthcfhmebikcfpaaGreatDoor
