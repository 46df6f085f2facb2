/- The walks of math/bits.OnesCount and OnesCount64, of a set of at most four. The walk of trains.best. -/
import Derived.Test.YteijmboophnmgaaSure

namespace Go.Proofs.Yteijmboophnmgaa
open Go.RowKit

def popc (u : Nat) : Nat := (List.range 4).countP fun i => u.testBit i

set_option maxRecDepth 100000 in
set_option maxHeartbeats 4000000 in
theorem ones64_any (u : Fin 16) (w : World) : Calls Try.prog 114 #[.int .u64 (u.val : Nat)] w fun e w' => e = .returned (.int .i64 (popc u.val : Nat)) ∧ w = w' := by
  obtain ⟨x, hx⟩ : ∃ x : Int, x = ((u.val : Nat) : Int) := ⟨_, rfl⟩
  rw [← hx]
  replace hx := Lib.hid hx
  go_enter Try.func114, Try.ntmps114
  go_wp2
  go_ret
  refine ⟨?_, rfl⟩
  rw [hx.out]
  clear hx x
  refine (show Ending.returned (Value.int .i64 _) = _ from ret_int ?_)
  revert u
  decide +kernel

set_option maxRecDepth 100000 in
theorem ones_any (u : Nat) (hu : u < 16) (w : World) : Calls Try.prog 108 #[.int .u64 (u : Nat)] w fun e w' => e = .returned (.int .i64 (popc u : Nat)) ∧ w = w' := by
  go_enter Try.func108, Try.ntmps108
  go_wp2_with (first | (go_at_call 114; refine (ones64_any ⟨u, hu⟩ _).mono ?_; rintro e w' ⟨rfl, rfl⟩))
  go_ret
  exact ⟨rfl, rfl⟩

/-- How many numbers a list has, by its bits. -/
theorem popc_ub {l : List Int} (hl : ∀ x ∈ l, 0 ≤ x ∧ x ≤ 3) (hs : l.Pairwise (· < ·)) : popc (ub l) = l.length := by
  have h1 := setList_ub hl hs
  have h2 := congrArg List.length h1
  unfold setList setTo at h2
  rw [List.length_map] at h2
  unfold popc
  rw [List.countP_eq_length_filter, h2]
end Go.Proofs.Yteijmboophnmgaa

namespace Go.Proofs.Yteijmboophnmgaa
open Go.RowKit

attribute [local go_sem] Holds.drew Holds.alloc Holds.drewN WB.holds Oper.semAt_some FW_fn FW_dep FW_round

set_option maxRecDepth 100000 in
theorem cloneO_any (va : Value) (xs : List Int) (H : Snap) (w : World) (hw : Holds H w) (ha : Sl H va xs) (hl : xs.length ≤ 1000000) :
    Calls Try.prog 95 #[va] w (PostO w H 3 xs) := by
  have ha' := ha
  have heq : ∀ (w : World) (a : Option Addr) (n c n' c' : Nat), _ := fun w a n c n' c' => Go.Lib.run_eql_slice_nil (P := Try.prog) w 24 3 a n c n' c' Try.underlying24
  obtain ⟨aa, ca, rfl, ha1, ha2, ha3, h5⟩ := ha
  cases aa with
  | none =>
    have hx : xs = [] := by
      rcases h5 with h | ⟨b, o, cur, e, fr, h, _⟩
      · exact h
      · cases h
    subst hx
    go_enter Try.func95, Try.ntmps95
    go_wp2
    go_ret
    exact ⟨_, H, rfl, Ext.refl hw, Own.nil _ _ _ _⟩
  | some a =>
    clear h5
    go_enter Try.func95, Try.ntmps95
    go_wp2_with (first | ((refine wpList_appX (w0 := w) (H0 := H) eInt rfl _ _ rfl ((Ext.refl hw).alloc _) rfl (Own.emptyAt (heap_alloc_new _ _) (Nat.le_refl _) (hw.none_of_ge (Nat.le_refl _))) rfl ha' (by simp [Enc.by_]; omega) (by simp; omega) ?_; intro vB wB hownB hxB hwB hgB; rw [List.nil_append] at hownB)))
    go_ret
    exact ⟨_, H, rfl, hxB, hownB⟩

/-- 'append(v, x)' as one operation of a region, in a round. -/
theorem stepIn_appC {α : Type} [Enc α] {P : Program} {H : Snap} {base : Nat} {w : World} {t e : TypeId} {v : Value} {xs : List α} {ops : Array Oper} {o : Oper} {a : Act} {Q : Exit → Act → World → Prop} {K : Act → World → Prop} {E : Prop} {r : Option Nat} {k : Nat}
    (T : ElemT P t e α) (hgd : o.guard = none) (s y : Operand) (ho : o.op = .call { callee := .builtin .append, args := #[s, y], argTypes := #[t, t] })
    (hs : a.eval s = v) (hown : Own H base w e v xs) {x : α} {cs : List Value} {g c : Nat} (hy : a.eval y = .slice (some ⟨g, 0, none⟩) 1 c) (hx : Enc.rep H x cs) (hcs : ∀ (j : Nat) (u : Value), cs[j]? = some u → w.cell? ⟨g, j, none⟩ = some u) (hw : Holds H w) (hlen : (xs.length + 1) * Enc.by_ α ≤ 140737488355328) (h63 : xs.length + 1 ≤ 9223372036854775807) (hb : base ≤ w.heap.size)
    (h : ∀ v' w', Own H base w' e v' (xs ++ [x]) → w.grownBy w' v.ownBlock → Holds H w' → (v'.ownBlock = v.ownBlock ∨ v'.ownBlock = some w.heap.size) → K (a.put o.dst v') w') : if Region.wanted o (yielded ops a.tmps) = true then Oper.wpIn (FW r) k P o a w K Q else E := by
  obtain ⟨v', w', hr, h2, h3, h4, h5⟩ := run_appC (P := P) T o.type hown hx hcs hw hlen h63 hb c
  rw [if_pos (by simp [Region.wanted, hgd])]
  unfold Oper.wpIn
  refine ⟨fun _ _ => trivial, ?_⟩
  rw [Oper.semAt_eq _ _ _ (fun c e => by rw [ho] at e; cases e)]
  unfold execOp
  simp only [ho, resolve, invoke, builtin, Sem.run_bind, Sem.run_pure, Result.andThen_ok, List.map_toArray, List.map_cons, List.map_nil, hs, hy, hr]
  exact h v' w' h2 h3 h4 h5

/-! ### The least of the plans that have come -/

/-- After some plans: the least of the best, and how many trains are late by it. -/
def bestSpec (h : House) (pre : List (List (List Int))) (b : List (List Int)) (n : Int) : Prop :=
  (pre = [] ∧ b = [] ∧ n = (h.ts.length : Int) + 1) ∨ (pre ≠ [] ∧ b = firstBest (lateN h) pre ∧ n = (lateN h b : Nat))
theorem firstBest_snoc (f : List (List Int) → Nat) {pre : List (List (List Int))} (hp : pre ≠ []) (p : List (List Int)) : firstBest f (pre ++ [p]) = if f p < f (firstBest f pre) then p else firstBest f pre := by
  unfold firstBest
  rw [bst_append]
  have : (pre ++ [p]).getD 0 default = pre.getD 0 default := by
    cases pre with
    | nil => exact absurd rfl hp
    | cons x l => rfl
  rw [this]; rfl
theorem firstBest_one (f : List (List Int) → Nat) (p : List (List Int)) : firstBest f [p] = p := by
  unfold firstBest; simp [bst]
theorem bestSpec_step {h : House} {pre : List (List (List Int))} {b : List (List Int)} {n : Int} (s : bestSpec h pre b n) (p : List (List Int)) : bestSpec h (pre ++ [p]) (if ((lateN h p : Nat) : Int) < n then p else b) (if ((lateN h p : Nat) : Int) < n then ((lateN h p : Nat) : Int) else n) := by
  refine .inr ⟨by simp, ?_⟩
  rcases s with ⟨rfl, rfl, rfl⟩ | ⟨hne, rfl, rfl⟩
  · have := lateN_le h p
    rw [if_pos (by omega), if_pos (by omega), List.nil_append, firstBest_one]
    exact ⟨rfl, rfl⟩
  · rw [firstBest_snoc _ hne]
    by_cases e : lateN h p < lateN h (firstBest (lateN h) pre)
    · have e' : ((lateN h p : Nat) : Int) < (lateN h (firstBest (lateN h) pre) : Nat) := by omega
      simp only [if_pos e, if_pos e', and_self]
    · have e' : ¬ ((lateN h p : Nat) : Int) < (lateN h (firstBest (lateN h) pre) : Nat) := by omega
      simp only [if_neg e, if_neg e', and_self]
theorem bst_zero {f : List (List Int) → Nat} {b : List (List Int)} (hb : f b = 0) : ∀ (r : List (List (List Int))), bst f r b = b
  | [] => rfl
  | y :: r => by simp only [bst]; rw [if_neg (by omega)]; exact bst_zero hb r
theorem firstBest_stop {f : List (List Int) → Nat} {pre xs : List (List (List Int))} (hp : pre <+: xs) (hne : pre ≠ []) (hz : f (firstBest f pre) = 0) : firstBest f xs = firstBest f pre := by
  obtain ⟨r, rfl⟩ := hp
  unfold firstBest at hz ⊢
  rw [bst_append]
  have : (pre ++ r).getD 0 default = pre.getD 0 default := by
    cases pre with
    | nil => exact absurd rfl hne
    | cons x l => rfl
  rw [this]
  exact bst_zero hz r

/-! ### What the caller holds -/

/-- Frozen rows of the caller's own, apart from what the iterator holds. -/
structure Mine (base : Nat) (Hc Hj : Snap) (W : World) : Prop where
  holds : Holds Hj W
  own : ∀ b o, Hj b = some o → o.isCells = true ∧ Hc b = none ∧ base ≤ b

def BestS (base BB NB : Nat) (Hc : Snap) (W : World) (b : List (List Int)) (n : Int) : Prop :=
  ∃ Hj v, Cell Hc W base BB 63 v ∧ Cell Hc W base NB 3 (.int .i64 n) ∧ Mine base Hc Hj W ∧ Hj BB = none ∧ Hj NB = none ∧ Own Hj base W 24 v b ∧ (∀ g, v.ownBlock = some g → Hc g = none)

theorem Mine.turn {base n0 : Nat} {Hc Hc' Hj : Snap} {W W' : World} (m : Mine base Hc Hj W) (ht : Turn n0 W Hc W' Hc') : Mine base Hc' Hj W' := by
  have key : ∀ b o, Hj b = some o → W'.heap[b]? = some o ∧ Hc' b = none := fun b o e => by
    obtain ⟨hc, hn, _⟩ := m.own b o e
    have hb := m.holds.at_ b o e
    cases o with
    | cells cs t fr => exact ht.keep b cs t fr hb hn
    | _ => cases hc
  exact ⟨⟨fun b o e => (key b o e).1⟩, fun b o e => ⟨(m.own b o e).1, (key b o e).2, (m.own b o e).2.2⟩⟩
theorem Own.turn {α : Type} [Enc α] {n0 base : Nat} {Hc Hc' Hj : Snap} {W W' : World} {e : TypeId} {v : Value} {xs : List α} (h : Own Hj base W e v xs) (hn : ∀ g, v.ownBlock = some g → Hc g = none) (ht : Turn n0 W Hc W' Hc') :
    Own Hj base W' e v xs ∧ (∀ g, v.ownBlock = some g → Hc' g = none) := by
  obtain ⟨cells, ⟨hl, ho⟩, hr, hf, hb⟩ := h
  rcases ho with ⟨rfl, hz⟩ | ⟨g, cap, cur, rfl, hbg, hg, rest⟩
  · exact ⟨⟨cells, ⟨hl, .inl ⟨rfl, hz⟩⟩, hr, hf, hb⟩, fun g e => by cases e⟩
  · obtain ⟨h1, h2⟩ := ht.keep g cur e _ hg (hn g rfl)
    exact ⟨⟨cells, ⟨hl, .inr ⟨g, cap, cur, rfl, hbg, h1, rest⟩⟩, hr, hf, hb⟩, fun g' e => by cases e; exact h2⟩
theorem BestS.turn {base BB NB n0 : Nat} {Hc Hc' : Snap} {W W' : World} {b : List (List Int)} {n : Int} (s : BestS base BB NB Hc W b n) (ht : Turn n0 W Hc W' Hc') : BestS base BB NB Hc' W' b n := by
  obtain ⟨Hj, v, c1, c2, m, n1, n2, ho, hn⟩ := s
  obtain ⟨ho', hn'⟩ := ho.turn hn ht
  exact ⟨Hj, v, c1.turn ht, c2.turn ht, m.turn ht, n1, n2, ho', hn'⟩

theorem Own.type_ne {α : Type} [Enc α] {Hj Hc : Snap} {base base' B : Nat} {W : World} {e t : TypeId} {v u : Value} {xs : List α} (h : Own Hj base W e v xs) (c : Cell Hc W base' B t u) (ne : e ≠ t) : v.ownBlock ≠ some B := by
  intro hv
  obtain ⟨cur, h1⟩ := h.row_type hv
  rw [c.at_] at h1
  simp only [Option.some.injEq, Obj.cells.injEq] at h1
  exact ne h1.2.1.symm
theorem Own.snapMono {α : Type} [Enc α] {H H' : Snap} {base : Nat} {W : World} {e : TypeId} {v : Value} {xs : List α} (h : Own H base W e v xs) (hle : SLe H H') (hn : ∀ k, v.ownBlock = some k → H' k = none) : Own H' base W e v xs := by
  obtain ⟨cells, ho, hr, _, hb⟩ := h
  exact ⟨cells, ho, hr.mono hle, hn, hb⟩
theorem Own.intSnap {H H' : Snap} {base : Nat} {W : World} {e : TypeId} {v : Value} {xs : List Int} (h : Own H base W e v xs) (hn : ∀ k, v.ownBlock = some k → H' k = none) : Own H' base W e v xs := by
  obtain ⟨cells, ho, hr, _, hb⟩ := h
  exact ⟨cells, ho, reps_int.2 (reps_int.1 hr), hn, hb⟩
theorem Mine.below {base : Nat} {Hc Hj : Snap} {W W' : World} (m : Mine base Hc Hj W) (hb : Below W.heap.size W W') : Mine base Hc Hj W' := ⟨m.holds.below hb, m.own⟩
theorem Mine.empty (base : Nat) (Hc : Snap) (W : World) : Mine base Hc (fun _ => none) W := ⟨⟨fun _ _ h => by cases h⟩, fun _ _ h => by cases h⟩
/-- A fresh row is frozen. -/
theorem Mine.row {base : Nat} {Hc Hj H' : Snap} {W0 W : World} {e : TypeId} {v : Value} {xs : List Int} (m : Mine base Hc Hj W) (hj0 : Holds Hj W0) (hc0 : Holds Hc W0) (h : Own H' W0.heap.size W e v xs) (hbase : base ≤ W0.heap.size) :
    ∃ Hj', SLe Hj Hj' ∧ Mine base Hc Hj' W ∧ Sl Hj' v xs ∧ ∀ b, b < W0.heap.size → Hj' b = Hj b := by
  have h1 : Own Hj W0.heap.size W e v xs := h.intSnap (fun k hk => hj0.none_of_ge (h.lt k hk).1)
  obtain ⟨Hj', hle, hh, hs, hsame⟩ := h1.freeze m.holds
  refine ⟨Hj', hle, ⟨hh, fun b o eb => ?_⟩, hs, fun b hb => hsame b (fun e => by have := (h.lt b e).1; omega)⟩
  by_cases hv : v.ownBlock = some b
  · obtain ⟨cur, hr⟩ := h1.row_type hv
    have := hh.at_ b o eb
    rw [hr] at this
    cases this
    have hlt := (h.lt b hv).1
    exact ⟨rfl, hc0.none_of_ge hlt, by omega⟩
  · rw [hsame b hv] at eb; exact m.own b o eb
/-- What the caller hands back. -/
theorem Mine.finish {w W : World} {H Hc Hj : Snap} {e : TypeId} {v : Value} {xs : List (List Int)} (hw : Holds H w) (hB : Below w.heap.size w W) (m : Mine w.heap.size Hc Hj W) (h : Own Hj w.heap.size W e v xs) : ∃ H', Ext w H W H' ∧ Sl H' v xs := by
  obtain ⟨H2, hle, hh, hs, hsame⟩ := h.freeze m.holds
  have hge : ∀ b o, H2 b = some o → w.heap.size ≤ b := fun b o eb => by
    by_cases hv : v.ownBlock = some b
    · exact (h.lt b hv).1
    · rw [hsame b hv] at eb; exact (m.own b o eb).2.2
  refine ⟨fun b => if b < w.heap.size then H b else H2 b, ⟨hB, ⟨fun b o eb => ?_⟩, fun b hb => if_pos hb⟩, hs.mono fun b o eb => ?_⟩
  · by_cases hb : b < w.heap.size
    · rw [if_pos hb] at eb; exact (hB.block b hb).trans (hw.at_ _ _ eb)
    · rw [if_neg hb] at eb; exact hh.at_ _ _ eb
  · rw [if_neg (by have := hge b o eb; omega)]; exact eb
theorem Mine.setCell {base : Nat} {Hc Hj : Snap} {W : World} (m : Mine base Hc Hj W) {a : Addr} (ha : Hj a.block = none) (u : Value) : Mine base Hc Hj (W.setCell a u) := ⟨m.holds.setCell ha u, m.own⟩
theorem Mine.grown {base : Nat} {Hc Hj : Snap} {W W' : World} {row : Option Nat} (m : Mine base Hc Hj W) (hg : W.grownBy W' row) (hr : ∀ k, row = some k → Hj k = none) : Mine base Hc Hj W' := ⟨m.holds.grown hg hr, m.own⟩
theorem Mine.putD {base D : Nat} {Hc Hj : Snap} {W : World} {o o' : Obj} (m : Mine base Hc Hj W) (hD : W.heap[D]? = some o) (hc : o.isCells = false) : Mine base Hc Hj (W.putObj D o') :=
  ⟨⟨fun b ob eb => (World.putObj_heap_other (by rintro rfl; have h1 := m.holds.at_ _ _ eb; rw [hD] at h1; cases h1; have := (m.own _ _ eb).1; rw [hc] at this; cases this)).trans (m.holds.at_ _ _ eb)⟩, m.own⟩
theorem Own.putD {α : Type} [Enc α] {H : Snap} {base D : Nat} {W : World} {e : TypeId} {v : Value} {xs : List α} {o o' : Obj} (h : Own H base W e v xs) (hD : W.heap[D]? = some o) (hc : o.isCells = false) : Own H base (W.putObj D o') e v xs := by
  obtain ⟨cells, ⟨hl, ho⟩, rest⟩ := h
  refine ⟨cells, ⟨hl, ?_⟩, rest⟩
  rcases ho with hn | ⟨g, cap, cur, rfl, hbg, hg, r⟩
  · exact .inl hn
  · refine .inr ⟨g, cap, cur, rfl, hbg, (World.putObj_heap_other ?_).trans hg, r⟩
    rintro rfl; rw [hD] at hg; cases hg; cases hc
theorem results_cell2 {P : Program} {fn : Func} {p q : Tmp} {ty tz : TypeId} (h : fn.results = #[.cell p ty, .cell q tz]) (tmps : Array Value) (w : World) (g k : Nat) (v u : Value) (hp : tmps.getD p undef = .pointer (some ⟨g, 0, none⟩)) (hq : tmps.getD q undef = .pointer (some ⟨k, 0, none⟩)) (hc : w.cell? ⟨g, 0, none⟩ = some v) (hd : w.cell? ⟨k, 0, none⟩ = some u)
    (hna : (isAgg ty).run P w = .ok false w) (hnb : (isAgg tz).run P w = .ok false w) : (results fn tmps).run P w = .ok (.tuple #[v, u]) w := by
  have hp' : tmps[p]?.getD undef = .pointer (some ⟨g, 0, none⟩) := by simpa using hp
  have hq' : tmps[q]?.getD undef = .pointer (some ⟨k, 0, none⟩) := by simpa using hq
  simp [results, h, hp', hq', asAddr, loadVar, Sem.run_bind, hna, hnb, go_sem, hc, hd]

end Go.Proofs.Yteijmboophnmgaa
