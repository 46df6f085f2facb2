/- Lemmas and walks on which the claims of this seat lean: Iter2 Data. -/
import Derived.Test.YtngdppajailpcaaGreatG01
import Derived.StillTail
import Derived.OrdersIn
import Derived.RangeFuncCalls
import Derived.RangeFuncNested
import Derived.RangeFuncBound
import Derived.RangeFuncLeaves
import Derived.Shelf.Abstract
import Derived.Shelf.RegionOpen
import Derived.OwnWalkIn
import Derived.TacticsInMore
import Derived.LoopNIn
import Derived.LoopIn
import Derived.Test.YtngdppajailpcaaGreatProg

set_option linter.all false

namespace Go.Proofs.YtngdppajailpcaaGreat
open Go.RowKit

/-- The fence that lets all in, in a round or not. -/
def FW (r : Option Nat) : Fence := { fn := fun _ => True, depth := none, alive := false, round := r }
theorem FW_none : FW none = Fence.wide := rfl
theorem FW_some (l : Nat) : FW (some l) = Fence.wide.inRound l := rfl
theorem Calls.wide {r : Option Nat} {n : Nat} {P : Program} {f : FuncId} {args : Array Value} {w : World} {R : Ending → World → Prop} (h : Calls P f args w R) : CallsIn (FW r) n P f args w R :=
  (callsIn_wide (n := n)).2 h
theorem FW_depth {r : Option Nat} {n : Nat} : (FW r).depth.isSome = true → 1 ≤ n := fun h => by cases h

section
variable {P : Program} {ops : Array Oper} {md : Region.Mode} {C : World → Prop} {r : Option Nat} {k : Nat}

/-- No 'defer' among the operations. -/
def noDefer (ops : Array Oper) : Bool := ops.toList.all fun o => match o.op with | .defer _ => false | _ => true
theorem noDefer_spec (h : noDefer ops = true) {i : Nat} {o : Oper} (hi : ops[i]? = some o) (c : Call) : o.op ≠ .defer c := by
  intro e
  have := List.all_eq_true.1 h o (by simpa using Array.mem_of_getElem? hi)
  rw [e] at this; cases this

theorem wpIn_of_quietF {o : Oper} {a : Act} {K : Act → Prop} {K' : Act → World → Prop} {Q' : Exit → Act → World → Prop} {w : World} (hnd : ∀ c, o.op ≠ .defer c) (hw : C w) (h : ∀ a w', C w' → K a → K' a w')
    (hh : o.quiet P a C K) : o.wpIn (FW r) k P a w K' Q' := by
  obtain ⟨v, h1, h2⟩ := hh
  have h3 := h1 w hw
  unfold Oper.quietAt at h3
  unfold Oper.wpIn
  refine ⟨fun _ _ => trivial, ?_⟩
  rw [Oper.semAt_eq _ _ _ hnd]
  generalize (execOp a.eval o).run P w = res at *
  cases res with
  | ok x w' =>
    cases x <;> simp only [Oper.quietUpon] at h3 <;> simp only [Oper.uponIn]
    case value u => obtain ⟨e1, e2⟩ := h3; rw [e1, e2]; exact h _ _ hw h2
    case skip => obtain ⟨e1, e2⟩ := h3; rw [e1, ← e2]; exact h _ _ hw h2
    case enter f args =>
      obtain ⟨e1, hc⟩ := h3
      rw [e1]
      exact ⟨FW_depth, (Calls.wide hc).mono fun e w'' ⟨he, hw''⟩ => by subst he; exact h _ _ hw'' h2⟩
  | halt x w' => simp only [Oper.quietUpon] at h3

theorem wpOpIn_of_qOpF {i : Nat} {a : Act} {K : Act → Prop} {K' : Act → World → Prop} {Q' : Exit → Act → World → Prop} {w : World} (hnd : noDefer ops = true) (hC : C w) (h : ∀ a w', C w' → K a → K' a w')
    (hh : qOp P ops C i K a) : wpOpIn (FW r) k P ops Q' i K' a w := by
  unfold qOp at hh
  unfold wpOpIn
  split
  · rename_i ho; simp only [ho] at hh; exact h _ _ hC hh
  · rename_i o ho
    simp only [ho] at hh
    split
    · rename_i hw; simp only [hw, if_true] at hh; exact wpIn_of_quietF (noDefer_spec hnd ho) hC h hh
    · rename_i hw; simp only [hw] at hh; exact ⟨fun _ _ => trivial, h _ _ hC hh⟩

/-- All operations are quiet. -/
theorem wpAnyIn_of_wpAnyQ {Q : Act → Prop} {Q' : Exit → Act → World → Prop} (hnd : noDefer ops = true) (hQ : ∀ a w, C w → Q a → Q' .normal a w) : ∀ (fuel : Nat) (listed : Array Bool) (a : Act) (w : World), C w →
    wpAnyQ P md ops C Q fuel listed a → wpAnyIn (FW r) k P md ops Q' fuel listed a w
  | 0, _, _, _, hw, h => ⟨h.1, hQ _ _ hw h.2⟩
  | fuel + 1, _, _, _, hw, h => ⟨fun h0 => hQ _ _ hw (h.1 h0), fun i hi => wpOpIn_of_qOpF hnd hw (fun a' w' hw' => wpAnyIn_of_wpAnyQ hnd hQ fuel _ a' w' hw') (h.2 i hi)⟩

theorem wpIn_region_q {id : Nat} {Q : Exit → Act → World → Prop} {a : Act} {w : World} {l : List Oper} (hm : P.follows .mixedOrders = true) (hB : Region.lexB .any l.toArray = true) (hnd : noDefer l.toArray = true) (hC : C w.drew)
    (h : wpQuiet P l.toArray C (fun a' => ∀ w', C w' → Q .normal a' w') l a) : (Code.region id l.toArray true).wpIn (FW r) k P Q a w := by
  simp only [Region.lexB, Bool.and_eq_true] at hB
  refine wpIn_region_any hm (wpAnyIn_of_wpAnyQ (Q := fun a' => ∀ w', C w' → Q .normal a' w') hnd (fun _ w' hw' h => h w' hw') _ _ _ _ hC ?_)
  have := wpAnyQ_lex (C := C) (md := .any) hB.1 l 0 (Array.replicate l.toArray.size false) a (by simp) (by simpa using hB.2) h
  simpa using this

/-! #### A head that is quiet, and a tail in the text's order -/

/-- Whatever order the first n come up in; then L. -/
def hdQ (P : Program) (md : Region.Mode) (ops : Array Oper) (C : World → Prop) (n : Nat) (L : Array Bool → Act → Prop) : Nat → Array Bool → Act → Prop
  | 0, listed, a => L listed a
  | f + 1, listed, a => Region.ready md ops listed ≠ [] ∧ ∀ i ∈ Region.ready md ops listed, i < n ∧ qOp P ops C i (hdQ P md ops C n L f (listed.setIfInBounds i true)) a

theorem wpAnyIn_of_hdQ {n g : Nat} {L : Array Bool → Act → Prop} {Q' : Exit → Act → World → Prop} (hnd : noDefer ops = true) (hL : ∀ listed a w, C w → L listed a → wpAnyIn (FW r) k P md ops Q' g listed a w) :
    ∀ (f : Nat) (listed : Array Bool) (a : Act) (w : World), C w → hdQ P md ops C n L f listed a → wpAnyIn (FW r) k P md ops Q' (f + g) listed a w
  | 0, listed, a, w, hC, h => by rw [Nat.zero_add]; exact hL _ _ _ hC h
  | f + 1, listed, a, w, hC, h => by
    rw [show f + 1 + g = (f + g) + 1 by omega]
    exact ⟨fun h0 => absurd h0 h.1, fun i hi => wpOpIn_of_qOpF hnd hC (fun a' w' hw' h' => wpAnyIn_of_hdQ hnd hL f _ a' w' hw' h') (h.2 i hi).2⟩

theorem hdQ_first {n i : Nat} {oi : Oper} {v : Value} {L : Array Bool → Act → Prop} (hi : ops[i]? = some oi) (hsel : ∀ (j : Nat) (o : Oper) cs b, ops[j]? = some o → o.op ≠ .select cs b)
    (hs : Region.sinkB md ops n = true) (hc : Region.chainB md ops n = true) (hn : n < ops.size) (hin : i < n) (hdone : ∀ listed a, L listed a → ∀ j ∈ Region.ready md ops listed, n ≤ j) :
    ∀ (f : Nat) (listed : Array Bool) (a : Act), HeadInv md ops n listed →
      (∀ j oj, ops[j]? = some oj → j ≠ i → listed.getD j true = false → (∀ e ∈ oj.after, Region.binds md e = true → e.on ≠ i) → oi.apart ops oj = true) →
      i ∈ Region.ready md ops listed → YieldsIn P ops C oi v a →
      hdQ P md ops C n L f (listed.setIfInBounds i true) (a.put oi.dst v) → hdQ P md ops C n L (f + 1) listed a := by
  intro f
  induction f with
  | zero =>
    intro listed a inv _ hr hy H
    have hun := (mem_ready.1 hr).1
    refine ⟨fun h => (by rw [h] at hr; cases hr), fun j hj => ?_⟩
    have hjn : j < n := Nat.lt_of_not_le fun h => tail_waits hs hc hn inv _ i rfl hin hun j h hj
    refine ⟨hjn, ?_⟩
    by_cases hji : j = i
    · subst hji; exact hy.qOp hi H
    · have := hdone _ _ H j (ready_mono hj hji); omega
  | succ f ih =>
    intro listed a inv hfree hr hy H
    have hun := (mem_ready.1 hr).1
    refine ⟨fun h => (by rw [h] at hr; cases hr), fun j hj => ?_⟩
    have hjn : j < n := Nat.lt_of_not_le fun h => tail_waits hs hc hn inv _ i rfl hin hun j h hj
    refine ⟨hjn, ?_⟩
    by_cases hji : j = i
    · subst hji; exact hy.qOp hi H
    · obtain ⟨hjun, oj, hoj, hall⟩ := mem_ready.1 hj
      have hnot : ∀ e ∈ oj.after, Region.binds md e = true → e.on ≠ i := fun e he hb heq => by
        have := hall e he hb
        rw [heq, getD_both hun] at this; cases this
      have h2 := qOp_put hoj (hfree j oj hoj hji hjun hnot) (fun cs b => hsel i oi cs b hi) (fun cs b => hsel j oj cs b hoj) hy (H.2 j (ready_mono hj hji)).2
      refine qOp_mono (fun a' h3 => ih (listed.setIfInBounds j true) a' (inv.set hj hjn) (fun q oq hq hqi hqun hno => hfree q oq hq hqi ?_ hno) (ready_mono hr (Ne.symm hji)) h3.1 ?_) h2
      · by_cases hjq : j = q
        · subst hjq; exact hjun
        · rw [getD_set_ne true hjq] at hqun; exact hqun
      · rw [Array.setIfInBounds_comm _ _ hji]; exact h3.2

theorem hdQ_lex {n g : Nat} {Lq : Act → Prop} (hsel : Region.noSelect ops = true) (hs : Region.sinkB md ops n = true) (hc : Region.chainB md ops n = true) (hn : n < ops.size) :
    ∀ (l : List Oper) (j : Nat) (listed : Array Bool) (a : Act), (∀ i, i < l.length → l[i]? = ops[j + i]?) → j + l.length = n → HeadInv md ops n listed →
    Region.lexHead md ops g l.length j listed = true → wpQuiet P ops C Lq l a →
    hdQ P md ops C n (fun listed' a' => Region.seqB md ops g n listed' = true ∧ Lq a') l.length listed a
  | [], j, listed, a, _, hk, _, hB, h => by
    have : j = n := by simpa using hk
    subst this
    exact ⟨by simpa [Region.lexHead] using hB, h⟩
  | o :: l, j, listed, a, hl, hk, inv, hB, h => by
    have h0 : ops[j]? = some o := by simpa using (hl 0 (by simp)).symm
    simp only [List.length_cons, Region.lexHead, Bool.and_eq_true] at hB hk
    obtain ⟨⟨hr, hf⟩, hB'⟩ := hB
    have hkn : j < n := by omega
    have hr' : j ∈ Region.ready md ops listed := by simpa using hr
    obtain ⟨v, hy, hK⟩ := yieldsIn_of_qOp (C := C) (K := wpQuiet P ops C Lq l) h0 (by unfold qOp; simp only [h0]; exact h)
    exact hdQ_first h0 (Region.noSelect_spec hsel) hs hc hn hkn (fun listed' a' hL => seqB_ready hL.1) l.length listed a inv (Region.free_spec h0 hf) hr' hy
      (hdQ_lex hsel hs hc hn l (j + 1) _ _ (fun i hi => by have := hl (i + 1) (by simp; omega); simpa [Nat.add_assoc, Nat.add_comm 1 i] using this) (by omega) (inv.set hr' hkn) hB' hK)

theorem wpAnyIn_of_seq {Q' : Exit → Act → World → Prop} : ∀ (l : List Oper) (j : Nat) (listed : Array Bool) (a : Act) (w : World), (∀ i, l[i]? = ops[j + i]?) →
    Region.seqB md ops l.length j listed = true → wpListIn (FW r) k P ops Q' l a w → wpAnyIn (FW r) k P md ops Q' l.length listed a w
  | [], _, _, _, _, _, hB, h => ⟨by simpa [Region.seqB] using hB, h⟩
  | o :: l, j, listed, a, w, hl, hB, h => by
    have h0 : ops[j]? = some o := by simpa using (hl 0).symm
    simp only [List.length_cons, Region.seqB, Bool.and_eq_true, decide_eq_true_eq] at hB
    refine ⟨fun h1 => (by rw [hB.1] at h1; cases h1), fun i hi => ?_⟩
    rw [hB.1] at hi
    obtain rfl : i = j := by simpa using hi
    have hw : wpOpIn (FW r) k P ops Q' i (wpListIn (FW r) k P ops Q' l) a w := by unfold wpOpIn; simp only [h0]; exact h
    exact wpOpIn_mono (fun a' w' h' => wpAnyIn_of_seq l (i + 1) _ a' w' (fun q => by have := hl (q + 1); simpa [Nat.add_assoc, Nat.add_comm 1 q] using this) hB.2 h') hw

theorem wpIn_region_qtail {id : Nat} {Q : Exit → Act → World → Prop} {a : Act} {w : World} {l : List Oper} (n : Nat) (hm : P.follows .mixedOrders = true) (hB : Region.lexTailB .any l.toArray n = true) (hnd : noDefer l.toArray = true) (hC : C w.drew)
    (h : wpQuiet P l.toArray C (fun a' => ∀ w', C w' → wpListIn (FW r) k P l.toArray Q (l.drop n) a' w') (l.take n) a) : (Code.region id l.toArray true).wpIn (FW r) k P Q a w := by
  simp only [Region.lexTailB, Bool.and_eq_true, decide_eq_true_eq] at hB
  obtain ⟨⟨⟨⟨hsel, hn⟩, hs⟩, hc⟩, hlex⟩ := hB
  have hn' : n < l.length := by simpa using hn
  have htl : (l.take n).length = n := by simp; omega
  have hdl : (l.drop n).length = l.toArray.size - n := by simp
  have inv0 : HeadInv .any l.toArray n (Array.replicate l.toArray.size false) :=
    ⟨by simp, fun j oj _ hl => (by rw [getD_replicate_false] at hl; cases hl), fun t _ ht => getD_in (by simpa using ht) (getD_replicate_false _ _)⟩
  have H := hdQ_lex (md := .any) (g := l.toArray.size - n) hsel hs hc hn (l.take n) 0 _ a (fun j hj => by
    have hj' : j < n := by rw [htl] at hj; exact hj
    simp [hj']) (by simpa using htl) inv0 (by rw [htl]; exact hlex) h
  refine wpIn_region_any hm ?_
  have := wpAnyIn_of_hdQ (r := r) (k := k) (Q' := Q) (g := l.toArray.size - n) hnd (fun listed a' w' hC' hL => by
    have := wpAnyIn_of_seq (r := r) (k := k) (md := .any) (Q' := Q) (l.drop n) n listed a' w' (fun j => by simp [List.getElem?_drop]) (by rw [hdl]; exact hL.1) (hL.2 w' hC')
    rwa [hdl] at this) _ _ _ w.drew hC H
  rw [htl, show n + (l.toArray.size - n) = l.toArray.size by omega] at this
  exact this
end

end Go.Proofs.YtngdppajailpcaaGreat

namespace Go.Proofs.YtngdppajailpcaaGreat
open Go.RowKit

/-- From (W, H) to (W', H'): what H holds, from block n0 on, may turn (and what is no cells); cells that H does not hold lie as they lay, and are not taken in; below n0 nothing turns. -/
structure Turn (n0 : Nat) (W : World) (H : Snap) (W' : World) (H' : Snap) : Prop where
  below : Below n0 W W'
  keep : ∀ b cs t fr, W.heap[b]? = some (.cells cs t fr) → H b = none → W'.heap[b]? = some (.cells cs t fr) ∧ H' b = none
  same : ∀ b, b < n0 → H' b = H b
  holds : Holds H' W'

theorem Turn.refl {n0 : Nat} {W : World} {H : Snap} (h : Holds H W) : Turn n0 W H W H := ⟨Below.refl _ _, fun _ _ _ _ e h => ⟨e, h⟩, fun _ _ => rfl, h⟩
theorem Turn.trans {n0 : Nat} {A B C : World} {H H' H'' : Snap} (h : Turn n0 A H B H') (k : Turn n0 B H' C H'') : Turn n0 A H C H'' :=
  ⟨h.below.trans k.below, fun b cs t fr e hn => let ⟨e1, h1⟩ := h.keep b cs t fr e hn; k.keep b cs t fr e1 h1, fun b hb => (k.same b hb).trans (h.same b hb), k.holds⟩
theorem Turn.mono {n0 n1 : Nat} {W W' : World} {H H' : Snap} (h : Turn n1 W H W' H') (hn : n0 ≤ n1) : Turn n0 W H W' H' :=
  ⟨h.below.mono hn, h.keep, fun b hb => h.same b (Nat.lt_of_lt_of_le hb hn), h.holds⟩
theorem Turn.drew {n0 : Nat} {W W' : World} {H H' : Snap} (h : Turn n0 W H W' H') : Turn n0 W H W'.drew H' := ⟨h.below.drew, h.keep, h.same, h.holds.drew⟩
/-- A step that leaves all that was there; the snapshot stays. -/
theorem Turn.ext {n0 : Nat} {W W' : World} {H : Snap} (h : Holds H W) (hb : Below W.heap.size W W') (hn : n0 ≤ W.heap.size) : Turn n0 W H W' H :=
  ⟨hb.mono hn, fun b _cs _t _fr e hh => ⟨(hb.block b (Array.getElem?_eq_some_iff.1 e).1).trans e, hh⟩, fun _ _ => rfl, h.below hb⟩
/-- One block turns: it is H's, or new. -/
theorem Turn.at {n0 b : Nat} {W W' : World} {H : Snap} {o : Obj} (h : Holds H W) (hn : n0 ≤ b) (hin : H b ≠ none ∨ W.heap.size ≤ b ∨ ∃ o' : Obj, W.heap[b]? = some o' ∧ o'.isCells = false)
    (hB : Below n0 W W') (hoth : ∀ k, k < W.heap.size → k ≠ b → W'.heap[k]? = W.heap[k]?) (hat : W'.heap[b]? = some o) : Turn n0 W H W' (H.put b o) := by
  refine ⟨hB, fun k cs t fr e hk => ?_, fun k hk => Snap.put_other _ _ (by omega), ⟨fun k o' ek => ?_⟩⟩
  · have hlt := (Array.getElem?_eq_some_iff.1 e).1
    have hne : k ≠ b := by
      rintro rfl
      rcases hin with hin | hin | ⟨o', ho, hc⟩
      · exact hin hk
      · omega
      · rw [e] at ho; cases ho; cases hc
    exact ⟨(hoth k hlt hne).trans e, by rw [Snap.put_other _ _ hne]; exact hk⟩
  · by_cases hkb : k = b
    · subst hkb; rw [Snap.put_same] at ek; cases ek; exact hat
    · rw [Snap.put_other _ _ hkb] at ek
      exact (hoth k (h.lt ek) hkb).trans (h.at_ _ _ ek)

/-- The caller's word bears the turns of a function that began at n0. -/
def Abides {β : Type} (n0 : Nat) (J : Snap → β → World → Prop) : Prop := ∀ H s W H' W', J H s W → Holds H W → Turn n0 W H W' H' → J H' s W'

theorem Abides.mono {β : Type} {n0 n1 : Nat} {J : Snap → β → World → Prop} (h : Abides n0 J) (hn : n0 ≤ n1) : Abides n1 J := fun H s W H' W' hj hh ht => h H s W H' W' hj hh (ht.mono hn)
theorem Abides.and {β : Type} {n0 : Nat} {J K : Snap → β → World → Prop} (h : Abides n0 J) (k : Abides n0 K) : Abides n0 (fun H s W => J H s W ∧ K H s W) := fun H s W H' W' hj hh ht => ⟨h H s W H' W' hj.1 hh ht, k H s W H' W' hj.2 hh ht⟩
theorem Abides.pure {β : Type} {n0 : Nat} (p : β → Prop) : Abides n0 (fun _ (s : β) _ => p s) := fun _ _ _ _ _ hj _ _ => hj
theorem Turn.of_ext {n0 : Nat} {w0 W W' : World} {H0 H H' : Snap} (h : Ext w0 H0 W H) (ht : Turn n0 W H W' H') (hn : w0.heap.size ≤ n0) : Ext w0 H0 W' H' :=
  ⟨h.below.trans (ht.below.mono hn), ht.holds, fun b hb => (ht.same b (by omega)).trans (h.same b hb)⟩

/-- A variable of the call's own, of one cell. -/
structure Cell (H : Snap) (W : World) (base B : Nat) (t : TypeId) (v : Value) : Prop where
  at_ : W.heap[B]? = some (.cells #[v] t (0, 0))
  free : H B = none
  base : base ≤ B
section
variable {H H' : Snap} {W W' : World} {base B n0 : Nat} {t : TypeId} {v : Value}
theorem Cell.lt (h : Cell H W base B t v) : B < W.heap.size := (Array.getElem?_eq_some_iff.1 h.at_).1
theorem Cell.cell (h : Cell H W base B t v) : W.cell? ⟨B, 0, none⟩ = some v := by simp [World.cell?, h.at_]
theorem Cell.fz (h : Cell H W base B t v) : W.frozen? ⟨B, 0, none⟩ = false := by simp [World.frozen?, h.at_]
theorem Cell.turn (h : Cell H W base B t v) (ht : Turn n0 W H W' H') : Cell H' W' base B t v :=
  let ⟨e, hn⟩ := ht.keep _ _ _ _ h.at_ h.free; ⟨e, hn, h.base⟩
theorem Cell.set (h : Cell H W base B t v) (u : Value) : Cell H (W.setCell ⟨B, 0, none⟩ u) base B t u :=
  ⟨by have := heap_setCell_row (i := 0) h.at_ u; simpa using this, h.free, h.base⟩
theorem Cell.other (h : Cell H W base B t v) {a : Addr} (ha : a.block ≠ B) (u : Value) : Cell H (W.setCell a u) base B t v :=
  ⟨(Below.heap_setCell _ _ _ _ (Ne.symm ha)).trans h.at_, h.free, h.base⟩
theorem Cell.drew (h : Cell H W base B t v) : Cell H W.drew base B t v := ⟨h.at_, h.free, h.base⟩
theorem Cell.alloc (h : Cell H W base B t v) (o : Obj) : Cell H (W.alloc o) base B t v := ⟨(heap_alloc_old W o h.lt).trans h.at_, h.free, h.base⟩
theorem Cell.below (h : Cell H W base B t v) (hb : Below W.heap.size W W') : Cell H W' base B t v := ⟨(hb.block _ h.lt).trans h.at_, h.free, h.base⟩
theorem Cell.snap (h : Cell H W base B t v) (hn : H' B = none) : Cell H' W base B t v := ⟨h.at_, hn, h.base⟩
theorem Cell.snapPut (h : Cell H W base B t v) {b : Nat} {o : Obj} (hb : W.heap.size ≤ b) : Cell (H.put b o) W base B t v := ⟨h.at_, by rw [Snap.put_other _ _ (by have := h.lt; omega)]; exact h.free, h.base⟩
theorem Cell.new (hw : Holds H W) (hb : base ≤ W.heap.size) (hB : B = W.heap.size) (v : Value) : Cell H (W.alloc (.cells #[v] t)) base B t v := by
  subst hB
  exact ⟨heap_alloc_new _ _, hw.none_of_ge (Nat.le_refl _), hb⟩
end
theorem Cell.abides {β : Type} {n0 base B : Nat} {t : TypeId} (f : β → Value) : Abides n0 (fun H (s : β) W => Cell H W base B t (f s)) := fun _ _ _ _ _ h _ ht => h.turn ht
theorem Ext.abides {β : Type} {n0 : Nat} {w0 : World} {H0 : Snap} (hn : w0.heap.size ≤ n0) : Abides n0 (fun H (_ : β) W => Ext w0 H0 W H) := fun _ _ _ _ _ h _ ht => ht.of_ext h hn

/-- THE CONTRACT of a function value that is ranged over: it hands on the elements of xs, in order. -/
def Iter {α : Type} (P : Program) (gf : FuncId) (lb : Array Value) (enc : Snap → α → Array Value → Prop) (xs : List α) (w : World) (H : Snap) : Prop :=
  ∀ (l : Nat) (J Jx : Snap → List α → World → Prop) (W : World) (HW : Snap), Ext w H W HW → Abides W.heap.size J → Abides W.heap.size Jx →
    (∀ Hc pre x W1 args m, Holds Hc W1 → SLe HW Hc → J Hc pre W1 → enc Hc x args → pre ++ [x] <+: xs →
      YieldAt (FW none) m P l args W1 fun e W' => Holds Hc W' ∧ W.heap.size ≤ W'.heap.size ∧ ((e = .returned (.bool true) ∧ J Hc (pre ++ [x]) W') ∨ (e = .returned (.bool false) ∧ Jx Hc (pre ++ [x]) W'))) →
    J HW [] W →
    Calls P gf (#[.func (.yield l) #[] #[]] ++ lb) W fun e W' => (∃ v, e = .returned v) ∧ ∃ Hc, Holds Hc W' ∧ SLe HW Hc ∧ (J Hc xs W' ∨ ∃ pre, pre <+: xs ∧ Jx Hc pre W')

/-- How the body of a round may be left. -/
def roundP {α : Type} (J : Snap → List α → World → Prop) (Jx : Code → Snap → List α → World → Prop) (H : Snap) (xs : List α) : Exit → Act → World → Prop
  | .normal, _, W => Holds H W ∧ J H xs W
  | .ret, _, W => Holds H W ∧ Jx .ret H xs W
  | .exit id, _, W => Holds H W ∧ Jx (.exit id) H xs W
  | .goto t, _, W => Holds H W ∧ Jx (.goto t) H xs W
  | .panic _, _, _ => False
  | .outgrown, _, _ => False

section
variable {P : Program} {α : Type} {ps : Array Tmp} {assign body : Code} {a : Act} {n0 l : Nat} {r : Loop} {H : Snap}
  {enc : Snap → α → Array Value → Prop} {xs : List α}
  {J : Snap → List α → World → Prop} {Jx : Code → Snap → List α → World → Prop} {J2 : Snap → List α → α → Array Value → Act → World → Prop}

theorem putObj_turn {W : World} {Hc Hc' : Snap} {o o' : Obj} (hw : Holds Hc W) (hl : W.heap[l]? = some o) (ho : o.isCells = false) (hn : n0 ≤ l) (hc : ∀ k, k ≠ l → Hc' k = Hc k) (hc' : Hc' l = none ∨ Hc' l = some o') : Turn n0 W Hc (W.putObj l o') Hc' := by
  have hlt := (Array.getElem?_eq_some_iff.1 hl).1
  refine ⟨(Below.refl _ _).grown (grownBy_putObj' W l o') (by omega) (fun k e => by cases e; exact hn), fun b cs t fr e hb => ?_, fun b hb => hc b (by omega), ⟨fun k o2 ek => ?_⟩⟩
  · have hne : b ≠ l := by rintro rfl; rw [e] at hl; cases hl; cases ho
    exact ⟨(World.putObj_heap_other hne).trans e, by rw [hc b hne]; exact hb⟩
  · by_cases hk : k = l
    · subst hk
      rcases hc' with h | h
      · rw [h] at ek; cases ek
      · rw [h] at ek; cases ek; exact World.putObj_heap_same hlt
    · rw [hc k hk] at ek
      exact (World.putObj_heap_other hk).trans (hw.at_ _ _ ek)

/-- One round, and the whole of them. -/
theorem iter_core {gf : FuncId} {lb : Array Value} {W1 : World} {H1 : Snap} {k : Nat} (hr1 : r.params = ps) (hr2 : r.assign = assign) (hr3 : r.body = body) (hr4 : r.tmps = a.tmps) (hr5 : r.state = .ready) (hr6 : r.pending = none)
    (hit : Iter P gf lb enc xs W1 H1) (hw1 : Holds H1 W1) (hsz : W1.heap.size = l + 1) (hl : W1.heap[l]? = some (.loop r)) (hln : H1 l = none) (hn0 : n0 ≤ l) (hps : ∀ Hc x args, enc Hc x args → args.size = ps.size) (henc : ∀ A B x args, SLe A B → enc A x args → enc B x args)
    (hle : SLe H H1) (hJ : Abides n0 J) (hJx : ∀ c, Abides n0 (Jx c)) (hJ2 : ∀ x args a1, Abides n0 (fun Hc pre W => J2 Hc pre x args a1 W)) (h0 : J H1 [] W1)
    (hassign : ∀ Hc pre x W args, Holds Hc W → SLe H Hc → J Hc pre W → enc Hc x args → pre ++ [x] <+: xs →
      assign.wpIn (FW (some l)) k P (Exit.then (fun a1 W2 => Holds Hc W2 ∧ J2 Hc pre x args a1 W2) (fun _ _ _ => False)) { tmps := (ps.zip args).foldl (fun t (p, v) => t.setIfInBounds p v) a.tmps, defers := [] } W)
    (hbody : ∀ rc Hc pre x args a1 W, W.heap[l]? = some (.loop rc) → Holds Hc W → SLe H Hc → enc Hc x args → pre ++ [x] <+: xs → J2 Hc pre x args a1 W → body.wpIn (FW (some l)) k P (roundP J Jx Hc (pre ++ [x])) a1 W) :
    Calls P gf (#[.func (.yield l) #[] #[]] ++ lb) W1 fun e W' => (∃ v, e = .returned v) ∧ ∃ Hc, Holds Hc W' ∧ SLe H1 Hc ∧
      ((J Hc xs W' ∧ Hc l = none ∧ W'.heap[l]? = some (.loop r)) ∨ (∃ pre c, pre <+: xs ∧ Jx c Hc pre W' ∧ Hc l = none ∧ W'.heap[l]? = some (.loop { r with state := .done, pending := some c }))) := by
  have hlt1 := (Array.getElem?_eq_some_iff.1 hl).1
  refine (hit l (fun Hc pre W => J Hc pre W ∧ Hc l = none ∧ W.heap[l]? = some (.loop r)) (fun Hc pre W => ∃ c, Jx c Hc pre W ∧ Hc l = none ∧ W.heap[l]? = some (.loop { r with state := .done, pending := some c })) W1 H1 (Ext.refl hw1) ?_ ?_ ?_ ⟨h0, hln, hl⟩).mono ?_
  · intro Hc s W Hc' W' ⟨hj, hn, hl'⟩ hw ht
    exact ⟨hJ _ _ _ _ _ hj hw (ht.mono (by omega)), (ht.same l hlt1).trans hn, (ht.below.block l hlt1).trans hl'⟩
  · intro Hc s W Hc' W' ⟨c, hj, hn, hl'⟩ hw ht
    exact ⟨c, hJx c _ _ _ _ _ hj hw (ht.mono (by omega)), (ht.same l hlt1).trans hn, (ht.below.block l hlt1).trans hl'⟩
  · rintro Hc pre x W args m hw hle1 ⟨hj, hn, hlW⟩ he hpre
    have hy := run_yield (P := P) (args := args) hlW (by rw [hr1]; exact hps _ _ _ he)
    rw [hr1, hr2, hr3, hr4] at hy
    have hltW := (Array.getElem?_eq_some_iff.1 hlW).1
    refine ⟨r.fn, _, assign, body, hy, ?_⟩
    have hany : ∀ {f : FuncId} {tmps : Array Value} {as1 bd1 : Code} {w : World} {R : Ending → World → Prop}, RoundIn (FW none) k P l f tmps as1 bd1 w R → RoundIn (FW none) m P l f tmps as1 bd1 w R := fun h => ⟨h.1, fun c cs _ => h.2 c cs (fun d hd => by cases hd)⟩
    refine hany (roundIn_of_wpIn (F := FW none) trivial ?_)
    have ht1 : Turn n0 W Hc W (Hc.put l (.loop r)) :=
      ⟨Below.refl _ _, fun b cs t fr e hb => ⟨e, by rw [Snap.put_other _ _ (by rintro rfl; rw [hlW] at e; cases e)]; exact hb⟩, fun b hb => Snap.put_other _ _ (by omega), hw.put hlW⟩
    have hleA := Snap.le_put hn (.loop r)
    refine wpIn_mono (hassign _ pre x W args ht1.holds ((hle.trans hle1).trans hleA) (hJ _ _ _ _ _ hj hw ht1) (henc _ _ _ _ hleA he) hpre) ?_
    rintro e a1 W2 hq
    cases e with
    | normal =>
      obtain ⟨hw2, hj2⟩ := hq
      have hl2 : W2.heap[l]? = some (.loop r) := hw2.at_ _ _ (Snap.put_same _ _ _)
      have hlt2 := (Array.getElem?_eq_some_iff.1 hl2).1
      refine ⟨_, run_beginRound hl2 hr5, ?_⟩
      have ht2 : Turn n0 W2 (Hc.put l (.loop r)) (W2.putObj l (.loop { r with state := .busy })) (Hc.put l (.loop { r with state := .busy })) :=
        putObj_turn hw2 hl2 rfl hn0 (fun k hk => by rw [Snap.put_other _ _ hk, Snap.put_other _ _ hk]) (.inr (Snap.put_same _ _ _))
      have hleB := Snap.le_put hn (.loop { r with state := .busy })
      refine wpIn_mono (hbody { r with state := .busy } _ pre x args a1 _ (World.putObj_heap_same hlt2) ht2.holds ((hle.trans hle1).trans hleB) (henc _ _ _ _ hleB he) hpre (hJ2 x args a1 _ _ _ _ _ hj2 hw2 ht2)) ?_
      have fin : ∀ (jump : Option Code) (W3 : World), Holds (Hc.put l (.loop { r with state := .busy })) W3 →
          (Instr.endRound l jump).run P W3 = .ok (.bool jump.isNone) (W3.putObj l (.loop { r with state := if jump.isNone then .ready else .done, pending := jump })) ∧
          Turn n0 W3 (Hc.put l (.loop { r with state := .busy })) (W3.putObj l (.loop { r with state := if jump.isNone then .ready else .done, pending := jump })) Hc ∧
          (W3.putObj l (.loop { r with state := if jump.isNone then .ready else .done, pending := jump })).heap[l]? = some (.loop { r with state := if jump.isNone then .ready else .done, pending := jump }) := fun jump W3 hw3 => by
        have hl3 := hw3.at_ _ _ (Snap.put_same _ _ _)
        have he3 := run_endRound (P := P) jump hl3
        exact ⟨he3, putObj_turn hw3 hl3 rfl hn0 (fun k hk => (Snap.put_other _ _ hk).symm) (.inl hn), World.putObj_heap_same (Array.getElem?_eq_some_iff.1 hl3).1⟩
      rintro e a3 W3 hp
      cases e with
      | normal =>
        obtain ⟨hw3, hj3⟩ := hp
        obtain ⟨hr, ht3, hl4⟩ := fin none W3 hw3
        have hlt4 := (Array.getElem?_eq_some_iff.1 hl4).1
        refine ⟨_, _, hr, ht3.holds, by omega, .inl ⟨rfl, hJ _ _ _ _ _ hj3 hw3 ht3, hn, ?_⟩⟩
        rw [hl4]
        obtain ⟨_, _, _, _, _, _, _, _⟩ := r
        simp only at hr5 hr6
        subst hr5; subst hr6; rfl
      | ret =>
        obtain ⟨hw3, hj3⟩ := hp
        obtain ⟨hr, ht3, hl4⟩ := fin (some .ret) W3 hw3
        have hlt4 := (Array.getElem?_eq_some_iff.1 hl4).1
        exact ⟨_, _, hr, ht3.holds, by omega, .inr ⟨rfl, .ret, hJx _ _ _ _ _ _ hj3 hw3 ht3, hn, hl4⟩⟩
      | exit id =>
        obtain ⟨hw3, hj3⟩ := hp
        obtain ⟨hr, ht3, hl4⟩ := fin (some (.exit id)) W3 hw3
        have hlt4 := (Array.getElem?_eq_some_iff.1 hl4).1
        exact ⟨_, _, hr, ht3.holds, by omega, .inr ⟨rfl, .exit id, hJx _ _ _ _ _ _ hj3 hw3 ht3, hn, hl4⟩⟩
      | goto t =>
        obtain ⟨hw3, hj3⟩ := hp
        obtain ⟨hr, ht3, hl4⟩ := fin (some (.goto t)) W3 hw3
        have hlt4 := (Array.getElem?_eq_some_iff.1 hl4).1
        exact ⟨_, _, hr, ht3.holds, by omega, .inr ⟨rfl, .goto t, hJx _ _ _ _ _ _ hj3 hw3 ht3, hn, hl4⟩⟩
      | panic ch => exact hp.elim
      | outgrown => exact hp.elim
    | exit id => exact hq.elim
    | goto t => exact hq.elim
    | ret => exact hq.elim
    | panic ch => exact hq.elim
    | outgrown => exact hq.elim
  · rintro e W' ⟨hv, Hc, hw, hle1, h⟩
    refine ⟨hv, Hc, hw, hle1, ?_⟩
    rcases h with h | ⟨pre, hpre, c, h1, h2, h3⟩
    · exact .inl h
    · exact .inr ⟨pre, c, hpre, h1, h2, h3⟩
end

end Go.Proofs.YtngdppajailpcaaGreat

namespace Go.Proofs.YtngdppajailpcaaGreat
open Go.RowKit

section
variable {P : Program} {α : Type} {g : Operand} {ps : Array Tmp} {assign body : Code} {Q : Exit → Act → World → Prop} {a : Act} {w : World} {H : Snap} {k : Nat} {gf : FuncId} {lb : Array Value}
  {enc : Snap → α → Array Value → Prop} {xs : List α}
  {J : Snap → List α → World → Prop} {Jx : Code → Snap → List α → World → Prop} {J2 : Snap → List α → α → Array Value → Act → World → Prop}

theorem wpIn_forO (hg : a.eval g = .func (.func gf) #[] lb) (eg : ∀ args w, (callFunc gf args).run P w = .ok (.enter gf args) w)
    (hw : Holds H w) (hit : Iter P gf lb enc xs w H) (hps : ∀ Hc x args, enc Hc x args → args.size = ps.size) (henc : ∀ A B x args, SLe A B → enc A x args → enc B x args)
    (hJ : Abides w.heap.size J) (hJx : ∀ c, Abides w.heap.size (Jx c)) (hJ2 : ∀ x args a1, Abides w.heap.size (fun Hc pre W => J2 Hc pre x args a1 W)) (h0 : J H [] w)
    (hassign : ∀ l Hc pre x W args, w.heap.size ≤ l → Holds Hc W → SLe H Hc → J Hc pre W → enc Hc x args → pre ++ [x] <+: xs →
      assign.wpIn (FW (some l)) k P (Exit.then (fun a1 W2 => Holds Hc W2 ∧ J2 Hc pre x args a1 W2) (fun _ _ _ => False)) { tmps := (ps.zip args).foldl (fun t (p, v) => t.setIfInBounds p v) a.tmps, defers := [] } W)
    (hbody : ∀ l rc Hc pre x args a1 W, w.heap.size ≤ l → W.heap[l]? = some (.loop rc) → Holds Hc W → SLe H Hc → enc Hc x args → pre ++ [x] <+: xs → J2 Hc pre x args a1 W → body.wpIn (FW (some l)) k P (roundP J Jx Hc (pre ++ [x])) a1 W)
    (hdone : ∀ D Hc W, w.heap.size ≤ D → Holds Hc W → SLe H Hc → Hc D = some (.deferred (some [])) → J Hc xs W → Q .normal { a with defers := { target := .collected D, args := #[] } :: a.defers } W)
    (hstop : ∀ D c Hc pre W, w.heap.size ≤ D → Holds Hc W → SLe H Hc → Hc D = some (.deferred (some [])) → pre <+: xs → Jx c Hc pre W → c.wpIn (FW none) k P Q { a with defers := { target := .collected D, args := #[] } :: a.defers } W) :
    (Code.rangeFunc g ps assign body).wpIn (FW none) k P Q a w := by
  refine wpIn_rangeFunc ?_
  intro fn _
  obtain ⟨r, hr⟩ : ∃ r : Loop, r = { state := .ready, pending := none, fn, tmps := a.tmps, params := ps, assign, body, defers := w.heap.size } := ⟨_, rfl⟩
  obtain ⟨W1, hW1⟩ : ∃ W1, (w.alloc (.deferred (some []))).alloc (.loop r) = W1 := ⟨_, rfl⟩
  have hL1 : W1.heap[w.heap.size + 1]? = some (.loop r) := by
    rw [← hW1]; have := World.alloc_heap_new (w.alloc (.deferred (some []))) (.loop r); rwa [World.size_alloc] at this
  have hK1 : W1.heap[w.heap.size]? = some (.deferred (some [])) := by
    rw [← hW1]; exact (Below.heap_alloc _ _ _ (by simp)).trans (World.alloc_heap_new w _)
  have hb1 : Below w.heap.size w W1 := by rw [← hW1]; exact ((Below.refl _ w).alloc (Nat.le_refl _) _).alloc (by simp) _
  have hnD : H w.heap.size = none := hw.none_of_ge (Nat.le_refl _)
  have hle1 := Snap.le_put hnD (.deferred (some []))
  have ht : Turn w.heap.size w H W1 (H.put w.heap.size (.deferred (some []))) := by
    refine ⟨hb1, fun b cs t fr e hb => ?_, fun b hb => Snap.put_other _ _ (by omega), ⟨fun b o e => ?_⟩⟩
    · have hlt := (Array.getElem?_eq_some_iff.1 e).1
      exact ⟨(hb1.block b hlt).trans e, by rw [Snap.put_other _ _ (by omega)]; exact hb⟩
    · by_cases hb : b = w.heap.size
      · subst hb; rw [Snap.put_same] at e; cases e; exact hK1
      · rw [Snap.put_other _ _ hb] at e; exact (hb1.block b (hw.lt e)).trans (hw.at_ _ _ e)
  have hx1 : Ext w H W1 (H.put w.heap.size (.deferred (some []))) := ⟨hb1, ht.holds, fun b hb => Snap.put_other _ _ (by omega)⟩
  have hit1 : Iter P gf lb enc xs W1 (H.put w.heap.size (.deferred (some []))) := fun l J Jx W HW hx => hit l J Jx W HW (hx1.trans hx)
  refine ⟨w.heap.size + 1, [{ target := .collected w.heap.size, args := #[] }], W1, { target := .fn (.func gf) lb, args := #[.func (.yield (w.heap.size + 1)) #[] #[]] }, W1, gf,
    #[.func (.yield (w.heap.size + 1)) #[] #[]] ++ lb, W1, ?_, ?_, fun _ _ => trivial, ?_, FW_depth, ?_⟩
  · rw [← hW1, hr]; exact run_enterLoop_outer _ _ _ _ _
  · simp only [resolve, hg]; simp [go_sem]
  · simp [invoke, go_sem, eg]
  · refine (Calls.wide (iter_core (n0 := w.heap.size) (r := r) (a := a) (ps := ps) (assign := assign) (body := body) (k := k) (by rw [hr]) (by rw [hr]) (by rw [hr]) (by rw [hr]) (by rw [hr]) (by rw [hr]) hit1 ht.holds (by rw [← hW1]; simp) hL1
      (by rw [Snap.put_other _ _ (by omega)]; exact hw.none_of_ge (by omega)) (by omega) hps henc hle1 hJ hJx hJ2 (hJ _ _ _ _ _ h0 hw ht) (fun Hc pre x W args => hassign _ Hc pre x W args (by omega)) (fun rc Hc pre x args a1 W => hbody _ rc Hc pre x args a1 W (by omega)))).mono ?_
    rintro e W2 ⟨⟨v, rfl⟩, Hc, hwc, hlec, h⟩
    have hD : Hc w.heap.size = some (.deferred (some [])) := hlec _ _ (Snap.put_same _ _ _)
    rcases h with ⟨hj, hn, hl⟩ | ⟨pre, c, hpre, hj, hn, hl⟩
    · refine ⟨none, _, by have := run_endLoop (P := P) hl (by rw [hr]; simp); rw [hr] at this; exact this, ?_⟩
      have ht2 := putObj_turn (n0 := w.heap.size) (Hc' := Hc) (o' := .loop { r with state := .exhausted }) hwc hl rfl (by omega) (fun _ _ => rfl) (.inl hn)
      rw [hr] at ht2
      exact hdone _ Hc _ (Nat.le_refl _) ht2.holds (hle1.trans hlec) hD (hJ _ _ _ _ _ hj hwc ht2)
    · refine ⟨some c, _, by have := run_endLoop (P := P) hl (by simp); rw [hr] at this; exact this, ?_⟩
      have ht2 := putObj_turn (n0 := w.heap.size) (Hc' := Hc) (o' := .loop { { r with state := .done, pending := some c } with state := .exhausted }) hwc hl rfl (by omega) (fun _ _ => rfl) (.inl hn)
      rw [hr] at ht2
      exact hstop _ c Hc pre _ (Nat.le_refl _) ht2.holds (hle1.trans hlec) hD hpre (hJx _ _ _ _ _ _ hj hwc ht2)

theorem wpIn_forN {l0 : Nat} {r0 : Loop} (hl0 : w.heap[l0]? = some (.loop r0)) (hg : a.eval g = .func (.func gf) #[] lb) (eg : ∀ args w, (callFunc gf args).run P w = .ok (.enter gf args) w)
    (hw : Holds H w) (hit : Iter P gf lb enc xs w H) (hps : ∀ Hc x args, enc Hc x args → args.size = ps.size) (henc : ∀ A B x args, SLe A B → enc A x args → enc B x args)
    (hJ : Abides w.heap.size J) (hJx : ∀ c, Abides w.heap.size (Jx c)) (hJ2 : ∀ x args a1, Abides w.heap.size (fun Hc pre W => J2 Hc pre x args a1 W)) (h0 : J H [] w)
    (hassign : ∀ l Hc pre x W args, w.heap.size ≤ l → Holds Hc W → SLe H Hc → J Hc pre W → enc Hc x args → pre ++ [x] <+: xs →
      assign.wpIn (FW (some l)) k P (Exit.then (fun a1 W2 => Holds Hc W2 ∧ J2 Hc pre x args a1 W2) (fun _ _ _ => False)) { tmps := (ps.zip args).foldl (fun t (p, v) => t.setIfInBounds p v) a.tmps, defers := [] } W)
    (hbody : ∀ l rc Hc pre x args a1 W, w.heap.size ≤ l → W.heap[l]? = some (.loop rc) → Holds Hc W → SLe H Hc → enc Hc x args → pre ++ [x] <+: xs → J2 Hc pre x args a1 W → body.wpIn (FW (some l)) k P (roundP J Jx Hc (pre ++ [x])) a1 W)
    (hdone : ∀ Hc W, Holds Hc W → SLe H Hc → J Hc xs W → Q .normal a W)
    (hstop : ∀ c Hc pre W, Holds Hc W → SLe H Hc → pre <+: xs → Jx c Hc pre W → c.wpIn (FW (some l0)) k P Q a W) :
    (Code.rangeFunc g ps assign body).wpIn (FW (some l0)) k P Q a w := by
  refine wpIn_rangeFunc ?_
  intro fn _
  obtain ⟨r, hr⟩ : ∃ r : Loop, r = { state := .ready, pending := none, fn, tmps := a.tmps, params := ps, assign, body, defers := r0.defers } := ⟨_, rfl⟩
  obtain ⟨W1, hW1⟩ : ∃ W1, w.alloc (.loop r) = W1 := ⟨_, rfl⟩
  have hL1 : W1.heap[w.heap.size]? = some (.loop r) := by rw [← hW1]; exact World.alloc_heap_new w _
  have hb1 : Below w.heap.size w W1 := by rw [← hW1]; exact (Below.refl _ w).alloc (Nat.le_refl _) _
  have ht : Turn w.heap.size w H W1 H := Turn.ext hw hb1 (Nat.le_refl _)
  have hx1 : Ext w H W1 H := ⟨hb1, ht.holds, fun b hb => rfl⟩
  have hit1 : Iter P gf lb enc xs W1 H := fun l J Jx W HW hx => hit l J Jx W HW (hx1.trans hx)
  refine ⟨w.heap.size, [], W1, { target := .fn (.func gf) lb, args := #[.func (.yield w.heap.size) #[] #[]] }, W1, gf,
    #[.func (.yield w.heap.size) #[] #[]] ++ lb, W1, ?_, ?_, fun _ _ => trivial, ?_, FW_depth, ?_⟩
  · rw [← hW1, hr]; exact run_enterLoop_inner hl0 _ _ _ _ _
  · simp only [resolve, hg]; simp [go_sem]
  · simp [invoke, go_sem, eg]
  · refine (Calls.wide (iter_core (n0 := w.heap.size) (r := r) (a := a) (ps := ps) (assign := assign) (body := body) (k := k) (by rw [hr]) (by rw [hr]) (by rw [hr]) (by rw [hr]) (by rw [hr]) (by rw [hr]) hit1 ht.holds (by rw [← hW1]; simp) hL1
      (hw.none_of_ge (by omega)) (by omega) hps henc (SLe.refl _) hJ hJx hJ2 (hJ _ _ _ _ _ h0 hw ht) (fun Hc pre x W args => hassign _ Hc pre x W args (by omega)) (fun rc Hc pre x args a1 W => hbody _ rc Hc pre x args a1 W (by omega)))).mono ?_
    rintro e W2 ⟨⟨v, rfl⟩, Hc, hwc, hlec, h⟩
    rcases h with ⟨hj, hn, hl⟩ | ⟨pre, c, hpre, hj, hn, hl⟩
    · refine ⟨none, _, by have := run_endLoop (P := P) hl (by rw [hr]; simp); rw [hr] at this; exact this, ?_⟩
      have ht2 := putObj_turn (n0 := w.heap.size) (Hc' := Hc) (o' := .loop { r with state := .exhausted }) hwc hl rfl (by omega) (fun _ _ => rfl) (.inl hn)
      rw [hr] at ht2
      exact hdone Hc _ ht2.holds hlec (hJ _ _ _ _ _ hj hwc ht2)
    · refine ⟨some c, _, by have := run_endLoop (P := P) hl (by simp); rw [hr] at this; exact this, ?_⟩
      have ht2 := putObj_turn (n0 := w.heap.size) (Hc' := Hc) (o' := .loop { { r with state := .done, pending := some c } with state := .exhausted }) hwc hl rfl (by omega) (fun _ _ => rfl) (.inl hn)
      rw [hr] at ht2
      exact hstop c Hc pre _ ht2.holds hlec hpre (hJx _ _ _ _ _ _ hj hwc ht2)
end

end Go.Proofs.YtngdppajailpcaaGreat

namespace Go.Proofs.YtngdppajailpcaaGreat
open Go.RowKit

def MachRep (m : Mach) (cs : List Value) : Prop := cs = [.int .i64 m.r, .int .i64 m.p, .int .i64 m.s] ∧ (-9223372036854775808 ≤ m.r ∧ m.r ≤ 9223372036854775807) ∧ (-9223372036854775808 ≤ m.p ∧ m.p ≤ 9223372036854775807) ∧ (-9223372036854775808 ≤ m.s ∧ m.s ≤ 9223372036854775807)
def BundRep (b : Bund) (cs : List Value) : Prop := cs = [.int .i64 b.t, .int .i64 b.h, .int .i64 b.e] ∧ (-9223372036854775808 ≤ b.t ∧ b.t ≤ 9223372036854775807) ∧ (-9223372036854775808 ≤ b.h ∧ b.h ≤ 9223372036854775807) ∧ (-9223372036854775808 ≤ b.e ∧ b.e ≤ 9223372036854775807)

instance : Enc Mach where
  sz := 3
  by_ := 24
  rep := fun _ m cs => MachRep m cs
  len := fun h => by rw [h.1]; rfl
  mono := fun _ h => h
  one := fun h u hu => by rw [h.1] at hu; simp at hu; rcases hu with rfl | rfl | rfl <;> rfl

instance : Enc Bund where
  sz := 3
  by_ := 24
  rep := fun _ m cs => BundRep m cs
  len := fun h => by rw [h.1]; rfl
  mono := fun _ h => h
  one := fun h u hu => by rw [h.1] at hu; simp at hu; rcases hu with rfl | rfl | rfl <;> rfl

theorem Sl.mach {H : Snap} {v : Value} {xs : List Mach} {k : Nat} {x : Mach} (h : Sl H v xs) (hx : At xs k x) :
    ∃ b o c, v = .slice (some ⟨b, o, none⟩) xs.length c ∧ ((-9223372036854775808 ≤ x.r ∧ x.r ≤ 9223372036854775807) ∧ (-9223372036854775808 ≤ x.p ∧ x.p ≤ 9223372036854775807) ∧ (-9223372036854775808 ≤ x.s ∧ x.s ≤ 9223372036854775807)) ∧
      (∀ w, Holds H w → w.cell? ⟨b, o + k * 3, none⟩ = some (.int .i64 x.r)) ∧ (∀ w, Holds H w → w.cell? ⟨b, o + k * 3 + 1, none⟩ = some (.int .i64 x.p)) ∧ (∀ w, Holds H w → w.cell? ⟨b, o + k * 3 + 2, none⟩ = some (.int .i64 x.s)) := by
  obtain ⟨b, o, c, ds, hv, ⟨hd, hi⟩, hc⟩ := h.get hx
  refine ⟨b, o, c, hv, hi, fun w hw => ?_, fun w hw => ?_, fun w hw => ?_⟩
  · exact hc w hw 0 _ (by rw [hd]; rfl)
  · exact hc w hw 1 _ (by rw [hd]; rfl)
  · exact hc w hw 2 _ (by rw [hd]; rfl)

theorem Sl.bund {H : Snap} {v : Value} {xs : List Bund} {k : Nat} {x : Bund} (h : Sl H v xs) (hx : At xs k x) :
    ∃ b o c, v = .slice (some ⟨b, o, none⟩) xs.length c ∧ ((-9223372036854775808 ≤ x.t ∧ x.t ≤ 9223372036854775807) ∧ (-9223372036854775808 ≤ x.h ∧ x.h ≤ 9223372036854775807) ∧ (-9223372036854775808 ≤ x.e ∧ x.e ≤ 9223372036854775807)) ∧
      (∀ w, Holds H w → w.cell? ⟨b, o + k * 3, none⟩ = some (.int .i64 x.t)) ∧ (∀ w, Holds H w → w.cell? ⟨b, o + k * 3 + 1, none⟩ = some (.int .i64 x.h)) ∧ (∀ w, Holds H w → w.cell? ⟨b, o + k * 3 + 2, none⟩ = some (.int .i64 x.e)) := by
  obtain ⟨b, o, c, ds, hv, ⟨hd, hi⟩, hc⟩ := h.get hx
  refine ⟨b, o, c, hv, hi, fun w hw => ?_, fun w hw => ?_, fun w hw => ?_⟩
  · exact hc w hw 0 _ (by rw [hd]; rfl)
  · exact hc w hw 1 _ (by rw [hd]; rfl)
  · exact hc w hw 2 _ (by rw [hd]; rfl)

/-- A house value. -/
structure Hou (H : Snap) (vm vb vt : Value) (h : House) : Prop where
  m : Sl H vm h.ms
  b : Sl H vb h.bs
  t : Sl H vt h.ts
  c : -9223372036854775808 ≤ h.ch ∧ h.ch ≤ 9223372036854775807

abbrev houV (vm vb vt : Value) (h : House) : Value := .agg #[vm, vb, vt, .int .i64 h.ch]

theorem Hou.mono {H H' : Snap} (k : SLe H H') {vm vb vt : Value} {h : House} (x : Hou H vm vb vt h) : Hou H' vm vb vt h :=
  ⟨x.m.mono k, x.b.mono k, x.t.mono k, x.c⟩

/-- The four cells of a house that lies in a frozen block. -/
theorem cellsHou {H : Snap} {B : Nat} {vm vb vt : Value} {h : House} {t : TypeId} (e : H B = some (.cells (houV vm vb vt h).cells t (0, 0))) :
    (∀ w, Holds H w → w.cell? ⟨B, 0, none⟩ = some vm) ∧ (∀ w, Holds H w → w.cell? ⟨B, 1, none⟩ = some vb) ∧ (∀ w, Holds H w → w.cell? ⟨B, 2, none⟩ = some vt) ∧ (∀ w, Holds H w → w.cell? ⟨B, 3, none⟩ = some (.int .i64 h.ch)) :=
  ⟨fun _ hw => cellH e hw 0, fun _ hw => cellH e hw 1, fun _ hw => cellH e hw 2, fun _ hw => cellH e hw 3⟩

theorem eInt : ElemT Tryz.prog 24 3 Int := .mk' (.int .i64 0) Tryz.underlying24 (by kernel_rfl) rfl (by decide)
theorem eList : ElemT Tryz.prog 27 24 (List Int) := .mk' (.slice none 0 0) Tryz.underlying27 (by kernel_rfl) rfl (by decide)
theorem eLists : ElemT Tryz.prog 92 27 (List (List Int)) := .mk' (.slice none 0 0) Tryz.underlying92 (by kernel_rfl) rfl (by decide)
theorem eMach : ElemT Tryz.prog 22 97 Mach := .mk' (.agg #[.int .i64 0, .int .i64 0, .int .i64 0]) Tryz.underlying22 (by kernel_rfl) rfl (by decide)
theorem eBund : ElemT Tryz.prog 23 120 Bund := .mk' (.agg #[.int .i64 0, .int .i64 0, .int .i64 0]) Tryz.underlying23 (by kernel_rfl) rfl (by decide)

end Go.Proofs.YtngdppajailpcaaGreat
