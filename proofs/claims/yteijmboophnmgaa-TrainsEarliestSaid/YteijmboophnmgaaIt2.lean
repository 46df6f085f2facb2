/- The walk of trains.cases and of the function that it returns. The memory in which trains.plans keeps a plan: what it holds, what turns when a bundle is put on or taken off. No program stands here. -/
import Derived.Test.YteijmboophnmgaaIter2
import Derived.Test.YteijmboophnmgaaTr13
import Derived.Laws.EntriesVeiled

namespace Go.Proofs.Yteijmboophnmgaa
open Go.RowKit

attribute [local go_sem] Holds.drew Holds.alloc Holds.drewN WB.holds Oper.semAt_some

theorem FW_fn (r : Option Nat) (f : FuncId) : (FW r).fn f = True := rfl
theorem FW_dep (r : Option Nat) : (FW r).depth = none := rfl
theorem FW_round (r : Option Nat) : (FW r).round = r := rfl
theorem Calls.ofWide {r : Option Nat} {n : Nat} {P : Program} {f : FuncId} {args : Array Value} {w : World} {R : Ending → World → Prop} (h : CallsIn (FW r) n P f args w R) : Calls P f args w R := (callsIn_wide (n := n)).1 h
attribute [local go_sem] FW_fn FW_dep FW_round

theorem casesTo_prefix (h : House) {j n : Nat} (hj : j ≤ n) : casesTo h j <+: casesTo h n := by
  induction n with
  | zero => rw [show j = 0 by omega]; exact List.prefix_refl _
  | succ n ih =>
    by_cases e : j = n + 1
    · rw [e]; exact List.prefix_refl _
    · refine (ih (by omega)).trans ?_
      rw [casesTo_succ]
      split
      · exact List.prefix_append _ _
      · exact List.prefix_refl _

def encC (_ : Snap) (c : Int) (args : Array Value) : Prop := args = #[.int .i64 c]
/-- What a ranged function leaves. -/
def IterEnd {α : Type} (HW : Snap) (xs : List α) (J Jx : Snap → List α → World → Prop) (e : Ending) (W' : World) : Prop :=
  (∃ v, e = .returned v) ∧ ∃ Hc, Holds Hc W' ∧ SLe HW Hc ∧ (J Hc xs W' ∨ ∃ pre, pre <+: xs ∧ Jx Hc pre W')

set_option maxRecDepth 100000 in
set_option maxHeartbeats 4000000 in
theorem cases1_any (vm vb vt : Value) (h : House) (B : Nat) (H : Snap) (w : World) (hw : Holds H w) (hh : Hou H vm vb vt h) (hB : H B = some (.cells (houV vm vb vt h).cells 26 (0, 0))) (_hm3 : h.ms.length ≤ 3) :
    Iter Try.prog 101 #[.pointer (some ⟨B, 0, none⟩)] encC (casesOf h) w H := by
  obtain ⟨am, cm, rfl, hm1, hm2⟩ := hh.m.form
  intro l J Jx W HW hx hJ hJx hY h0
  have hleW := hx.le hw
  have hW := hx.holds
  obtain ⟨hc0, hc1, hc2, hc3⟩ := cellsHou hB
  refine Calls.mono (R := IterEnd HW (casesOf h) J Jx) (Calls.ofWide (r := none) (n := 3) ?_) (fun _ _ h => h)
  obtain ⟨fn, tmps, assign, body, hy, hR⟩ := hY HW [] (-1) W #[.int .i64 (-1)] 2 hW (SLe.refl _) h0 rfl (casesTo_prefix h (Nat.zero_le _))
  refine callsIn_of_wp Try.func101 rfl trivial ?_ rfl
  simp only [Try.ntmps101, List.size_toArray, List.length_cons, List.length_nil, Nat.reduceAdd, Nat.reduceSub, Array.replicate_succ, Array.replicate_zero, List.push_toArray, List.append_toArray, List.nil_append, List.cons_append]
  gi_wp2
  refine hR.mono ?_
  clear hR hy
  rintro e W1 ⟨hW1, hz1, (⟨rfl, hJ1⟩ | ⟨rfl, hJx1⟩)⟩
  · have hcW1 := lift hleW hc0
    gi_wp2
    gi_loopw [3, 4, 11] (fun _ _ i wr => ∃ (k : Nat) (Hc : Snap), k ≤ h.ms.length ∧ i = .int .i64 k ∧ Holds Hc wr ∧ SLe HW Hc ∧ W.heap.size ≤ wr.heap.size ∧ J Hc (casesTo h k) wr) (fun _ _ i _ => h.ms.length - (intOf i).toNat)
    case atStart => exact ⟨0, HW, Nat.zero_le _, rfl, hW1, SLe.refl _, hz1, hJ1⟩
    case round =>
      clear hJ1 hW1 hcW1
      obtain ⟨k, Hc, hk, rfl, hwc, hlec, hsz, hJk⟩ := hrel
      by_cases hlk : k < h.ms.length
      · obtain ⟨mc, hmc⟩ := At.mk hlk
        obtain ⟨bm, om, cm', he, ⟨hmr, hmp, hms⟩, hcr, hcp, hcs⟩ := hh.m.mach hmc
        cases he
        replace hcr := lift (hleW.trans hlec) hcr
        replace hcp := lift (hleW.trans hlec) hcp
        replace hcs := lift (hleW.trans hlec) hcs
        have hsucc := casesTo_succ h k
        rw [hmc.mach] at hsucc
        have hbA := (Below.refl wr.heap.size wr).alloc (Nat.le_refl _) (.cells #[.int .i64 mc.r, .int .i64 mc.p, .int .i64 mc.s] 54)
        have hJA := hJ _ _ _ _ _ hJk hwc (Turn.ext hwc hbA hsz)
        cases g : (mc.s == 1)
        · have g1 : ¬ mc.s = 1 := by simpa using g
          rw [if_neg g1] at hsucc
          replace hsucc := Lib.hid hsucc
          replace g1 := Lib.hid g1
          gi_wp2
          go_roundw
          case rel => exact ⟨k + 1, Hc, by omega, by go_num, hwc.alloc _, hlec, by simp; omega, by rw [hsucc.out]; exact hJA⟩
          case measure => simp [intOf]; omega
        · have g1 : mc.s = 1 := by simpa using g
          rw [if_pos g1] at hsucc
          obtain ⟨fn, tmps, assign, body, hy, hR⟩ := hY Hc (casesTo h k) (k : Int) _ #[.int .i64 k] 2 (hwc.alloc _) hlec hJA rfl (by rw [← hsucc]; exact casesTo_prefix h (by omega))
          rw [← hsucc] at hR
          replace hsucc := Lib.hid hsucc
          replace g1 := Lib.hid g1
          gi_wp2
          refine hR.mono ?_
          clear hR hy
          rintro e W3 ⟨hW3, hz3, (⟨rfl, hJ3⟩ | ⟨rfl, hJx3⟩)⟩
          · gi_wp2
            go_roundw
            case rel => exact ⟨k + 1, Hc, by omega, by go_num, hW3, hlec, hz3, hJ3⟩
            case measure => simp [intOf]; omega
          · gi_wp2
            refine bodyPost_ret (results_none rfl _ _ _) rfl ?_
            exact ⟨⟨_, rfl⟩, Hc, hW3, hlec, .inr ⟨_, casesTo_prefix h (by omega), hJx3⟩⟩
      · gi_wp2
        go_end0
        have hk' : k = h.ms.length := by omega
        subst hk'
        exact ⟨⟨_, rfl⟩, Hc, hwc, hlec, .inl hJk⟩
  · gi_wp2
    refine bodyPost_ret (results_none rfl _ _ _) rfl ?_
    exact ⟨⟨_, rfl⟩, HW, hW1, SLe.refl _, .inr ⟨_, casesTo_prefix h (Nat.zero_le _), hJx1⟩⟩

end Go.Proofs.Yteijmboophnmgaa

namespace Go.Proofs.Yteijmboophnmgaa
open Go.RowKit

/-- Block k is one of those in which the plan lies: the used bundles, the rows, a row. -/
def ownB (UB R : Nat) (vs : List Value) (k : Nat) : Bool := (k == UB) || ((k == R) || vs.any fun v => v.ownBlock == some k)
theorem ownB_iff {UB R : Nat} {vs : List Value} {k : Nat} : ownB UB R vs k = true ↔ k = UB ∨ k = R ∨ ∃ v ∈ vs, v.ownBlock = some k := by
  simp [ownB, List.any_eq_true]

/-- What is frozen, and the plan as it lies now. -/
def snapI (HF : Snap) (UB R : Nat) (vs : List Value) (W : World) : Snap := fun k => match HF k with
  | some o => some o
  | none => if ownB UB R vs k then W.heap[k]? else none

section
variable {HF : Snap} {n0 UB R : Nat} {tI tL : TypeId} {W W' : World} {vs vs' : List Value} {u u' : Nat} {plan plan' : List (List Int)}

theorem snapI_hf (W : World) {k : Nat} {o : Obj} (h : HF k = some o) : snapI HF UB R vs W k = some o := by simp [snapI, h]
theorem snapI_own (W : World) {k : Nat} (h : HF k = none) (ho : ownB UB R vs k = true) : snapI HF UB R vs W k = W.heap[k]? := by simp [snapI, h, ho]
theorem snapI_none (W : World) {k : Nat} (h : HF k = none) (ho : ownB UB R vs k = false) : snapI HF UB R vs W k = none := by simp [snapI, h, ho]
theorem snapI_le (W : World) : SLe HF (snapI HF UB R vs W) := fun _ _ h => snapI_hf W h

structure St (HF : Snap) (n0 UB R : Nat) (tI tL : TypeId) (W : World) (vs : List Value) (u : Nat) (plan : List (List Int)) : Prop where
  hf : Holds HF W
  ub : W.heap[UB]? = some (.cells #[.int .i64 (u : Int)] tI (0, 0))
  rr : W.heap[R]? = some (.cells vs.toArray tL (0, 0))
  len : vs.length = plan.length
  rows : ∀ m l v, At plan m l → At vs m v → W.ownsRow n0 tI 1 v l.length (l.map (Value.int .i64))
  new : ∀ k, ownB UB R vs k = true → HF k = none ∧ n0 ≤ k
  ne : UB ≠ R
  rne : ∀ v ∈ vs, v.ownBlock ≠ some UB ∧ v.ownBlock ≠ some R
  apart : ∀ m m' v v', m ≠ m' → At vs m v → At vs m' v' → v.ownBlock = none ∨ v.ownBlock ≠ v'.ownBlock
  i64 : ∀ x ∈ plan.flatten, I64 x

theorem St.row (s : St HF n0 UB R tI tL W vs u plan) {v : Value} (hv : v ∈ vs) : ∃ m l, At plan m l ∧ At vs m v := by
  obtain ⟨m, hm, rfl⟩ := List.getElem_of_mem hv
  exact ⟨m, plan[m]'(by rw [← s.len]; exact hm), List.getElem?_eq_getElem (by rw [← s.len]; exact hm), List.getElem?_eq_getElem hm⟩
theorem St.ownLt (s : St HF n0 UB R tI tL W vs u plan) {k : Nat} (hk : ownB UB R vs k = true) : k < W.heap.size := by
  rcases ownB_iff.1 hk with rfl | rfl | ⟨v, hv, e⟩
  · exact (Array.getElem?_eq_some_iff.1 s.ub).1
  · exact (Array.getElem?_eq_some_iff.1 s.rr).1
  · obtain ⟨m, l, hl, hv'⟩ := s.row hv
    exact ((s.rows m l v hl hv').lt k e).2
theorem St.holds (s : St HF n0 UB R tI tL W vs u plan) : Holds (snapI HF UB R vs W) W := ⟨fun k o e => by
  cases hk : HF k with
  | some o' => rw [snapI_hf W hk] at e; cases e; exact s.hf.at_ _ _ hk
  | none =>
    cases ho : ownB UB R vs k with
    | true => rw [snapI_own W hk ho] at e; exact e
    | false => rw [snapI_none W hk ho] at e; cases e⟩

/-- What turns in memory where only the plan's own blocks are written, and new ones made. -/
theorem St.turn (s : St HF n0 UB R tI tL W vs u plan) (s' : St HF n0 UB R tI tL W' vs' u' plan') (hB : Below n0 W W') (hoth : ∀ k, k < W.heap.size → ownB UB R vs k = false → W'.heap[k]? = W.heap[k]?)
    (hsub : ∀ k, ownB UB R vs' k = true → ownB UB R vs k = true ∨ W.heap.size ≤ k) : Turn n0 W (snapI HF UB R vs W) W' (snapI HF UB R vs' W') := by
  refine ⟨hB, fun b cs t fr e hb => ?_, fun b hb => ?_, s'.holds⟩
  · have hlt := (Array.getElem?_eq_some_iff.1 e).1
    have hF : HF b = none := by
      cases hk : HF b with
      | some o => rw [snapI_hf W hk] at hb; cases hb
      | none => rfl
    have ho : ownB UB R vs b = false := by
      cases ho : ownB UB R vs b with
      | false => rfl
      | true => rw [snapI_own W hF ho, e] at hb; cases hb
    refine ⟨(hoth b hlt ho).trans e, snapI_none W' hF ?_⟩
    cases ho' : ownB UB R vs' b with
    | false => rfl
    | true =>
      rcases hsub b ho' with h | h
      · rw [ho] at h; cases h
      · omega
  · cases hk : HF b with
    | some o => rw [snapI_hf W hk, snapI_hf W' hk]
    | none =>
      have h1 : ownB UB R vs b = false := by
        cases ho : ownB UB R vs b with
        | false => rfl
        | true => have := (s.new b ho).2; omega
      have h2 : ownB UB R vs' b = false := by
        cases ho : ownB UB R vs' b with
        | false => rfl
        | true => have := (s'.new b ho).2; omega
      rw [snapI_none W hk h1, snapI_none W' hk h2]

/-- A round of the caller's leaves the plan as it lies. -/
theorem St.kept (s : St HF n0 UB R tI tL W vs u plan) (h : Holds (snapI HF UB R vs W) W') : St HF n0 UB R tI tL W' vs u plan ∧ snapI HF UB R vs W' = snapI HF UB R vs W := by
  have same : ∀ k, ownB UB R vs k = true → W'.heap[k]? = W.heap[k]? := fun k ho => by
    obtain ⟨o, ho'⟩ : ∃ o, W.heap[k]? = some o := ⟨_, Array.getElem?_eq_getElem (s.ownLt ho)⟩
    have := h.at_ k o (by rw [snapI_own W (s.new k ho).1 ho]; exact ho')
    rw [this, ho']
  refine ⟨⟨h.mono (snapI_le W), (same UB (ownB_iff.2 (.inl rfl))).trans s.ub, (same R (ownB_iff.2 (.inr (.inl rfl)))).trans s.rr, s.len, fun m l v hl hv => ?_, s.new, s.ne, s.rne, s.apart, s.i64⟩, ?_⟩
  · have h1 := s.rows m l v hl hv
    refine ⟨h1.1, ?_⟩
    rcases h1.2 with h2 | ⟨g, cap, cur, hv', hb, hg, rest⟩
    · exact .inl h2
    · exact .inr ⟨g, cap, cur, hv', hb, (same g (ownB_iff.2 (.inr (.inr ⟨v, hv.mem, by rw [hv']; rfl⟩)))).trans hg, rest⟩
  · funext k
    cases hk : HF k with
    | some o => rw [snapI_hf W hk, snapI_hf W' hk]
    | none =>
      cases ho : ownB UB R vs k with
      | true => rw [snapI_own W hk ho, snapI_own W' hk ho, same k ho]
      | false => rw [snapI_none W hk ho, snapI_none W' hk ho]

/-- A step that leaves all that was there. -/
theorem St.ext (s : St HF n0 UB R tI tL W vs u plan) (h : Below W.heap.size W W') : St HF n0 UB R tI tL W' vs u plan ∧ snapI HF UB R vs W' = snapI HF UB R vs W := s.kept (s.holds.below h)
theorem St.drew (s : St HF n0 UB R tI tL W vs u plan) : St HF n0 UB R tI tL W.drew vs u plan := (s.ext (Below.refl _ _).drew).1
theorem snapI_drew (W : World) : snapI HF UB R vs W.drew = snapI HF UB R vs W := rfl

/-- The used bundles are written. -/
theorem St.setUsed (s : St HF n0 UB R tI tL W vs u plan) (u' : Nat) : St HF n0 UB R tI tL (W.setCell ⟨UB, 0, none⟩ (.int .i64 (u' : Int))) vs u' plan ∧
    Turn n0 W (snapI HF UB R vs W) (W.setCell ⟨UB, 0, none⟩ (.int .i64 (u' : Int))) (snapI HF UB R vs (W.setCell ⟨UB, 0, none⟩ (.int .i64 (u' : Int)))) := by
  have hU := s.new UB (ownB_iff.2 (.inl rfl))
  have s' : St HF n0 UB R tI tL (W.setCell ⟨UB, 0, none⟩ (.int .i64 (u' : Int))) vs u' plan := by
    refine ⟨s.hf.setCell hU.1 _, by have := heap_setCell_row (i := 0) s.ub (.int .i64 (u' : Int)); simpa using this, (Below.heap_setCell _ _ _ _ (Ne.symm s.ne)).trans s.rr, s.len, fun m l v hl hv => ?_, s.new, s.ne, s.rne, s.apart, s.i64⟩
    exact ownsRow_setCell_other (s.rows m l v hl hv) (s.rne v hv.mem).1 _
  refine ⟨s', s.turn s' ((Below.refl _ _).setCell hU.2 _) (fun k _ ho => Below.heap_setCell _ _ _ _ ?_) (fun k hk => .inl hk)⟩
  rintro rfl
  rw [ownB_iff.2 (.inl rfl)] at ho; cases ho

theorem St.cellU (s : St HF n0 UB R tI tL W vs u plan) : W.cell? ⟨UB, 0, none⟩ = some (.int .i64 (u : Int)) ∧ W.frozen? ⟨UB, 0, none⟩ = false := by
  constructor <;> simp [World.cell?, World.frozen?, s.ub]
theorem St.cellR (s : St HF n0 UB R tI tL W vs u plan) {m : Nat} {v : Value} (hv : At vs m v) : W.cell? ⟨R, m, none⟩ = some v ∧ W.frozen? ⟨R, m, none⟩ = false := by
  constructor
  · rw [cell_of_row W R m _ _ _ s.rr]; simpa using (show vs[m]? = some v from hv)
  · simp [World.frozen?, s.rr]

theorem At.set_same {α : Type} {xs : List α} {m : Nat} {x : α} (h : At xs m x) (y : α) : At (xs.set m y) m y := by
  show _ = _; rw [List.getElem?_set_self h.lt]
theorem At.set_inv {α : Type} {xs : List α} {m k : Nat} {y z : α} (h : At (xs.set m y) k z) : (k = m ∧ z = y) ∨ (k ≠ m ∧ At xs k z) := by
  have h' : (xs.set m y)[k]? = some z := h
  by_cases e : k = m
  · subst e
    have hl := (List.getElem?_eq_some_iff.1 h').1
    rw [List.length_set] at hl
    rw [List.getElem?_set_self hl] at h'
    cases h'
    exact .inl ⟨rfl, rfl⟩
  · rw [List.getElem?_set_ne (Ne.symm e)] at h'
    exact .inr ⟨e, h'⟩

/-- Row m is written anew, behind a step that wrote at most its block. -/
theorem St.setRow (s : St HF n0 UB R tI tL W vs u plan) {m : Nat} {l l' : List Int} {v v' : Value} (hl : At plan m l) (hv : At vs m v)
    (hB : Below n0 W W') (hoth : ∀ k, k < W.heap.size → some k ≠ v.ownBlock → W'.heap[k]? = W.heap[k]?)
    (hrow : W'.ownsRow n0 tI 1 v' l'.length (l'.map (Value.int .i64))) (hat : v'.ownBlock = v.ownBlock ∨ ∃ g, v'.ownBlock = some g ∧ W.heap.size ≤ g) (hi : ∀ x ∈ l', I64 x) (hpl : ∀ x ∈ (plan.set m l').flatten, I64 x) :
    St HF n0 UB R tI tL (W'.setCell ⟨R, m, none⟩ v') (vs.set m v') u (plan.set m l') ∧
    Turn n0 W (snapI HF UB R vs W) (W'.setCell ⟨R, m, none⟩ v') (snapI HF UB R (vs.set m v') (W'.setCell ⟨R, m, none⟩ v')) := by
  have hR := s.new R (ownB_iff.2 (.inr (.inl rfl)))
  have hU := s.new UB (ownB_iff.2 (.inl rfl))
  have hltR := (Array.getElem?_eq_some_iff.1 s.rr).1
  have hltU := (Array.getElem?_eq_some_iff.1 s.ub).1
  have hvb := s.rne v hv.mem
  have hWR : W'.heap[R]? = some (.cells vs.toArray tL (0, 0)) := (hoth R hltR (Ne.symm hvb.2)).trans s.rr
  have hsz := hB.size
  have hv'ne : v'.ownBlock ≠ some UB ∧ v'.ownBlock ≠ some R := by
    rcases hat with h | ⟨g, h, hg⟩
    · rw [h]; exact hvb
    · rw [h]; exact ⟨fun e => by cases e; omega, fun e => by cases e; omega⟩
  have hsub : ∀ k, ownB UB R (vs.set m v') k = true → ownB UB R vs k = true ∨ W.heap.size ≤ k := by
    intro k hk
    rcases ownB_iff.1 hk with e | e | ⟨x, hx, e⟩
    · exact .inl (ownB_iff.2 (.inl e))
    · exact .inl (ownB_iff.2 (.inr (.inl e)))
    · rcases List.mem_or_eq_of_mem_set hx with hx | rfl
      · exact .inl (ownB_iff.2 (.inr (.inr ⟨x, hx, e⟩)))
      · rcases hat with h | ⟨g, h, hg⟩
        · exact .inl (ownB_iff.2 (.inr (.inr ⟨v, hv.mem, by rw [← h]; exact e⟩)))
        · rw [h] at e; cases e; exact .inr hg
  have hHF : Holds HF W' := ⟨fun k o e => by
    refine (hoth k (s.hf.lt e) ?_).trans (s.hf.at_ _ _ e)
    intro ek
    have := (s.new k (ownB_iff.2 (.inr (.inr ⟨v, hv.mem, ek.symm⟩)))).1
    rw [this] at e; cases e⟩
  have s' : St HF n0 UB R tI tL (W'.setCell ⟨R, m, none⟩ v') (vs.set m v') u (plan.set m l') := by
    refine ⟨hHF.setCell hR.1 _, (Below.heap_setCell _ _ _ _ s.ne).trans ((hoth UB hltU (Ne.symm hvb.1)).trans s.ub), ?_, by simp [s.len], ?_, ?_, s.ne, ?_, ?_, hpl⟩
    · have := heap_setCell_row (i := m) hWR v'
      rw [this]
      simp
    · intro k lk x hlk hx
      rcases hx.set_inv with ⟨rfl, rfl⟩ | ⟨hkm, hx⟩
      · have : lk = l' := hlk.uniq (hl.set_same l')
        subst this
        exact ownsRow_setCell_other hrow hv'ne.2 _
      · have hlk' : At plan k lk := by
          rcases hlk.set_inv with ⟨e, _⟩ | ⟨_, h⟩
          · exact absurd e hkm
          · exact h
        refine ownsRow_setCell_other ?_ (s.rne x hx.mem).2 _
        have h1 := s.rows k lk x hlk' hx
        refine ⟨h1.1, ?_⟩
        rcases h1.2 with h2 | ⟨g, cap, cur, hxv, hb, hg, rest⟩
        · exact .inl h2
        · refine .inr ⟨g, cap, cur, hxv, hb, (hoth g (Array.getElem?_eq_some_iff.1 hg).1 ?_).trans hg, rest⟩
          have := s.apart k m x v hkm hx hv
          rw [hxv] at this
          rcases this with h | h
          · cases h
          · exact h
    · intro k hk
      rcases hsub k hk with h | h
      · exact s.new k h
      · refine ⟨s.hf.none_of_ge h, ?_⟩
        omega
    · intro x hx
      rcases List.mem_or_eq_of_mem_set hx with hx | rfl
      · exact s.rne x hx
      · exact hv'ne
    · intro j k x y hjk hx hy
      rcases hx.set_inv with ⟨hjm, hxv⟩ | ⟨hjm, hx2⟩
      · rcases hy.set_inv with ⟨e, _⟩ | ⟨hkm, hy2⟩
        · exact absurd (hjm.trans e.symm) hjk
        · rw [hxv]
          rcases hat with h | ⟨g, h, hg⟩
          · rw [h]; exact s.apart m k v y (Ne.symm hkm) hv hy2
          · rw [h]
            refine .inr fun e => ?_
            have := s.ownLt (ownB_iff.2 (.inr (.inr ⟨y, hy2.mem, e.symm⟩)))
            omega
      · rcases hy.set_inv with ⟨hkm, hyv⟩ | ⟨hkm, hy2⟩
        · rw [hyv]
          rcases hat with h | ⟨g, h, hg⟩
          · rw [h]; exact s.apart j m x v hjm hx2 hv
          · rw [h]
            cases hxo : x.ownBlock with
            | none => exact .inl rfl
            | some g' =>
              refine .inr fun e => ?_
              cases e
              have := s.ownLt (ownB_iff.2 (.inr (.inr ⟨x, hx2.mem, hxo⟩)))
              omega
        · exact s.apart j k x y hjk hx2 hy2
  refine ⟨s', s.turn s' (hB.setCell hR.2 _) (fun k hk ho => ?_) hsub⟩
  have hkR : k ≠ R := by rintro rfl; rw [ownB_iff.2 (.inr (.inl rfl))] at ho; cases ho
  refine (Below.heap_setCell _ _ _ _ hkR).trans (hoth k hk ?_)
  intro e
  rw [ownB_iff.2 (.inr (.inr ⟨v, hv.mem, e.symm⟩))] at ho; cases ho

/-- The plan as a slice of slices. -/
theorem St.sl (s : St HF n0 UB R tI tL W vs u plan) (hn : plan.length ≤ 1000) (hl : ∀ l ∈ plan, l.length ≤ 1000) : Sl (snapI HF UB R vs W) (.slice (some ⟨R, 0, none⟩) plan.length plan.length) plan := by
  have hR := s.new R (ownB_iff.2 (.inr (.inl rfl)))
  have key : ∀ (n : Nat), reps (snapI HF UB R vs W) (plan.drop n) (vs.drop n) := by
    intro n
    generalize hd : plan.length - n = d
    induction d generalizing n with
    | zero =>
      rw [List.drop_eq_nil_iff.2 (by omega), List.drop_eq_nil_iff.2 (by rw [s.len]; omega)]; rfl
    | succ d ih =>
      have hnp : n < plan.length := by omega
      have hnv : n < vs.length := by rw [s.len]; exact hnp
      rw [List.drop_eq_getElem_cons hnp, List.drop_eq_getElem_cons hnv]
      refine ⟨[vs[n]], vs.drop (n + 1), rfl, ⟨_, rfl, ?_⟩, ih (n + 1) (by omega)⟩
      have hlA : At plan n plan[n] := List.getElem?_eq_getElem hnp
      have hvA : At vs n vs[n] := List.getElem?_eq_getElem hnv
      have hr := s.rows n _ _ hlA hvA
      have hlen := hl _ hlA.mem
      have hi : ∀ x ∈ plan[n], I64 x := fun x hx => s.i64 x (List.mem_flatten.2 ⟨_, hlA.mem, hx⟩)
      rcases hr.2 with ⟨hv, hz⟩ | ⟨g, cap, cur, hv, hb, hg, hnc, hcm, hcs, htake⟩
      · rw [hv, List.eq_nil_of_length_eq_zero hz]; exact Sl.nil0 _
      · have hown : ownB UB R vs g = true := ownB_iff.2 (.inr (.inr ⟨_, hvA.mem, by rw [hv]; rfl⟩))
        rw [hv]
        refine ⟨_, cap, rfl, hnc, by simp only [maxLen] at hcm; omega, by simp only [Enc.by_]; omega, .inr ⟨g, 0, cur, tI, (0, 0), rfl, (snapI_own W (s.new g hown).1 hown).trans hg, by simp [Enc.sz, hcs]; omega, ?_⟩⟩
        rw [List.drop_zero, reps_int]
        exact ⟨by simpa [Enc.sz] using htake, hi⟩
  refine ⟨_, plan.length, rfl, Nat.le_refl _, by omega, by simp only [Enc.by_]; omega, .inr ⟨R, 0, vs.toArray, tL, (0, 0), rfl, (snapI_own W hR.1 (ownB_iff.2 (.inr (.inl rfl)))).trans s.rr, by simp [Enc.sz, s.len], ?_⟩⟩
  have h0 := key 0
  simp only [List.drop_zero] at h0
  simp only [List.drop_zero, Enc.sz, Nat.mul_one, ← s.len]
  rw [List.take_length]
  exact h0
end

end Go.Proofs.Yteijmboophnmgaa
