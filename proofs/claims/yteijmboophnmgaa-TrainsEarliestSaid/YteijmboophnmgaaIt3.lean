/- The walk of trains.plans' inner function 'from' at its end: a plan is handed on. -/
import Derived.Test.YteijmboophnmgaaIt2
import Derived.Test.YteijmboophnmgaaTr13
namespace Go.Proofs.Yteijmboophnmgaa
open Go.RowKit

attribute [local go_sem] Holds.drew Holds.alloc Holds.drewN WB.holds Oper.semAt_some FW_fn FW_dep FW_round

/-- A plan of which the first lists are made. -/
def fullP (n : Nat) (first : List (List Int)) : List (List Int) := first ++ List.replicate (n - first.length) []
theorem fullP_len {n : Nat} {first : List (List Int)} (h : first.length ≤ n) : (fullP n first).length = n := by unfold fullP; simp; omega
theorem fullP_all {n : Nat} {first : List (List Int)} (h : first.length = n) : fullP n first = first := by unfold fullP; rw [h]; simp
theorem fullP_flatten (n : Nat) (first : List (List Int)) : (fullP n first).flatten = first.flatten := by
  unfold fullP
  rw [List.flatten_append]
  have : ∀ k, (List.replicate k ([] : List Int)).flatten = [] := fun k => by induction k with
    | zero => rfl
    | succ k ih => rw [List.replicate_succ, List.flatten_cons, ih]; rfl
  rw [this, List.append_nil]
theorem fullP_nil {n : Nat} {first : List (List Int)} (h : first.length < n) : fullP n (first ++ [[]]) = fullP n first := by
  unfold fullP
  rw [List.length_append, List.length_singleton, List.append_assoc]
  congr 1
  rw [show n - first.length = (n - (first.length + 1)) + 1 by omega, List.replicate_succ]; rfl

def encP (h : House) (H : Snap) (p : List (List Int)) (args : Array Value) : Prop := ∃ vp, args = #[vp, arr (readyP h p)] ∧ Sl H vp p

/-- What 'from' finds in memory: its captured variables. -/
structure Env (HF : Snap) (l : Nat) (vm vb vt : Value) (h : House) (stop : Int) (PB YB HB FB SB UB R : Nat) : Prop where
  pb : HF PB = some (.cells #[.slice (some ⟨R, 0, none⟩) h.ms.length h.ms.length] 63 (0, 0))
  yb : HF YB = some (.cells #[.func (.yield l) #[] #[]] 113 (0, 0))
  hb : HF HB = some (.cells (houV vm vb vt h).cells 26 (0, 0))
  fb : HF FB = some (.cells #[.func (.func 103) #[] #[.pointer (some ⟨PB, 0, none⟩), .pointer (some ⟨YB, 0, none⟩), .pointer (some ⟨HB, 0, none⟩), .pointer (some ⟨FB, 0, none⟩), .pointer (some ⟨SB, 0, none⟩), .pointer (some ⟨UB, 0, none⟩)]] 104 (0, 0))
  sb : HF SB = some (.cells #[.int .i64 stop] 3 (0, 0))
  hh : Hou HF vm vb vt h

/-- What 'from' leaves. -/
def FromEnd (HF : Snap) (n0 UB R n : Nat) (first : List (List Int)) (xs pre : List (List (List Int))) (J Jx : Snap → List (List (List Int)) → World → Prop) (e : Ending) (W' : World) : Prop :=
  ∃ vs, St HF n0 UB R 3 24 W' vs (ub first.flatten) (fullP n first) ∧
    ((e = .returned (.bool true) ∧ J (snapI HF UB R vs W') (pre ++ xs) W') ∨ (e = .returned (.bool false) ∧ ∃ q, q <+: xs ∧ Jx (snapI HF UB R vs W') (pre ++ q) W'))

/-- What the rounds do. -/
def Rounds (h : House) (HF : Snap) (l W0 : Nat) (xs : List (List (List Int))) (J Jx : Snap → List (List (List Int)) → World → Prop) : Prop :=
  ∀ Hc pre x W1 args m, Holds Hc W1 → SLe HF Hc → J Hc pre W1 → encP h Hc x args → pre ++ [x] <+: xs →
      YieldAt (FW none) m Try.prog l args W1 fun e W' => Holds Hc W' ∧ W0 ≤ W'.heap.size ∧ ((e = .returned (.bool true) ∧ J Hc (pre ++ [x]) W') ∨ (e = .returned (.bool false) ∧ Jx Hc (pre ++ [x]) W'))

set_option maxRecDepth 100000 in
set_option maxHeartbeats 8000000 in
theorem yield_any (HF : Snap) (n0 l W0 : Nat) (vm vb vt : Value) (h : House) (hv : Valid h) (stop : Int) (PB YB HB FB SB UB R : Nat) (E : Env HF l vm vb vt h stop PB YB HB FB SB UB R)
    (xs : List (List (List Int))) (J Jx : Snap → List (List (List Int)) → World → Prop) (hJ : Abides n0 J) (hY : Rounds h HF l W0 xs J Jx) (first : List (List Int)) (hg : GoodF h first) (hlen : first.length = h.ms.length)
    (pre : List (List (List Int))) (hpre : pre ++ [first] <+: xs) (W : World) (vs : List Value) (s : St HF n0 UB R 3 24 W vs (ub first.flatten) first) (hj : J (snapI HF UB R vs W) pre W) :
    Calls Try.prog 103 #[.int .i64 h.ms.length, .pointer (some ⟨PB, 0, none⟩), .pointer (some ⟨YB, 0, none⟩), .pointer (some ⟨HB, 0, none⟩), .pointer (some ⟨FB, 0, none⟩), .pointer (some ⟨SB, 0, none⟩), .pointer (some ⟨UB, 0, none⟩)] W
      (FromEnd HF n0 UB R h.ms.length first [first] pre J Jx) := by
  have hpl : isPlan h first = true := by simp [isPlan, hlen, hg.good]
  have hb5 := hv.b5
  have hm3 := hv.m3
  have hsl := s.sl (by omega) (fun l' hl' => by
    obtain ⟨k, hk, rfl⟩ := List.getElem_of_mem hl'
    have := isPlan_one hpl (m := k) (l := first[k]) (List.getElem?_eq_getElem hk); omega)
  rw [hlen] at hsl
  have hle := snapI_le (HF := HF) (UB := UB) (R := R) (vs := vs) W
  have hw := s.holds
  obtain ⟨Hc, hHc⟩ : ∃ Hc, Hid (snapI HF UB R vs W = Hc) := ⟨_, rfl⟩
  rw [hHc.out] at hsl hle hw hj
  have hcP := fun (w : World) (hw : Holds Hc w) => cellH (hle _ _ E.pb) hw 0
  have hcY := fun (w : World) (hw : Holds Hc w) => cellH (hle _ _ E.yb) hw 0
  obtain ⟨hh0, hh1, hh2, hh3⟩ := cellsHou (hle _ _ E.hb)
  simp at hcP hcY
  have hhc := E.hh.mono hle
  have hplH := Lib.hid hpl
  replace hlen := Lib.hid hlen
  have hr := readyP_bd hv hpl
  clear hpl
  refine Calls.ofWide (r := none) (n := 3) ?_
  refine callsIn_of_wp Try.func103 rfl trivial ?_ rfl
  simp only [Try.ntmps103, List.size_toArray, List.length_cons, List.length_nil, Nat.reduceAdd, Nat.reduceSub, Array.replicate_succ, Array.replicate_zero, List.push_toArray, List.append_toArray, List.nil_append, List.cons_append]
  gi_wp2
  refine wpIn_region_qtail (C := fun w' => ∃ x : WB Hc W, w' = x.w) 7 (by kernel_rfl) (by kernel_rfl) (by kernel_rfl) ⟨⟨W.drew, hw.drew, (Below.refl _ _).drew⟩, rfl⟩ ?_
  simp only [List.take_succ_cons, List.take_zero, List.drop_succ_cons, List.drop_zero]
  have hne : Nonempty (WB Hc W) := ⟨⟨W, hw, Below.refl _ _⟩⟩
  repeat go_big_quiet_step ((first | (go_at_call 78; exact Calls.quietB (readied_any _ _ _ _ _ _ _ (WB.holds _) hhc hv (padT_len _ _) (padT_bd hv hplH.out))) | (go_at_call 79; exact Calls.quietB (timed_any _ _ _ _ _ _ _ _ (WB.holds _) hhc hsl hv hplH.out))))
  refine wpQuiet_nil ?_
  clear hne
  rintro w2 ⟨⟨_, hw2, hb2⟩, rfl⟩
  have hnW : n0 ≤ W.heap.size := by have := (s.new UB (ownB_iff.2 (.inl rfl))).2; have := s.ownLt (ownB_iff.2 (.inl rfl)); omega
  have hj2 := hJ _ _ _ _ _ hj hw (Turn.ext hw hb2 hnW)
  obtain ⟨fn, tmps, assign, body, hy, hR⟩ := hY Hc pre first w2 #[.slice (some ⟨R, 0, none⟩) h.ms.length h.ms.length, arr (readyT h (padT h first))] 2 hw2 (by rw [← hHc.out]; exact snapI_le W) hj2 ⟨_, rfl, hsl⟩ hpre
  gi_wp2
  refine hR.mono ?_
  clear hR hy
  rintro e W3 ⟨hW3, hz3, (⟨rfl, hJ3⟩ | ⟨rfl, hJx3⟩)⟩
  · gi_wp2
    go_ret
    obtain ⟨s3, he3⟩ := s.kept (by rw [hHc.out]; exact hW3)
    rw [← hHc.out, ← he3] at hJ3
    exact ⟨vs, by rw [fullP_all hlen.out]; exact s3, .inl ⟨rfl, hJ3⟩⟩
  · gi_wp2
    go_ret
    obtain ⟨s3, he3⟩ := s.kept (by rw [hHc.out]; exact hW3)
    rw [← hHc.out, ← he3] at hJx3
    exact ⟨vs, by rw [fullP_all hlen.out]; exact s3, .inr ⟨rfl, [first], List.prefix_refl _, hJx3⟩⟩

end Go.Proofs.Yteijmboophnmgaa
