/- The plain laws of Told and Sure: what the program computes is what the document says. -/
import Derived.Test.YteijmboophnmgaaTold
import Derived.Test.YteijmboophnmgaaTop
import Derived.Test.YteijmboophnmgaaRef4k
import Derived.Test.YteijmboophnmgaaRank
namespace Go.Proofs.Yteijmboophnmgaa

/-- All lists in the order of the program's sets. -/
def setted (nt : Nat) : List (List Int) := (List.range (2 ^ nt)).map setList
def ltL (a b : List Int) : Bool := decide (a.length < b.length) || (decide (a.length = b.length) && decide (cmpL a b < 0))
def stepQ (q : List Int → Bool) (a : List Int × Nat) (l : List Int) : List Int × Nat :=
  if (decide (l.length < a.2) || (decide (l.length = a.2) && decide (cmpL l a.1 < 0))) && q l then (l, l.length) else a

/-- What is to be known of the two orders. -/
structure Orders (nt : Nat) : Prop where
  sub : ∀ a ∈ setted nt, a ∈ ranked nt
  sup : ∀ a ∈ ranked nt, a ∈ setted nt
  lt : ∀ a ∈ setted nt, ∀ b ∈ setted nt, ltL a b = decide ((ranked nt).idxOf a < (ranked nt).idxOf b)
  len : ∀ a ∈ setted nt, a.length < nt + 1
  nil : (ranked nt).head? = some []
  full : (listsOf nt nt).getD 0 [] = (List.range nt).map Int.ofNat
  last : (listsOf nt nt).getD 0 [] ∈ setted nt

theorem orders {nt : Nat} (h : nt ≤ 4) : Orders nt := by
  rcases (by omega : nt = 0 ∨ nt = 1 ∨ nt = 2 ∨ nt = 3 ∨ nt = 4) with rfl | rfl | rfl | rfl | rfl
  all_goals exact ⟨by decide +kernel, by decide +kernel, by decide +kernel, by decide +kernel, by decide +kernel, by decide +kernel, by decide +kernel⟩

theorem fold_least {nt : Nat} (O : Orders nt) (q : List Int → Bool) : ∀ (A seen : List (List Int)) (a : List Int × Nat), (∀ l ∈ A, l ∈ setted nt) →
    ((a = ([], nt + 1) ∧ ∀ l ∈ seen, q l = false) ∨ (a.2 = a.1.length ∧ a.1 ∈ setted nt ∧ q a.1 = true ∧ ∀ l ∈ seen, q l = true → (ranked nt).idxOf a.1 ≤ (ranked nt).idxOf l)) →
    ((A.foldl (stepQ q) a = ([], nt + 1) ∧ ∀ l ∈ seen ++ A, q l = false) ∨ ((A.foldl (stepQ q) a).2 = (A.foldl (stepQ q) a).1.length ∧ (A.foldl (stepQ q) a).1 ∈ setted nt ∧ q (A.foldl (stepQ q) a).1 = true ∧ ∀ l ∈ seen ++ A, q l = true → (ranked nt).idxOf (A.foldl (stepQ q) a).1 ≤ (ranked nt).idxOf l))
  | [], seen, a, _, h => by simpa using h
  | x :: A, seen, a, hA, h => by
    have hx := hA x (by simp)
    have ih := fold_least O q A (seen ++ [x]) (stepQ q a x) (fun l hl => hA l (by simp [hl])) ?_
    · simpa using ih
    · cases hq : q x
      · have e : stepQ q a x = a := by unfold stepQ; rw [hq]; simp
        rw [e]
        rcases h with ⟨h1, h2⟩ | ⟨h1, h2, h3, h4⟩
        · refine .inl ⟨h1, fun l hl => ?_⟩
          rcases List.mem_append.1 hl with hl | hl
          · exact h2 l hl
          · rw [List.mem_singleton.1 hl]; exact hq
        · refine .inr ⟨h1, h2, h3, fun l hl hql => ?_⟩
          rcases List.mem_append.1 hl with hl | hl
          · exact h4 l hl hql
          · rw [List.mem_singleton.1 hl, hq] at hql; cases hql
      · rcases h with ⟨h1, h2⟩ | ⟨h1, h2, h3, h4⟩
        · subst h1
          have e : stepQ q ([], nt + 1) x = (x, x.length) := by
            unfold stepQ
            rw [hq, show decide (x.length < nt + 1) = true from decide_eq_true (O.len x hx)]
            simp
          rw [e]
          refine .inr ⟨rfl, hx, hq, fun l hl hql => ?_⟩
          rcases List.mem_append.1 hl with hl | hl
          · rw [h2 l hl] at hql; cases hql
          · rw [List.mem_singleton.1 hl]; exact Nat.le_refl _
        · have hlt := O.lt x hx a.1 h2
          cases hc : ltL x a.1
          · have e : stepQ q a x = a := by
              unfold stepQ
              unfold ltL at hc
              rw [h1, hc]; simp
            rw [e]
            rw [hc] at hlt
            refine .inr ⟨h1, h2, h3, fun l hl hql => ?_⟩
            rcases List.mem_append.1 hl with hl | hl
            · exact h4 l hl hql
            · rw [List.mem_singleton.1 hl]; have := of_decide_eq_false hlt.symm; omega
          · have e : stepQ q a x = (x, x.length) := by
              unfold stepQ
              unfold ltL at hc
              rw [h1, hc, hq]; simp
            rw [e]
            rw [hc] at hlt
            have hle := of_decide_eq_true hlt.symm
            refine .inr ⟨rfl, hx, hq, fun l hl hql => ?_⟩
            rcases List.mem_append.1 hl with hl | hl
            · have := h4 l hl hql; show (ranked nt).idxOf x ≤ _; omega
            · rw [List.mem_singleton.1 hl]; exact Nat.le_refl _

theorem told_eq {nt : Nat} (h4 : nt ≤ 4) (q : List Int → Bool) (hf : q ((listsOf nt nt).getD 0 []) = true) :
    ((setted nt).foldl (stepQ q) ([], nt + 1)).1 = (((List.range nt).flatMap fun many => listsOf many nt).find? q).getD ((listsOf nt nt).getD 0 []) ∧
    (((((List.range nt).flatMap fun many => listsOf many nt).find? q).getD ((listsOf nt nt).getD 0 [])).length = 0 ↔ q [] = true) := by
  have O := orders h4
  have hr : (ranked nt).find? q = some ((((List.range nt).flatMap fun many => listsOf many nt).find? q).getD ((listsOf nt nt).getD 0 [])) := by
    unfold ranked
    rw [List.find?_append]
    cases ((List.range nt).flatMap fun many => listsOf many nt).find? q with
    | none =>
      show [(listsOf nt nt).getD 0 []].find? q = some ((listsOf nt nt).getD 0 [])
      rw [List.find?_cons_of_pos hf]
    | some x => rfl
  generalize (((List.range nt).flatMap fun many => listsOf many nt).find? q).getD ((listsOf nt nt).getD 0 []) = r at hr
  obtain ⟨hq, hm, hlt⟩ := first_least hr
  constructor
  · rcases fold_least O q (setted nt) [] ([], nt + 1) (fun _ h => h) (.inl ⟨rfl, by simp⟩) with ⟨_, h2⟩ | ⟨_, h2, h3, h5⟩
    · have := h2 _ (List.mem_append_right [] O.last); rw [hf] at this; cases this
    · have h6 := h5 r (by simpa using O.sup r hm) hq
      have h7 : ¬ (ranked nt).idxOf ((setted nt).foldl (stepQ q) ([], nt + 1)).1 < (ranked nt).idxOf r := fun hl => by
        have := hlt _ (O.sub _ h2) hl
        rw [h3] at this; cases this
      have h8 : (ranked nt).idxOf ((setted nt).foldl (stepQ q) ([], nt + 1)).1 = (ranked nt).idxOf r := by omega
      have g1 := List.getElem_idxOf (xs := ranked nt) (List.idxOf_lt_length_of_mem (O.sub _ h2))
      have g2 := List.getElem_idxOf (xs := ranked nt) (List.idxOf_lt_length_of_mem hm)
      rw [← g1, ← g2]
      simp only [h8]
  · constructor
    · intro h0
      rw [List.length_eq_zero_iff.1 h0] at hq
      exact hq
    · intro h0
      have hh := O.nil
      cases hb : ranked nt with
      | nil => rw [hb] at hh; cases hh
      | cons a B =>
        rw [hb] at hh hr
        simp at hh
        subst hh
        rw [List.find?_cons_of_pos h0] at hr
        cases hr
        rfl

theorem toldRun_eq (h : House) (n : Nat) : (List.range n).foldl (toldStep h) ([], h.ts.length + 1) = ((List.range n).map setList).foldl (stepQ (sureB h)) ([], h.ts.length + 1) := by
  rw [List.foldl_map]
  rfl

/-- Told: what the program returns is what the document says. -/
theorem toldT_eq (h : House) : toldT h = toldA h := by
  unfold toldT toldA
  cases hv : valid h
  · rfl
  · have hV := valid_iff.1 hv
    simp only [if_true]
    unfold toldRun
    rw [toldRun_eq]
    have := (told_eq hV.t4 (sureB h) (sure_full hV)).1
    unfold setted at this
    rw [this]
    unfold toldOf
    rw [show okTold h = sureB h from funext (okTold_sureB h)]
/-- Sure. -/
theorem sureT_eq (h : House) : sureT h = sureA h := by
  unfold sureT sureA
  cases hv : valid h
  · rfl
  · have hV := valid_iff.1 hv
    have := (told_eq hV.t4 (sureB h) (sure_full hV)).2
    unfold toldOf
    rw [show okTold h = sureB h from funext (okTold_sureB h)]
    rw [Bool.true_and]
    cases hs : sureB h []
    · rw [hs] at this
      simp at this
      simp [this]
    · rw [hs] at this
      simp at this
      simp [this]

end Go.Proofs.Yteijmboophnmgaa
