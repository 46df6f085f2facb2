/- Plans come the least one first; the best plan is the least of the best; the key machine. Plain. -/
import Derived.Test.YteijmboophnmgaaSim
namespace Go.Proofs.Yteijmboophnmgaa

/-- The one list is less than the other, number by number; a beginning is less. -/
def lexL : List Int → List Int → Bool
  | [], [] => false
  | [], _ :: _ => true
  | _ :: _, [] => false
  | x :: xs, y :: ys => if x = y then lexL xs ys else decide (x < y)
def lessP : List (List Int) → List (List Int) → Bool
  | a :: as, b :: bs => if a = b then lessP as bs else lexL a b
  | _, _ => false

theorem lexL_append (a b : List Int) : ∀ l : List Int, lexL (l ++ a) (l ++ b) = lexL a b
  | [] => rfl
  | x :: l => by simp only [List.cons_append, lexL, if_pos]; exact lexL_append a b l
theorem lessP_append (a b : List (List Int)) : ∀ l : List (List Int), lessP (l ++ a) (l ++ b) = lessP a b
  | [] => rfl
  | x :: l => by simp only [List.cons_append, lessP, if_pos]; exact lessP_append a b l
theorem lessP_self : ∀ l : List (List Int), lessP l l = false
  | [] => rfl
  | x :: l => by simp only [lessP, if_pos]; exact lessP_self l

/-- What all plans begin with. -/
def Form (init : List (List Int)) (l : List Int) (p : List (List Int)) : Prop := ∃ r rest, p = init ++ (l ++ r) :: rest
def NotLess (a b : List (List Int)) : Prop := lessP b a = false

theorem plansF_form {h : House} {stop : Int} : ∀ (n : Nat) (init : List (List Int)) (l : List Int) (p : List (List Int)), p ∈ plansF h stop n (init ++ [l]) → Form init l p
  | 0, init, l, p, hp => by
    rcases plansStep_mem hp with ⟨_, rfl⟩ | ⟨_, hp⟩ | ⟨_, b, _, _, hp⟩
    · exact ⟨[], [], by simp⟩
    · cases hp
    · cases hp
  | n + 1, init, l, p, hp => by
    rcases plansStep_mem hp with ⟨_, rfl⟩ | ⟨_, hp⟩ | ⟨_, b, _, _, hp⟩
    · exact ⟨[], [], by simp⟩
    · obtain ⟨r, rest, rfl⟩ := plansF_form n (init ++ [l]) [] p hp
      exact ⟨[], r :: rest, by simp⟩
    · rw [growP_last] at hp
      obtain ⟨r, rest, rfl⟩ := plansF_form n init (l ++ [(b : Int)]) p hp
      exact ⟨(b : Int) :: r, rest, by simp⟩

theorem plansStep_sorted {h : House} {stop : Int} {rec : List (List Int) → List (List (List Int))} (hf : ∀ init l p, p ∈ rec (init ++ [l]) → Form init l p) (hs : ∀ init l, (rec (init ++ [l])).Pairwise NotLess) (init : List (List Int)) (l : List Int) :
    (plansStep h stop rec (init ++ [l])).Pairwise NotLess := by
  have hA : ∀ p ∈ plansA h rec (init ++ [l]), ∃ rest, p = init ++ l :: rest := by
    intro p hp
    unfold plansA at hp
    split at hp
    · exact ⟨[], List.mem_singleton.1 hp⟩
    · obtain ⟨r, rest, rfl⟩ := hf (init ++ [l]) [] p hp
      exact ⟨r :: rest, by simp⟩
  have hAs : (plansA h rec (init ++ [l])).Pairwise NotLess := by
    unfold plansA
    split
    · simp
    · exact hs _ _
  unfold plansStep
  split
  · simpa using hAs
  · have hB : ∀ b : Nat, ∀ p ∈ (if decide ((b : Int) ∈ (init ++ [l]).flatten) then [] else rec (growP (init ++ [l]) b)), ∃ r rest, p = init ++ (l ++ (b : Int) :: r) :: rest := by
      intro b p hp
      split at hp
      · cases hp
      · rw [growP_last] at hp
        obtain ⟨r, rest, rfl⟩ := hf init (l ++ [(b : Int)]) p hp
        exact ⟨r, rest, by simp⟩
    refine List.pairwise_append.2 ⟨hAs, ?_, ?_⟩
    · unfold plansB
      refine List.pairwise_flatMap.2 ⟨fun b _ => ?_, ?_⟩
      · split
        · simp
        · rw [growP_last]; exact hs _ _
      · refine (List.pairwise_lt_range (n := h.bs.length)).imp fun {a b} hab x hx y hy => ?_
        obtain ⟨r, rest, rfl⟩ := hB a x hx
        obtain ⟨r', rest', rfl⟩ := hB b y hy
        unfold NotLess
        rw [lessP_append]
        have hne : (b : Int) ≠ (a : Int) := by omega
        simp only [lessP]
        rw [if_neg (by simp [hne]), lexL_append]
        simp only [lexL]
        rw [if_neg hne]
        exact decide_eq_false (by omega)
    · intro x hx y hy
      obtain ⟨rest, rfl⟩ := hA x hx
      unfold plansB at hy
      obtain ⟨b, _, hy⟩ := List.mem_flatMap.1 hy
      obtain ⟨r', rest', rfl⟩ := hB b y hy
      unfold NotLess
      rw [lessP_append]
      simp only [lessP]
      rw [if_neg (by simp)]
      have := lexL_append ((b : Int) :: r') [] l
      rw [List.append_nil] at this
      rw [this]; rfl
theorem plansF_sorted {h : House} {stop : Int} : ∀ (n : Nat) (init : List (List Int)) (l : List Int), (plansF h stop n (init ++ [l])).Pairwise NotLess
  | 0, init, l => plansStep_sorted (fun _ _ _ hp => by cases hp) (fun _ _ => List.Pairwise.nil) init l
  | n + 1, init, l => plansStep_sorted (fun init l p hp => plansF_form n init l p hp) (fun init l => plansF_sorted n init l) init l
theorem plansOf_sorted (h : House) (stop : Int) : (plansOf h stop).Pairwise NotLess := plansF_sorted _ [] []

theorem bst_first {α : Type} (f : α → Nat) : ∀ (l : List α) (b : α), bst f l b = b ∨ ∃ l1 l2, l = l1 ++ bst f l b :: l2 ∧ f (bst f l b) < f b ∧ ∀ x ∈ l1, f (bst f l b) < f x
  | [], b => .inl rfl
  | y :: l, b => by
    simp only [bst]
    by_cases hy : f y < f b
    · rw [if_pos hy]
      rcases bst_first f l y with e | ⟨l1, l2, e, h1, h2⟩
      · rw [e]; exact .inr ⟨[], l, rfl, hy, by simp⟩
      · refine .inr ⟨y :: l1, l2, by rw [List.cons_append, ← e], by omega, fun x hx => ?_⟩
        rcases List.mem_cons.1 hx with rfl | hx
        · exact h1
        · exact h2 x hx
    · rw [if_neg hy]
      rcases bst_first f l b with e | ⟨l1, l2, e, h1, h2⟩
      · exact .inl e
      · refine .inr ⟨y :: l1, l2, by rw [List.cons_append, ← e], h1, fun x hx => ?_⟩
        rcases List.mem_cons.1 hx with rfl | hx
        · omega
        · exact h2 x hx
/-- Of the best plans the best one is the least. -/
theorem bestOf_least {h : House} (hv : Valid h) {c : Int} {p : List (List Int)} (hp : isPlan h p = true) (hi : Idle p c) (he : lateN h p = lateN h (bestOf h c)) : lessP p (bestOf h c) = false := by
  have hm := (plansOf_iff hv c p).2 ⟨hp, hi⟩
  have hs := plansOf_sorted h c
  obtain ⟨x, hx⟩ := At.mk (plansOf_ne hv c)
  have hsp : ∃ l1 l2, plansOf h c = l1 ++ bestOf h c :: l2 ∧ ∀ y ∈ l1, lateN h (bestOf h c) < lateN h y := by
    have hb : bestOf h c = bst (lateN h) (plansOf h c) x := by unfold bestOf firstBest; rw [hx.getD]
    rcases bst_first (lateN h) (plansOf h c) x with e | ⟨l1, l2, e, _, h2⟩
    · rw [hb, e]
      cases hl : plansOf h c with
      | nil => rw [hl] at hx; simp [At] at hx
      | cons a l =>
        rw [hl] at hx
        have : a = x := by simpa [At] using hx
        exact ⟨[], l, by rw [this]; rfl, by simp⟩
    · rw [hb]; exact ⟨l1, l2, e, h2⟩
  obtain ⟨l1, l2, e, h1⟩ := hsp
  rw [e] at hm hs
  rcases List.mem_append.1 hm with hm | hm
  · have := h1 p hm; omega
  · rcases List.mem_cons.1 hm with rfl | hm
    · exact lessP_self _
    · exact (List.pairwise_cons.1 (List.pairwise_append.1 hs).2.1).1 p hm

/-- The key machine: the first one of the worst. -/
theorem keyTo_max (h : House) : ∀ k, (∀ m : Nat, m < k → (lateN h (bestOf h (m : Int)) : Int) ≤ (keyTo h k).2 ∧ ((lateN h (bestOf h (m : Int)) : Int) = (keyTo h k).2 → (keyTo h k).1 ≤ m)) ∧ (0 < k → ∃ j : Nat, j < k ∧ (keyTo h k).1 = (j : Int) ∧ (keyTo h k).2 = (lateN h (bestOf h (j : Int)) : Int))
  | 0 => ⟨fun m hm => by omega, fun hk => by omega⟩
  | k + 1 => by
    obtain ⟨h1, h2⟩ := keyTo_max h k
    have hb := keyTo_bd h k
    simp only [keyTo]
    split
    · rename_i hlt
      refine ⟨fun m hm => ?_, fun _ => ⟨k, by omega, rfl, rfl⟩⟩
      by_cases e : m = k
      · subst e; exact ⟨Int.le_refl _, fun _ => Int.le_refl _⟩
      · have := h1 m (by omega)
        exact ⟨by simp only; omega, fun e2 => by simp only at e2; omega⟩
    · rename_i hlt
      refine ⟨fun m hm => ?_, fun _ => ?_⟩
      · by_cases e : m = k
        · subst e
          exact ⟨by omega, fun _ => hb.2.1⟩
        · exact h1 m (by omega)
      · have hk : 0 < k := Nat.pos_of_ne_zero fun e => by
          subst e
          apply hlt
          show (-1 : Int) < _
          omega
        obtain ⟨j, hj, h3⟩ := h2 hk
        exact ⟨j, by omega, h3⟩
/-- The best plan if a machine stops is one of all plans. -/
theorem bestOf_stop {h : House} (hv : Valid h) (c : Int) : lateN h (bestOf h (-1)) ≤ lateN h (bestOf h c) :=
  bestOf_le hv (bestOf_plan hv c).1 (fun i hi => by omega)

end Go.Proofs.Yteijmboophnmgaa
