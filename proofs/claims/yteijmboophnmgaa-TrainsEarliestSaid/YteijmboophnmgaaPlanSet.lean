/- Which plans the list of all plans holds: all that leave the stopped machine's list empty. Plain. -/
import Derived.Test.YteijmboophnmgaaPlain
namespace Go.Proofs.Yteijmboophnmgaa

theorem plansStep_mem {h : House} {stop : Int} {rec : List (List Int) → List (List (List Int))} {first p : List (List Int)} (hp : p ∈ plansStep h stop rec first) :
    (first.length = h.ms.length ∧ p = first) ∨ (first.length ≠ h.ms.length ∧ p ∈ rec (first ++ [[]])) ∨ ((first.length : Int) - 1 ≠ stop ∧ ∃ b, b < h.bs.length ∧ (b : Int) ∉ first.flatten ∧ p ∈ rec (growP first b)) := by
  unfold plansStep at hp
  rcases List.mem_append.1 hp with hp | hp
  · unfold plansA at hp
    split at hp
    · exact .inl ⟨by assumption, List.mem_singleton.1 hp⟩
    · exact .inr (.inl ⟨by assumption, hp⟩)
  · split at hp
    · simp at hp
    · unfold plansB at hp
      obtain ⟨b, hb, hp⟩ := List.mem_flatMap.1 hp
      rw [List.mem_range] at hb
      split at hp
      · simp at hp
      · rename_i hs _ hn
        exact .inr (.inr ⟨hs, b, hb, by simpa using hn, hp⟩)

theorem getD_append_nil (first : List (List Int)) (i : Nat) : (first ++ [[]]).getD i [] = first.getD i [] := by
  rw [List.getD_eq_getElem?_getD, List.getD_eq_getElem?_getD]
  by_cases hi : i < first.length
  · rw [List.getElem?_append_left hi]
  · rw [List.getElem?_append_right (by omega), List.getElem?_eq_none (by omega : first.length ≤ i)]
    cases e : i - first.length with
    | zero => rfl
    | succ n => rfl
theorem growP_getD {first : List (List Int)} (hn : 0 < first.length) (b i : Nat) (hi : i ≠ first.length - 1) : (growP first b).getD i [] = first.getD i [] := by
  unfold growP
  simp only [List.getD_eq_getElem?_getD]
  by_cases hlt : i < first.length - 1
  · rw [List.getElem?_append_left (by rw [List.length_take]; omega), List.getElem?_take_of_lt hlt]
  · rw [List.getElem?_eq_none (by rw [List.length_append, List.length_take]; simp; omega), List.getElem?_eq_none (by omega)]

theorem plansF_stop {h : House} {stop : Int} : ∀ (n : Nat) {first : List (List Int)}, GoodF h first → ∀ p ∈ plansF h stop n first, ∀ i : Nat, (i : Int) = stop → p.getD i [] = first.getD i []
  | 0, first, hg, p, hp, i, hi => by
    rcases plansStep_mem hp with ⟨_, rfl⟩ | ⟨_, hp⟩ | ⟨_, b, _, _, hp⟩
    · rfl
    · cases hp
    · cases hp
  | n + 1, first, hg, p, hp, i, hi => by
    rcases plansStep_mem hp with ⟨_, rfl⟩ | ⟨hl, hp⟩ | ⟨hs, b, hb, hn, hp⟩
    · rfl
    · rw [plansF_stop n (hg.nil_ok hl).1 p hp i hi, getD_append_nil]
    · rw [plansF_stop n (hg.grow_ok hb hn).1 p hp i hi, growP_getD hg.ne]
      have := hg.ne
      omega

theorem growP_last (init : List (List Int)) (l : List Int) (b : Nat) : growP (init ++ [l]) b = init ++ [l ++ [(b : Int)]] := by
  unfold growP
  simp

theorem plansF_all {h : House} {stop : Int} : ∀ (n : Nat) (init : List (List Int)) (l r : List Int) (rest : List (List Int)), mu h (init ++ [l]) ≤ n → GoodF h (init ++ [l]) →
    isPlan h (init ++ (l ++ r) :: rest) = true → (∀ i : Nat, (i : Int) = stop → (init ++ (l ++ r) :: rest).getD i [] = (init ++ [l]).getD i []) → init ++ (l ++ r) :: rest ∈ plansF h stop n (init ++ [l]) := by
  intro n
  induction n with
  | zero =>
    intro init l r rest hm hg hp hs
    simp only [isPlan, Bool.and_eq_true, decide_eq_true_eq] at hp
    obtain ⟨hl, hgood⟩ := hp
    obtain ⟨hb, hn⟩ := goodAll_iff.1 hgood
    have hlen := nodup_len _ _ hb hn
    have hle := hg.le
    unfold mu at hm
    simp only [List.length_append, List.length_cons, List.length_nil, List.flatten_append, List.flatten_cons, List.flatten_nil, List.append_nil] at hm hl hlen hle
    have hr : r = [] := List.eq_nil_of_length_eq_zero (by omega)
    have hrest : rest = [] := List.eq_nil_of_length_eq_zero (by omega)
    subst hr; subst hrest
    show _ ∈ plansStep h stop _ _
    unfold plansStep plansA
    rw [if_pos (by simp; omega)]
    simp
  | succ n ih =>
    intro init l r rest hm hg hp hs
    show _ ∈ plansStep h stop (plansF h stop n) _
    have hp' := hp
    simp only [isPlan, Bool.and_eq_true, decide_eq_true_eq] at hp'
    obtain ⟨hl, hgood⟩ := hp'
    obtain ⟨hb, hn⟩ := goodAll_iff.1 hgood
    unfold plansStep
    cases r with
    | nil =>
      refine List.mem_append_left _ ?_
      unfold plansA
      cases rest with
      | nil =>
        rw [if_pos (by simpa using hl)]
        simp
      | cons x rest =>
        have hne : (init ++ [l]).length ≠ h.ms.length := by simp at hl ⊢; omega
        rw [if_neg hne]
        have h1 := hg.nil_ok hne
        have := ih (init ++ [l]) [] x rest (by omega) h1.1 (by simpa using hp) (fun i hi => by
          rw [getD_append_nil]
          have := hs i hi
          simpa using this)
        simpa using this
    | cons b r =>
      refine List.mem_append_right _ ?_
      have hmem : b ∈ (init ++ (l ++ b :: r) :: rest).flatten := by simp
      obtain ⟨hb0, hb1⟩ := hb b hmem
      obtain ⟨k, rfl⟩ := Int.eq_ofNat_of_zero_le hb0
      have hk : k < h.bs.length := by omega
      have hnot : (k : Int) ∉ (init ++ [l]).flatten := by
        have e : (init ++ (l ++ (k : Int) :: r) :: rest).flatten = (init ++ [l]).flatten ++ ((k : Int) :: (r ++ rest.flatten)) := by simp
        rw [e, List.nodup_append] at hn
        exact fun hm => hn.2.2 _ hm _ (by simp) rfl
      have hst : ((init ++ [l]).length : Int) - 1 ≠ stop := fun e => by
        have := hs init.length (by simp at e; omega)
        rw [List.getD_eq_getElem?_getD, List.getD_eq_getElem?_getD, List.getElem?_append_right (Nat.le_refl _), List.getElem?_append_right (Nat.le_refl _)] at this
        simp at this
      rw [if_neg hst]
      unfold plansB
      refine List.mem_flatMap.2 ⟨k, List.mem_range.2 hk, ?_⟩
      rw [if_neg (by simpa using hnot)]
      have h1 := hg.grow_ok hk hnot
      rw [growP_last] at h1 ⊢
      have := ih init (l ++ [(k : Int)]) r rest (by omega) h1.1 (by simpa using hp) (fun i hi => by
        have h2 := hs i hi
        have h3 : i ≠ init.length := fun e => hst (by simp; omega)
        have h4 : (init ++ [l ++ [(k : Int)]]).getD i [] = (init ++ [l]).getD i [] := by
          rw [List.getD_eq_getElem?_getD, List.getD_eq_getElem?_getD]
          by_cases hlt : i < init.length
          · rw [List.getElem?_append_left hlt, List.getElem?_append_left hlt]
          · rw [List.getElem?_eq_none (by simp; omega), List.getElem?_eq_none (by simp; omega)]
        rw [h4, ← h2]
        simp)
      simpa using this

/-- All plans by which the stopped machine prints nothing. -/
theorem plansOf_iff {h : House} (hv : Valid h) (stop : Int) (p : List (List Int)) : p ∈ plansOf h stop ↔ isPlan h p = true ∧ ∀ i : Nat, (i : Int) = stop → p.getD i [] = [] := by
  constructor
  · intro hp
    refine ⟨plansOf_isPlan hv stop p hp, fun i hi => ?_⟩
    rw [plansF_stop _ (goodF_start hv) p hp i hi]
    cases i <;> rfl
  · rintro ⟨hp, hs⟩
    have hl : p.length = h.ms.length := by
      simp only [isPlan, Bool.and_eq_true, decide_eq_true_eq] at hp
      exact hp.1
    have hm := hv.m1
    cases p with
    | nil => simp at hl; omega
    | cons l rest =>
      have := plansF_all (h := h) (stop := stop) (mu h [[]]) [] [] l rest (by simp) (goodF_start hv) (by simpa using hp) (fun i hi => by
        have := hs i hi
        rw [show ([] ++ ([] ++ l) :: rest : List (List Int)) = l :: rest by simp, this]
        cases i <;> rfl)
      simpa [plansOf] using this

end Go.Proofs.Yteijmboophnmgaa
