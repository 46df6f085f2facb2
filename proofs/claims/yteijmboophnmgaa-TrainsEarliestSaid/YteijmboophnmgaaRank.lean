/- The order in which lists of trains are tried: the shorter and the lesser ones first. Plain. -/
import Derived.Test.YteijmboophnmgaaPlain
namespace Go.Proofs.Yteijmboophnmgaa

theorem okTold_sureB (h : House) (l : List Int) : okTold h l = sureB h l := by
  unfold okTold lates sureB
  rw [List.all_map]
  congr 1
  funext c
  simp only [Function.comp_def, reach, okCase, List.any_map]

/-- All lists of trains below a number, the shorter and the lesser ones first. -/
def ranked (nt : Nat) : List (List Int) := ((List.range nt).flatMap fun many => listsOf many nt) ++ [(listsOf nt nt).getD 0 []]

theorem first_least {q : List Int → Bool} {B : List (List Int)} {r : List Int} (h : B.find? q = some r) : q r = true ∧ r ∈ B ∧ ∀ b ∈ B, B.idxOf b < B.idxOf r → q b = false := by
  obtain ⟨hq, l1, l2, rfl, hn⟩ := List.find?_eq_some_iff_append.1 h
  refine ⟨hq, by simp, fun b hb hlt => ?_⟩
  have hr : r ∉ l1 := fun hm => by have := hn r hm; simp [hq] at this
  have hri : (l1 ++ r :: l2).idxOf r = l1.length := by rw [List.idxOf_append, if_neg hr]; simp
  rw [hri] at hlt
  have hbm : b ∈ l1 := by
    have h1 := List.getElem_idxOf (xs := l1 ++ r :: l2) (x := b) (List.idxOf_lt_length_of_mem hb)
    rw [List.getElem_append_left hlt] at h1
    rw [← h1]
    exact List.getElem_mem _
  simpa using hn b hbm

theorem listsFull {nt : Nat} (h : nt ≤ 4) : (listsOf nt nt).getD 0 [] = (List.range nt).map Int.ofNat := by
  rcases (by omega : nt = 0 ∨ nt = 1 ∨ nt = 2 ∨ nt = 3 ∨ nt = 4) with rfl | rfl | rfl | rfl | rfl
  all_goals decide +kernel

theorem sure_full {h : House} (hv : Valid h) : sureB h ((listsOf h.ts.length h.ts.length).getD 0 []) = true := by
  rw [listsFull hv.t4]
  unfold sureB
  rw [List.all_eq_true]
  intro c _
  unfold okCase
  rw [List.any_eq_true]
  obtain ⟨p, hp⟩ := List.exists_mem_of_length_pos (plansOf_ne hv c)
  refine ⟨p, hp, ?_⟩
  rw [List.all_eq_true]
  intro t ht
  simp only [lateOf, lateList, List.mem_map, List.mem_filter, List.mem_range] at ht
  obtain ⟨i, ⟨hi, _⟩, rfl⟩ := ht
  simp only [decide_eq_true_eq, List.mem_map, List.mem_range]
  exact ⟨i, hi, rfl⟩

theorem ranked_rising {nt : Nat} (h : nt ≤ 4) : ∀ l ∈ ranked nt, rising 0 ((nt : Int) - 1) l = true ∧ l.length ≤ nt := by
  rcases (by omega : nt = 0 ∨ nt = 1 ∨ nt = 2 ∨ nt = 3 ∨ nt = 4) with rfl | rfl | rfl | rfl | rfl
  all_goals decide +kernel
theorem toldOf_ranked {h : House} (hv : Valid h) : toldOf h ∈ ranked h.ts.length ∧ sureB h (toldOf h) = true ∧ ∀ l ∈ ranked h.ts.length, (ranked h.ts.length).idxOf l < (ranked h.ts.length).idxOf (toldOf h) → sureB h l = false := by
  have hr : (ranked h.ts.length).find? (sureB h) = some (toldOf h) := by
    unfold ranked toldOf
    rw [List.find?_append, show okTold h = sureB h from funext (okTold_sureB h)]
    cases ((List.range h.ts.length).flatMap fun many => listsOf many h.ts.length).find? (sureB h) with
    | none =>
      show [(listsOf h.ts.length h.ts.length).getD 0 []].find? (sureB h) = some ((listsOf h.ts.length h.ts.length).getD 0 [])
      rw [List.find?_cons_of_pos (sure_full hv)]
    | some x => rfl
  obtain ⟨h1, h2, h3⟩ := first_least hr
  exact ⟨h2, h1, h3⟩

/-- All lists of numbers that rise, from lo on, below lo + n. -/
def subs : Int → Nat → List (List Int)
  | _, 0 => [[]]
  | lo, n + 1 => subs (lo + 1) n ++ (subs (lo + 1) n).map (lo :: ·)
theorem subs_mem : ∀ (n : Nat) (lo : Int) (l : List Int), (∀ x ∈ l, lo ≤ x ∧ x < lo + n) → l.Pairwise (· < ·) → l ∈ subs lo n
  | 0, lo, l, h, _ => by
    cases l with
    | nil => simp [subs]
    | cons x l => have := h x (by simp); omega
  | n + 1, lo, [], _, _ => List.mem_append_left _ (subs_mem n (lo + 1) [] (by simp) .nil)
  | n + 1, lo, x :: l, h, hp => by
    obtain ⟨h1, h2⟩ := List.pairwise_cons.1 hp
    have hx := h x (by simp)
    by_cases e : x = lo
    · subst e
      refine List.mem_append_right _ (List.mem_map.2 ⟨l, subs_mem n (x + 1) l (fun y hy => ?_) h2, rfl⟩)
      have := h1 y hy; have := h y (by simp [hy]); omega
    · refine List.mem_append_left _ (subs_mem n (lo + 1) (x :: l) (fun y hy => ?_) hp)
      rcases List.mem_cons.1 hy with rfl | hy'
      · omega
      · have := h1 y hy'; have := h y hy; omega

structure Ranks (nt : Nat) : Prop where
  sup : ∀ a ∈ subs 0 nt, a ∈ ranked nt
  sub : ∀ a ∈ ranked nt, a ∈ subs 0 nt
  lt : ∀ a ∈ subs 0 nt, ∀ b ∈ subs 0 nt, (a.length < b.length ∨ (a.length = b.length ∧ earlier a b = true)) → (ranked nt).idxOf a < (ranked nt).idxOf b
  nil : (ranked nt).idxOf [] = 0 ∧ [] ∈ ranked nt
theorem ranks {nt : Nat} (h : nt ≤ 4) : Ranks nt := by
  rcases (by omega : nt = 0 ∨ nt = 1 ∨ nt = 2 ∨ nt = 3 ∨ nt = 4) with rfl | rfl | rfl | rfl | rfl
  all_goals exact ⟨by decide +kernel, by decide +kernel, by decide +kernel, by decide +kernel⟩
theorem rising_subs {nt : Nat} {l : List Int} (h : rising 0 ((nt : Int) - 1) l = true) : l ∈ subs 0 nt := by
  obtain ⟨h1, h2⟩ := rising_iff.1 h
  exact subs_mem nt 0 l (fun x hx => by have := h1 x hx; omega) h2

/-- Told is empty just if the house is sure. -/
theorem toldOf_nil {h : House} (hv : Valid h) : toldOf h = [] ↔ sureB h [] = true := by
  obtain ⟨h1, h2, h3⟩ := toldOf_ranked hv
  have R := ranks hv.t4
  constructor
  · intro e; rw [e] at h2; exact h2
  · intro hs
    refine Classical.byContradiction fun hne => ?_
    have hp : (ranked h.ts.length).idxOf [] < (ranked h.ts.length).idxOf (toldOf h) := by
      rw [R.nil.1]
      refine Nat.pos_of_ne_zero fun e => hne ?_
      have g1 := List.getElem_idxOf (xs := ranked h.ts.length) (List.idxOf_lt_length_of_mem h1)
      have g2 := List.getElem_idxOf (xs := ranked h.ts.length) (List.idxOf_lt_length_of_mem R.nil.2)
      rw [← g1, ← g2]
      simp only [e, R.nil.1]
    have := h3 _ R.nil.2 hp
    rw [hs] at this; cases this
/-- No fewer trains, nor a lesser list of as many, serve. -/
theorem toldOf_min {h : House} (hv : Valid h) {l : List Int} (hl : rising 0 ((h.ts.length : Int) - 1) l = true) (hlt : l.length < (toldOf h).length ∨ (l.length = (toldOf h).length ∧ earlier l (toldOf h) = true)) : sureB h l = false := by
  obtain ⟨h1, _, h3⟩ := toldOf_ranked hv
  have R := ranks hv.t4
  exact h3 l (R.sup _ (rising_subs hl)) (R.lt l (rising_subs hl) _ (R.sub _ h1) hlt)
/-- If a house is sure whenever another one is, but for the same trains, Told has not more. -/
theorem toldOf_le {h o : House} (hv : Valid h) (ho : Valid o) (ht : o.ts.length = h.ts.length) (hs : ∀ l, sureB h l = true → sureB o l = true) : (toldOf o).length ≤ (toldOf h).length := by
  obtain ⟨h1, h2, _⟩ := toldOf_ranked hv
  refine Nat.le_of_not_lt fun hlt => ?_
  have := toldOf_min ho (l := toldOf h) (by rw [ht]; exact (ranked_rising hv.t4 _ h1).1) (.inl hlt)
  rw [hs _ h2] at this; cases this
theorem toldOf_same {h o : House} (ht : o.ts.length = h.ts.length) (hs : ∀ l, sureB h l = sureB o l) : toldOf o = toldOf h := by
  unfold toldOf
  rw [show okTold h = okTold o from funext fun l => by rw [okTold_sureB, okTold_sureB, hs], ht]

end Go.Proofs.Yteijmboophnmgaa
