/- The plain laws of Wait and Spare: what the program computes is what the document says. -/
import Derived.Test.YteijmboophnmgaaWait
import Derived.Test.YteijmboophnmgaaSpare
import Derived.Test.YteijmboophnmgaaRef4i
namespace Go.Proofs.Yteijmboophnmgaa

theorem overTo_congr {h : House} {a b : List Int} {t : Int} : ∀ (k : Nat), (∀ i, i < k → a.getD i 0 = b.getD i 0) → overTo h a t k = overTo h b t k
  | 0, _ => rfl
  | k + 1, hk => by
    have ih := overTo_congr (h := h) (t := t) k (fun i hi => hk i (by omega))
    simp only [overTo, ih, hk k (by omega)]

/-- How many minutes a train waits for, by the document's count and by the program's. -/
theorem over_ready_to {h : House} (hv : Valid h) {ts : List Int} (hts : ∀ x ∈ ts, -1 ≤ x ∧ x ≤ 1000) {t : Nat} (ht : t < h.ts.length) : ∀ k, k ≤ h.bs.length →
    (overTo h ts t k = none ∧ (readyTo h ts k).getD t 0 = 1048576) ∨
    (overTo h ts t k = some (-100000) ∧ (readyTo h ts k).getD t 0 = 0 ∧ ∀ i, i < k → (bund h (i : Nat)).t ≠ (t : Int)) ∨
    (overTo h ts t k = some ((readyTo h ts k).getD t 0 - h.ts.getD t 0) ∧ 0 ≤ (readyTo h ts k).getD t 0 ∧ (readyTo h ts k).getD t 0 ≤ 1000)
  | 0, _ => by
    refine .inr (.inl ⟨rfl, ?_, fun i hi => by omega⟩)
    have ht4 := hv.t4
    rcases (by omega : t = 0 ∨ t = 1 ∨ t = 2 ∨ t = 3) with rfl | rfl | rfl | rfl <;> rfl
  | k + 1, hk => by
    have ih := over_ready_to hv hts ht k (by omega)
    have ht4 := hv.t4
    have hlen := readyTo_len h ts k
    have hrb := readyTo_bd (h := h) hts k
    have hb := bs_bd hv (show k < h.bs.length by omega)
    have hbk : (h.bs.getD k default) = bund h (k : Nat) := by unfold bund; simp
    have hx := getD_bd (lo := -1) (hi := 1000) (by omega) hts k
    have htr := tsD_bd hv t
    by_cases e : (bund h (k : Nat)).t = (t : Int)
    · have hset : (readyTo h ts (k + 1)).getD t 0 = max ((readyTo h ts k).getD t 0) (if ts.getD k 0 = -1 then 1048576 else ts.getD k 0) := by
        simp only [readyTo, e, Int.toNat_natCast]
        rw [List.getD_eq_getElem?_getD, List.getElem?_set_self (by omega)]
        rfl
      have hov : overTo h ts t (k + 1) = match overTo h ts t k with
          | none => none
          | some o => if ts.getD k 0 < 0 then none else some (max o (ts.getD k 0 - h.ts.getD t 0)) := by
        simp only [overTo, e, if_true, Int.toNat_natCast]
        cases overTo h ts (t : Int) k <;> rfl
      rw [hset, hov]
      rcases ih with ⟨h1, h2⟩ | ⟨h1, h2, h3⟩ | ⟨h1, h2, h3⟩
      · rw [h1, h2]
        refine .inl ⟨rfl, ?_⟩
        split <;> omega
      · rw [h1, h2]
        by_cases hn : ts.getD k 0 < 0
        · refine .inl ⟨by simp only [hn, if_true], ?_⟩
          rw [if_pos (by omega)]; omega
        · refine .inr (.inr ⟨?_, ?_, ?_⟩)
          · simp only [hn, if_false]
            rw [if_neg (by omega)]
            congr 1
            omega
          · rw [if_neg (by omega)]; omega
          · rw [if_neg (by omega)]; omega
      · rw [h1]
        by_cases hn : ts.getD k 0 < 0
        · refine .inl ⟨by simp only [hn, if_true], ?_⟩
          rw [if_pos (by omega)]; omega
        · refine .inr (.inr ⟨?_, ?_, ?_⟩)
          · simp only [hn, if_false]
            rw [if_neg (by omega)]
            congr 1
            omega
          · rw [if_neg (by omega)]; omega
          · rw [if_neg (by omega)]; omega
    · have hb0 : 0 ≤ (bund h (k : Nat)).t := by rw [← hbk]; first | exact hb.1 | (rw [hbk]; exact hb.1)
      have hne : (bund h (k : Nat)).t.toNat ≠ t := by omega
      have hset : (readyTo h ts (k + 1)).getD t 0 = (readyTo h ts k).getD t 0 := by
        simp only [readyTo]
        rw [List.getD_eq_getElem?_getD, List.getElem?_set_ne hne, ← List.getD_eq_getElem?_getD]
      have hov : overTo h ts t (k + 1) = overTo h ts t k := by
        simp only [overTo, e, if_false]
        cases overTo h ts t k <;> rfl
      rw [hset, hov]
      rcases ih with ih | ⟨h1, h2, h3⟩ | ih
      · exact .inl ih
      · refine .inr (.inl ⟨h1, h2, fun i hi => ?_⟩)
        by_cases hik : i = k
        · subst hik; exact e
        · exact h3 i (by omega)
      · exact .inr (.inr ih)

theorem over_ready {h : House} (hv : Valid h) {p : List (List Int)} (hp : isPlan h p = true) {t : Nat} (ht : t < h.ts.length) :
    (overOf h p t = 100000 ∧ (readyP h p).getD t 0 = 1048576) ∨
    (overOf h p t = -100000 ∧ (readyP h p).getD t 0 = 0 ∧ ∀ i, i < h.bs.length → (bund h (i : Nat)).t ≠ (t : Int)) ∨
    (overOf h p t = (readyP h p).getD t 0 - h.ts.getD t 0 ∧ 0 ≤ (readyP h p).getD t 0 ∧ (readyP h p).getD t 0 ≤ 1000) := by
  have e : overTo h (timesOf h p) t h.bs.length = overTo h (padT h p) t h.bs.length := by
    refine overTo_congr _ fun i hi => ?_
    rw [padT_eq hv.b5 hp, List.getD_eq_getElem?_getD, List.getD_eq_getElem?_getD, List.getElem?_append_left (by rw [timesOf_len]; exact hi)]
  unfold overOf
  rw [e]
  rcases over_ready_to hv (padT_bd hv hp) ht h.bs.length (Nat.le_refl _) with ⟨h1, h2⟩ | ⟨h1, h2, h3⟩ | ⟨h1, h2, h3⟩
  · exact .inl ⟨by rw [h1]; rfl, h2⟩
  · exact .inr (.inl ⟨by rw [h1]; rfl, h2, h3⟩)
  · exact .inr (.inr ⟨by rw [h1]; rfl, h2, h3⟩)

theorem lateOf_nodup (h : House) (p : List (List Int)) : (lateOf h p).Nodup := by
  unfold lateOf lateList
  exact List.pairwise_map.2 ((List.nodup_range.sublist List.filter_sublist).imp fun hne e => hne (Int.ofNat.inj e))
theorem one_or_none {l : List Int} {t : Int} (hn : l.Nodup) : (l.all fun x => decide (x ∈ [t])) = true ↔ l = [] ∨ l = [t] := by
  constructor
  · intro h
    simp only [List.all_eq_true, decide_eq_true_eq, List.mem_singleton] at h
    match l, hn, h with
    | [], _, _ => exact .inl rfl
    | [x], _, h => exact .inr (by rw [h x (by simp)])
    | x :: y :: l, hn, h => exact absurd ((h x (by simp)).trans (h y (by simp)).symm) (by simp at hn; exact hn.1.1)
  · rintro (rfl | rfl) <;> simp

/-- Equal, or both past every train's minutes. -/
def Far2 (x y : Int) : Prop := x = y ∨ (1000 < x ∧ 1000 < y)
theorem Far2.min {x y x' y' : Int} (h : Far2 x y) (k : Far2 x' y') : Far2 (min x x') (min y y') := by unfold Far2 at *; omega
theorem Far2.max {x y x' y' : Int} (h : Far2 x y) (k : Far2 x' y') : Far2 (max x x') (max y y') := by unfold Far2 at *; omega

theorem waitPlan_far {h : House} (hv : Valid h) {t : Nat} (ht : t < h.ts.length) {p : List (List Int)} (hp : isPlan h p = true) {x y : Int} (hxy : Far2 x y) : Far2 (waitPlanT h t x p) (waitPlan h t y p) := by
  unfold waitPlanT waitPlan
  by_cases e : lateOf h p = [] ∨ lateOf h p = [(t : Int)]
  · rw [if_pos ((one_or_none (lateOf_nodup h p)).2 e), if_pos e]
    refine hxy.min ?_
    have htr := tsD_bd hv t
    have := over_ready hv hp ht
    unfold Far2
    omega
  · rw [if_neg (fun k => e ((one_or_none (lateOf_nodup h p)).1 k)), if_neg e]
    exact hxy
theorem waitFold_far {h : House} (hv : Valid h) {t : Nat} (ht : t < h.ts.length) : ∀ (l : List (List (List Int))) {x y : Int}, (∀ p ∈ l, isPlan h p = true) → Far2 x y → Far2 (l.foldl (waitPlanT h t) x) (l.foldl (waitPlan h t) y)
  | [], _, _, _, hxy => hxy
  | p :: l, _, _, hl, hxy => waitFold_far hv ht l (fun q hq => hl q (by simp [hq])) (waitPlan_far hv ht (hl p (by simp)) hxy)
theorem waitCases_far {h : House} (hv : Valid h) {t : Nat} (ht : t < h.ts.length) : ∀ (l : List Int) {x y : Int}, Far2 x y → Far2 (l.foldl (fun o c => max o (waitCaseT h t c)) x) (l.foldl (fun o c => max o (waitCase h t c)) y)
  | [], _, _, hxy => hxy
  | c :: l, _, _, hxy => waitCases_far hv ht l (hxy.max (waitFold_far hv ht (plansOf h c) (plansOf_isPlan hv c) (.inr (by omega))))
theorem waitRaw_far {h : House} (hv : Valid h) {t : Nat} (ht : t < h.ts.length) : Far2 (waitRawT h t) (waitRaw h t) := waitCases_far hv ht _ (.inl rfl)

/-- Wait: what the program returns is what the document says. -/
theorem waitT_eq (h : House) (t : Int) : waitTV h t = waitVal h t ∧ waitTE h t = waitErr h t := by
  unfold waitTV waitVal waitTE waitErr errA
  cases hb : valid h
  · simp
  · cases hw : within t 0 ((h.ts.length : Int) - 1)
    · simp
    · have hv := valid_iff.1 hb
      have htb := within_iff.1 hw
      obtain ⟨j, rfl⟩ := Int.eq_ofNat_of_zero_le htb.1
      have hj : j < h.ts.length := by omega
      have hf := waitRaw_far hv hj
      have htr := tsD_bd hv j
      rw [Int.toNat_natCast]
      simp only [Bool.true_and, if_true]
      unfold Far2 at hf
      by_cases e : h.ts.getD j 0 + waitRawT h j ≤ 99
      · have h2 : ¬ 99 - h.ts.getD j 0 < waitRaw h j := by omega
        have h3 : waitRawT h j = waitRaw h j := by omega
        rw [if_neg h2, if_neg h2, if_pos e, decide_eq_true e, if_pos rfl]
        exact ⟨h3, rfl⟩
      · have h2 : 99 - h.ts.getD j 0 < waitRaw h j := by omega
        rw [if_pos h2, if_pos h2, if_neg e, decide_eq_false e, if_neg (by decide)]
        exact ⟨rfl, rfl⟩

/-! ### Spare -/

def cl (x : Int) : Int := max (-1) (min 99 x)
theorem cl_min (x y : Int) : cl (min x y) = min (cl x) (cl y) := by unfold cl; omega
theorem cl_max (x y : Int) : cl (max x y) = max (cl x) (cl y) := by unfold cl; omega

theorem minTo_le {α : Type} (f : α → Int) : ∀ (l : List α) (a m : Int), m ≤ cl (l.foldl (fun o x => min o (f x)) a) ↔ m ≤ cl a ∧ ∀ x ∈ l, m ≤ cl (f x)
  | [], a, m => by simp
  | x :: l, a, m => by
    rw [List.foldl_cons, minTo_le f l, cl_min]
    simp only [List.mem_cons, forall_eq_or_imp]
    constructor
    · rintro ⟨h1, h2⟩
      exact ⟨by omega, by omega, h2⟩
    · rintro ⟨h1, h2, h3⟩
      exact ⟨by omega, h3⟩
theorem cl_le (x : Int) : -1 ≤ cl x ∧ cl x ≤ 99 := by unfold cl; omega

theorem spare_cl {h : House} (hv : Valid h) {p : List (List Int)} (hp : isPlan h p = true) : cl (sparePT h p) = cl (sparePlan h p) := by
  have hT : ∀ m, m ≤ cl (sparePT h p) ↔ m ≤ cl 99 ∧ ∀ b ∈ h.bs, m ≤ cl (h.ts.getD b.t.toNat 0 - (readyP h p).getD b.t.toNat 0) := fun m => minTo_le (fun b : Bund => h.ts.getD b.t.toNat 0 - (readyP h p).getD b.t.toNat 0) h.bs 99 m
  have hR : ∀ m, m ≤ cl (sparePlan h p) ↔ m ≤ cl 100000 ∧ ∀ t ∈ List.range h.ts.length, m ≤ cl (-(overOf h p (t : Nat))) := fun m => minTo_le (fun t : Nat => -(overOf h p (t : Int))) (List.range h.ts.length) 100000 m
  have c99 : cl 99 = 99 := by decide
  have c100 : cl 100000 = 99 := by decide
  apply Int.le_antisymm
  · rw [hR]
    have h1 := (hT _).1 (Int.le_refl (cl (sparePT h p)))
    refine ⟨by rw [c100, ← c99]; exact h1.1, fun t ht => ?_⟩
    have ht' : t < h.ts.length := List.mem_range.1 ht
    have htr := tsD_bd hv t
    rcases over_ready hv hp ht' with ⟨e1, e2⟩ | ⟨e1, _, _⟩ | ⟨e1, e2, e3⟩
    · by_cases hb : ∃ b ∈ h.bs, b.t = (t : Int)
      · obtain ⟨b, hbm, hbt⟩ := hb
        have := h1.2 b hbm
        rw [hbt, Int.toNat_natCast, e2] at this
        rw [e1]
        unfold cl at *
        omega
      · exfalso
        have hall : ∀ k, k ≤ h.bs.length → overTo h (timesOf h p) t k = some (-100000) := by
          intro k
          induction k with
          | zero => intro _; rfl
          | succ k ih =>
            intro hk
            have hne : (bund h (k : Nat)).t ≠ (t : Int) := fun e => hb ⟨h.bs[k], List.getElem_mem _, by rw [← e]; unfold bund; simp [List.getD_eq_getElem?_getD, List.getElem?_eq_getElem (show k < h.bs.length by omega)]⟩
            simp only [overTo, ih (by omega), hne, if_false]
        unfold overOf at e1
        rw [hall _ (Nat.le_refl _)] at e1
        have e4 : (-100000 : Int) = 100000 := e1
        omega
    · rw [e1]
      have := cl_le (sparePT h p)
      rw [show cl (-(-100000)) = 99 by decide]
      exact this.2
    · by_cases hb : ∃ b ∈ h.bs, b.t = (t : Int)
      · obtain ⟨b, hbm, hbt⟩ := hb
        have := h1.2 b hbm
        rw [hbt, Int.toNat_natCast] at this
        rw [e1, show -((readyP h p).getD t 0 - h.ts.getD t 0) = h.ts.getD t 0 - (readyP h p).getD t 0 by omega]
        exact this
      · exfalso
        have hall : ∀ k, k ≤ h.bs.length → overTo h (timesOf h p) t k = some (-100000) := by
          intro k
          induction k with
          | zero => intro _; rfl
          | succ k ih =>
            intro hk
            have hne : (bund h (k : Nat)).t ≠ (t : Int) := fun e => hb ⟨h.bs[k], List.getElem_mem _, by rw [← e]; unfold bund; simp [List.getD_eq_getElem?_getD, List.getElem?_eq_getElem (show k < h.bs.length by omega)]⟩
            simp only [overTo, ih (by omega), hne, if_false]
        unfold overOf at e1
        rw [hall _ (Nat.le_refl _)] at e1
        have e4 : (-100000 : Int) = (readyP h p).getD t 0 - h.ts.getD t 0 := e1
        omega
  · rw [hT]
    have h1 := (hR _).1 (Int.le_refl (cl (sparePlan h p)))
    refine ⟨by rw [c99, ← c100]; exact h1.1, fun b hbm => ?_⟩
    obtain ⟨k, hk⟩ := List.getElem?_of_mem hbm
    have hkl : k < h.bs.length := (List.getElem?_eq_some_iff.1 hk).1
    have hbk : bund h (k : Nat) = b := by unfold bund; simp [List.getD_eq_getElem?_getD, hk]
    have hbb := bs_bd hv hkl
    have hbt : 0 ≤ b.t ∧ b.t < h.ts.length := by rw [← hbk]; exact hbb
    obtain ⟨j, hj⟩ := Int.eq_ofNat_of_zero_le hbt.1
    have hjl : j < h.ts.length := by omega
    have h2 := h1.2 j (List.mem_range.2 hjl)
    have htr := tsD_bd hv j
    rw [hj, Int.toNat_natCast]
    rcases over_ready hv hp hjl with ⟨e1, e2⟩ | ⟨_, _, e3⟩ | ⟨e1, e2, e3⟩
    · rw [e1] at h2
      rw [e2]
      unfold cl at *
      omega
    · exact absurd (by rw [hbk, hj]) (e3 k hkl)
    · rw [e1, show -((readyP h p).getD j 0 - h.ts.getD j 0) = h.ts.getD j 0 - (readyP h p).getD j 0 by omega] at h2
      exact h2

theorem spareFold_cl {h : House} (hv : Valid h) : ∀ (l : List (List (List Int))) {x y : Int}, (∀ p ∈ l, isPlan h p = true) → cl x = cl y → cl (l.foldl (fun m p => max m (sparePT h p)) x) = cl (l.foldl (fun m p => max m (sparePlan h p)) y)
  | [], _, _, _, hxy => hxy
  | p :: l, _, _, hl, hxy => spareFold_cl hv l (fun q hq => hl q (by simp [hq])) (by rw [cl_max, cl_max, hxy, spare_cl hv (hl p (by simp))])
theorem spareCases_cl {h : House} (hv : Valid h) : ∀ (l : List Int) {x y : Int}, cl x = cl y → cl (l.foldl (fun o c => min o (spareCaseT h c)) x) = cl (l.foldl (fun o c => min o (spareCase h c)) y)
  | [], _, _, hxy => hxy
  | c :: l, _, _, hxy => spareCases_cl hv l (by rw [cl_min, cl_min, hxy]; unfold spareCaseT spareCase; rw [spareFold_cl hv (plansOf h c) (plansOf_isPlan hv c) (show cl (-1) = cl (-100000) by decide)])

theorem spareRaw_le (h : House) : ∀ (l : List Int) (a : Int), a ≤ 99 → l.foldl (fun o c => min o (spareCase h c)) a ≤ 99
  | [], _, ha => ha
  | c :: l, _, ha => spareRaw_le h l _ (by show min _ (spareCase h c) ≤ 99; omega)
/-- Spare: what the program returns is what the document says. -/
theorem spareT_eq (h : House) : spareTV h = spareVal h ∧ spareTE h = spareErr h := by
  unfold spareTV spareVal spareTE spareErr
  cases hb : valid h
  · simp
  · have hv := valid_iff.1 hb
    have hc : cl (spareRawT h) = cl (spareRaw h) := spareCases_cl hv (casesOf h) rfl
    have h1 : -1 ≤ spareRawT h ∧ spareRawT h ≤ 99 := spareCases_bd hv (casesOf h) (a := 99) (by omega)
    have h2 : spareRaw h ≤ 99 := spareRaw_le h (casesOf h) 99 (by omega)
    simp only [Bool.true_and, if_true]
    by_cases e : 0 ≤ spareRawT h
    · have h3 : ¬ spareRaw h < 0 := by unfold cl at hc; omega
      have h4 : spareRawT h = spareRaw h := by unfold cl at hc; omega
      rw [if_neg h3, if_neg h3, if_pos e, decide_eq_true e, if_pos rfl]
      exact ⟨h4, rfl⟩
    · have h3 : spareRaw h < 0 := by unfold cl at hc; omega
      rw [if_pos h3, if_pos h3, if_neg e, decide_eq_false e, if_neg (by decide)]
      exact ⟨rfl, rfl⟩

end Go.Proofs.Yteijmboophnmgaa
