/- Waits, and what is spare: what the numbers mean. Plain. -/
import Derived.Test.YteijmboophnmgaaKept
namespace Go.Proofs.Yteijmboophnmgaa

theorem foldl_max_le {α : Type} (f : α → Int) (n : Int) : ∀ (l : List α) (a : Int), l.foldl (fun o c => max o (f c)) a ≤ n ↔ a ≤ n ∧ ∀ c ∈ l, f c ≤ n
  | [], a => by simp
  | x :: l, a => by
    rw [List.foldl_cons, foldl_max_le f n l]
    simp only [List.mem_cons, forall_eq_or_imp]
    have : max a (f x) ≤ n ↔ a ≤ n ∧ f x ≤ n := by omega
    rw [this, and_assoc]
theorem le_foldl_max {α : Type} (f : α → Int) (n : Int) : ∀ (l : List α) (a : Int), n ≤ l.foldl (fun o c => max o (f c)) a ↔ n ≤ a ∨ ∃ c ∈ l, n ≤ f c
  | [], a => by simp
  | x :: l, a => by
    rw [List.foldl_cons, le_foldl_max f n l]
    simp only [List.mem_cons, exists_eq_or_imp]
    rw [← or_assoc]
    have : n ≤ max a (f x) ↔ n ≤ a ∨ n ≤ f x := by omega
    rw [this]
theorem le_foldl_min {α : Type} (f : α → Int) (n : Int) : ∀ (l : List α) (a : Int), n ≤ l.foldl (fun o c => min o (f c)) a ↔ n ≤ a ∧ ∀ c ∈ l, n ≤ f c
  | [], a => by simp
  | x :: l, a => by
    rw [List.foldl_cons, le_foldl_min f n l]
    simp only [List.mem_cons, forall_eq_or_imp]
    have : n ≤ min a (f x) ↔ n ≤ a ∧ n ≤ f x := by omega
    rw [this, and_assoc]
theorem foldl_wait_le (h : House) (t n : Int) (h0 : 0 ≤ n) : ∀ (l : List (List (List Int))) (a : Int), l.foldl (waitPlan h t) a ≤ n ↔ a ≤ n ∨ ∃ p ∈ l, (lateOf h p = [] ∨ lateOf h p = [t]) ∧ overOf h p t ≤ n
  | [], a => by simp
  | x :: l, a => by
    rw [List.foldl_cons, foldl_wait_le h t n h0 l]
    simp only [List.mem_cons, exists_eq_or_imp]
    rw [← or_assoc]
    have : waitPlan h t a x ≤ n ↔ a ≤ n ∨ ((lateOf h x = [] ∨ lateOf h x = [t]) ∧ overOf h x t ≤ n) := by
      unfold waitPlan
      split
      · rename_i hc
        simp only [hc, true_and]
        omega
      · rename_i hc
        simp only [hc, false_and, or_false]
    rw [this]

theorem overTo_le (h : House) (p : List (List Int)) (t n : Int) (hn : -100000 ≤ n) : ∀ k, (∃ o, overTo h (timesOf h p) t k = some o ∧ o ≤ n) ↔ ∀ b : Nat, b < k → (bund h b).t = t → 0 ≤ tm h p b ∧ tm h p b - h.ts.getD t.toNat 0 ≤ n
  | 0 => by
    constructor
    · intro _ b hb; omega
    · intro _; exact ⟨-100000, rfl, hn⟩
  | k + 1 => by
    have ih := overTo_le h p t n hn k
    constructor
    · rintro ⟨o, ho, hle⟩ b hb hbt
      simp only [overTo] at ho
      split at ho
      · cases ho
      · rename_i o' e
        split at ho
        · rename_i hk
          split at ho
          · cases ho
          · rename_i hpos
            simp only [Option.some.injEq] at ho
            by_cases hbk : b = k
            · subst hbk
              unfold tm; omega
            · exact ih.1 ⟨o', e, by omega⟩ b (by omega) hbt
        · rename_i hk
          simp only [Option.some.injEq] at ho
          subst ho
          refine ih.1 ⟨o', e, hle⟩ b ?_ hbt
          have : b ≠ k := fun c => by subst c; exact hk hbt
          omega
    · intro hall
      obtain ⟨o, ho, hle⟩ := ih.2 (fun b hb => hall b (by omega))
      simp only [overTo, ho]
      split
      · rename_i hk
        have := hall k (by omega) hk
        unfold tm at this
        rw [if_neg (by omega)]
        exact ⟨_, rfl, by omega⟩
      · exact ⟨o, rfl, hle⟩
theorem overOf_le (h : House) (p : List (List Int)) (t n : Int) (hn : -100000 ≤ n) (hn' : n < 100000) : overOf h p t ≤ n ↔ ∀ b : Nat, b < h.bs.length → (bund h b).t = t → 0 ≤ tm h p b ∧ tm h p b - h.ts.getD t.toNat 0 ≤ n := by
  rw [← overTo_le h p t n hn]
  unfold overOf
  cases e : overTo h (timesOf h p) t h.bs.length with
  | none =>
    simp only [Option.getD_none]
    constructor
    · intro hc; omega
    · rintro ⟨_, hc, _⟩; cases hc
  | some o =>
    simp only [Option.getD_some]
    constructor
    · intro hc; exact ⟨o, rfl, hc⟩
    · rintro ⟨_, hc, hle⟩; cases hc; exact hle

/-- Which trains are late, bundle by bundle. -/
theorem late_sub {h : House} (hv : Valid h) {p : List (List Int)} {l : List Int} : (∀ t ∈ lateOf h p, t ∈ l) ↔ ∀ b : Nat, b < h.bs.length → (bund h b).t ∉ l → inT h p b (h.ts.getD (bund h b).t.toNat 0) := by
  constructor
  · intro hl b hb hn
    have hbo := bund_ok hv hb
    refine Classical.byContradiction fun hc => hn ?_
    have : (((bund h b).t.toNat : Nat) : Int) ∈ lateOf h p := lateOf_iff.2 ⟨by omega, b, hb, by omega, hc⟩
    rw [Int.toNat_of_nonneg hbo.2.1] at this
    exact hl _ this
  · intro hall x hx
    obtain ⟨t, rfl, ht⟩ := lateOf_is hx
    obtain ⟨_, b, hb, hbt, hn⟩ := lateOf_iff.1 hx
    refine Classical.byContradiction fun hc => hn ?_
    have := hall b hb (by rw [hbt]; exact hc)
    rwa [hbt, Int.toNat_natCast] at this
theorem lateOf_nodup (h : House) (p : List (List Int)) : (lateOf h p).Nodup := by
  unfold lateOf lateList
  exact List.pairwise_map.2 ((List.nodup_range.sublist List.filter_sublist).imp fun {a b} hab e => hab (Int.ofNat.inj e))
theorem late_one {h : House} {p : List (List Int)} {t : Int} : (lateOf h p = [] ∨ lateOf h p = [t]) ↔ ∀ x ∈ lateOf h p, x ∈ [t] := by
  constructor
  · rintro (e | e) <;> rw [e] <;> simp
  · intro hall
    have hn := lateOf_nodup h p
    cases e : lateOf h p with
    | nil => exact .inl rfl
    | cons a l =>
      rw [e] at hall hn
      have ha := List.mem_singleton.1 (hall a (by simp))
      subst ha
      cases l with
      | nil => exact .inr rfl
      | cons b l =>
        have hb := List.mem_singleton.1 (hall b (by simp))
        subst hb
        simp at hn
theorem sub_nil {l : List Int} : (∀ t ∈ l, t ∈ ([] : List Int)) ↔ l = [] := by
  constructor
  · intro h; exact List.eq_nil_iff_forall_not_mem.2 fun t ht => by cases h t ht
  · rintro rfl; simp

theorem runTo_congr {h o : House} (hb : o.bs = h.bs) (hc : o.ch = h.ch) (mc : Mach) : ∀ (l : List Int) (s : List Int × Int × Option Int), runTo o mc l s = runTo h mc l s
  | [], _ => rfl
  | b :: l, (ts, now, prev) => by
    have e : bund o b = bund h b := by unfold bund; rw [hb]
    have e2 : stepT o mc now prev b = stepT h mc now prev b := by unfold stepT; rw [e, hc]
    simp only [runTo, e, e2]
    exact runTo_congr hb hc mc l _
theorem timesTo_congr {h o : House} (hb : o.bs = h.bs) (hc : o.ch = h.ch) (hm : o.ms = h.ms) : ∀ (p : List (List Int)) (m : Nat) (ts : List Int), timesTo o m p ts = timesTo h m p ts
  | [], _, _ => rfl
  | l :: p, m, ts => by
    have e : mach o m = mach h m := by unfold mach; rw [hm]
    simp only [timesTo, runList, e, runTo_congr hb hc]
    exact timesTo_congr hb hc hm p _ _
theorem tm_congr {h o : House} (hb : o.bs = h.bs) (hc : o.ch = h.ch) (hm : o.ms = h.ms) (p : List (List Int)) (b : Nat) : tm o p b = tm h p b := by
  unfold tm timesOf
  rw [timesTo_congr hb hc hm, hb]

/-! ### Waits -/

def laterH (h : House) (t : Nat) (n : Int) : House := { h with ts := h.ts.set t (h.ts.getD t 0 + n) }
theorem later_valid {h : House} (hv : Valid h) {t : Nat} {n : Int} (h0 : 0 ≤ n) (hn : n ≤ 99 - h.ts.getD t 0) (ht : t < h.ts.length) : Valid (laterH h t n) := by
  have hl : (laterH h t n).ts.length = h.ts.length := List.length_set
  refine ⟨hv.m1, hv.m3, by rw [hl]; exact hv.t4, hv.b5, hv.ch, hv.ms, ?_, by rw [hl]; exact hv.bs⟩
  rw [List.all_eq_true]
  intro x hx
  obtain ⟨y, hy⟩ := At.mk ht
  rcases List.mem_or_eq_of_mem_set hx with hx | rfl
  · exact List.all_eq_true.1 hv.ts x hx
  · have := within_iff.1 (List.all_eq_true.1 hv.ts y hy.mem)
    rw [hy.getD] at hn ⊢
    exact within_iff.2 (by omega)

/-- A house is sure if the train leaves later by so much, just if it waits no longer. -/
theorem wait_sure {h : House} (hv : Valid h) {t : Nat} (ht : t < h.ts.length) {n : Int} (h0 : 0 ≤ n) (hn : n ≤ 99 - h.ts.getD t 0) : sureB (laterH h t n) [] = true ↔ waitRaw h t ≤ n := by
  have hv' := later_valid hv h0 hn ht
  have h99 : 0 ≤ h.ts.getD t 0 := by
    obtain ⟨y, hy⟩ := At.mk ht
    rw [hy.getD]; exact (ts_bd hv hy).1
  rw [sureB_iff hv']
  unfold waitRaw
  rw [foldl_max_le]
  show (∀ c ∈ casesOf h, _) ↔ _
  have key : ∀ p, (∀ x ∈ lateOf (laterH h t n) p, x ∈ ([] : List Int)) ↔ (lateOf h p = [] ∨ lateOf h p = [(t : Int)]) ∧ overOf h p t ≤ n := by
    intro p
    rw [late_one, late_sub hv', late_sub hv, overOf_le h p t n (by omega) (by omega)]
    have hts : ∀ k : Nat, (laterH h t n).ts.getD k 0 = if t = k ∧ k < h.ts.length then h.ts.getD t 0 + n else h.ts.getD k 0 := fun k => getD_set _ _ _ _ _
    have htm : ∀ b, tm (laterH h t n) p b = tm h p b := fun b => tm_congr (h := h) (o := laterH h t n) rfl rfl rfl p b
    have hbu : ∀ b : Nat, bund (laterH h t n) b = bund h b := fun _ => rfl
    constructor
    · intro hall
      constructor
      · intro b hb hbt
        have := hall b hb (by simp)
        unfold inT at this ⊢
        rw [htm, hbu, hts] at this
        have hne : ¬ (t = (bund h b).t.toNat ∧ (bund h b).t.toNat < h.ts.length) := fun c => hbt (by
          have := bund_ok hv hb
          rw [List.mem_singleton]; omega)
        rw [if_neg hne] at this
        exact this
      · intro b hb hbt
        have := hall b hb (by simp)
        unfold inT at this
        rw [htm, hbu, hts, hbt, Int.toNat_natCast, if_pos ⟨rfl, ht⟩] at this
        rw [Int.toNat_natCast]
        omega
    · rintro ⟨h1, h2⟩ b hb _
      unfold inT
      rw [htm, hbu, hts]
      by_cases hbt : (bund h b).t = (t : Int)
      · have := h2 b hb hbt
        rw [hbt, Int.toNat_natCast, if_pos ⟨rfl, ht⟩]
        rw [Int.toNat_natCast] at this
        omega
      · have := h1 b hb (by simpa using hbt)
        rw [if_neg]
        · exact this
        · intro c
          have := bund_ok hv hb
          exact hbt (by omega)
  constructor
  · intro hall
    refine ⟨h0, fun c hc => ?_⟩
    obtain ⟨p, h1, h2, h3⟩ := hall c hc
    unfold waitCase
    rw [foldl_wait_le _ _ _ h0]
    exact .inr ⟨p, (plansOf_iff hv c p).2 ⟨h1, h2⟩, (key p).1 h3⟩
  · rintro ⟨_, hall⟩ c hc
    have := hall c hc
    unfold waitCase at this
    rw [foldl_wait_le _ _ _ h0] at this
    rcases this with hbad | ⟨p, hp, hk⟩
    · omega
    · obtain ⟨h1, h2⟩ := (plansOf_iff hv c p).1 hp
      exact ⟨p, h1, h2, (key p).2 hk⟩
theorem later_zero {h : House} (hv : Valid h) {t : Nat} (ht : t < h.ts.length) : sureB h [] = true ↔ waitRaw h t ≤ 0 := by
  have h1 : 0 ≤ 99 - h.ts.getD t 0 := by
    obtain ⟨y, hy⟩ := At.mk ht
    rw [hy.getD]; have := ts_bd hv hy; omega
  rw [← wait_sure hv ht (Int.le_refl 0) h1]
  have : laterH h t 0 = h := by
    unfold laterH
    have hx : h.ts.set t (h.ts.getD t 0 + 0) = h.ts := by
      obtain ⟨y, hy⟩ := At.mk ht
      obtain ⟨hk, e⟩ := hy.get
      rw [hy.getD, Int.add_zero, ← e, List.set_getElem_self]
    rw [hx]
  rw [this]
theorem waitRaw_nonneg (h : House) (t : Int) : 0 ≤ waitRaw h t := by
  unfold waitRaw
  rw [le_foldl_max]; exact .inl (Int.le_refl _)

/-! ### What is spare -/

/-- All trains could leave earlier by so much. -/
def SpareOk (h : House) (n : Int) : Prop := ∀ c ∈ casesOf h, ∃ p, isPlan h p = true ∧ Idle p c ∧ ∀ b : Nat, b < h.bs.length → 0 ≤ tm h p b ∧ tm h p b + n ≤ h.ts.getD (bund h b).t.toNat 0

theorem spareRaw_iff {h : House} (hv : Valid h) {n : Int} (h0 : 0 ≤ n) (hn : n ≤ 99) : n ≤ spareRaw h ↔ SpareOk h n := by
  unfold spareRaw
  rw [le_foldl_min]
  have key : ∀ p, n ≤ sparePlan h p ↔ ∀ b : Nat, b < h.bs.length → 0 ≤ tm h p b ∧ tm h p b + n ≤ h.ts.getD (bund h b).t.toNat 0 := by
    intro p
    unfold sparePlan sparePlanTo
    rw [le_foldl_min]
    constructor
    · rintro ⟨_, hall⟩ b hb
      have hbo := bund_ok hv hb
      have h1 := hall (bund h b).t.toNat (List.mem_range.2 (by omega))
      have h2 := (overOf_le h p ((bund h b).t.toNat : Nat) (-n) (by omega) (by omega)).1 (by omega) b hb (by omega)
      rw [Int.toNat_natCast] at h2
      omega
    · intro hall
      refine ⟨by omega, fun t _ => ?_⟩
      have := (overOf_le h p (t : Nat) (-n) (by omega) (by omega)).2 (fun b hb hbt => by
        have := hall b hb
        rw [hbt] at this
        omega)
      omega
  constructor
  · rintro ⟨_, hall⟩ c hc
    have := hall c hc
    unfold spareCase at this
    rw [le_foldl_max] at this
    rcases this with hbad | ⟨p, hp, hk⟩
    · omega
    · obtain ⟨h1, h2⟩ := (plansOf_iff hv c p).1 hp
      exact ⟨p, h1, h2, (key p).1 hk⟩
  · intro hall
    refine ⟨hn, fun c hc => ?_⟩
    obtain ⟨p, h1, h2, h3⟩ := hall c hc
    unfold spareCase
    rw [le_foldl_max]
    exact .inr ⟨p, (plansOf_iff hv c p).2 ⟨h1, h2⟩, (key p).2 h3⟩
theorem spareRaw_le99 (h : House) : spareRaw h ≤ 99 := by
  have := (le_foldl_min (spareCase h) (spareRaw h) (casesOf h) 99).1 (Int.le_refl _)
  exact this.1
theorem sure_spare {h : House} (hv : Valid h) : sureB h [] = true ↔ 0 ≤ spareRaw h := by
  rw [spareRaw_iff hv (Int.le_refl 0) (by omega), sureB_iff hv]
  refine forall_congr' fun c => forall_congr' fun _ => exists_congr fun p => and_congr_right fun _ => and_congr_right fun _ => ?_
  rw [late_sub hv]
  constructor
  · intro hall b hb; have := hall b hb (by simp); unfold inT at this; omega
  · intro hall b hb _; have := hall b hb; unfold inT; omega

theorem Sim.spareOk {h o : House} {ren : Int → Option Int} {σ : Nat → Nat} (hv : Valid h) (ho : Valid o) (S : Sim (fun _ => True) h o ren σ) {n : Int} (hs : SpareOk h n) : SpareOk o n := by
  intro c hc
  obtain ⟨c', hc', hi⟩ := S.case hc
  obtain ⟨p, hp, hpi, hall⟩ := hs c' hc'
  refine ⟨mv o ren σ p, S.plan hp, hi p hpi, fun b' hb' => ?_⟩
  obtain ⟨b, hb, e⟩ := S.onto b' hb' trivial
  have h1 := hall b hb
  have hin := S.into b b' (by omega) (by omega) e
  have hm : (b : Int) ∈ p.flatten := Classical.byContradiction fun hc => by
    have := tm_none hp hb hc; omega
  obtain ⟨hle, hm'⟩ := S.time hv ho hp e hm
  have h2 := tm_printed ho (S.plan hp) hm'
  have h3 := S.later (bund h b).t.toNat trivial
  rw [hin.2.2]
  omega

theorem fin_shift {h o : House} (hb : o.bs = h.bs) (hc : o.ch = h.ch) {mc mc' : Mach} (hp : mc'.p = mc.p) (n : Int) : ∀ (l : List Int) (s : Int × Option Int), (fin o mc' l (s.1 + n, s.2)).1 = (fin h mc l s).1 + n
  | [], _ => rfl
  | b :: l, s => by
    have e : bund o b = bund h b := by unfold bund; rw [hb]
    have e2 : stepT o mc' (s.1 + n) s.2 b = stepT h mc s.1 s.2 b + n := by unfold stepT; rw [e, hc, hp]; omega
    simp only [fin, e, e2]
    exact fin_shift hb hc hp n l (stepT h mc s.1 s.2 b, some (bund h b).e)
def behindH (h : House) (n : Int) : House := { h with ms := h.ms.map fun m => ⟨m.r + n, m.p, m.s⟩ }
theorem behind_mach (h : House) (n : Int) {k : Nat} (hk : k < h.ms.length) : mach (behindH h n) k = ⟨(mach h k).r + n, (mach h k).p, (mach h k).s⟩ := by
  obtain ⟨x, hx⟩ := At.mk hk
  have : At (behindH h n).ms k ⟨x.r + n, x.p, x.s⟩ := by
    unfold At behindH
    rw [List.getElem?_map, show h.ms[k]? = some x from hx]; rfl
  rw [hx.mach, this.mach]
theorem behind_tm {h : House} {p : List (List Int)} (hp : isPlan h p = true) (n : Int) {b : Nat} (hb : (b : Int) ∈ p.flatten) : tm (behindH h n) p b = tm h p b + n := by
  have hp' : isPlan (behindH h n) p = true := by
    obtain ⟨h1, h2, h3⟩ := isPlan_iff.1 hp
    exact isPlan_iff.2 ⟨by rw [h1]; simp [behindH], h2, h3⟩
  obtain ⟨l, hl, hbl⟩ := List.mem_flatten.1 hb
  obtain ⟨k, hk⟩ := mem_At hl
  obtain ⟨i, hi⟩ := mem_At hbl
  have hkl : k < h.ms.length := by rw [← (isPlan_iff.1 hp).1]; exact hk.lt
  unfold tm
  rw [times_at hp hk hi, times_at hp' hk hi, behind_mach h n hkl]
  unfold done
  exact fin_shift (h := h) (o := behindH h n) (mc := mach h k) (mc' := ⟨(mach h k).r + n, (mach h k).p, (mach h k).s⟩) rfl rfl rfl n (l.take (i + 1)) ((mach h k).r, none)
/-- A house is sure if all machines are ready later by so much, just if so much is spare. -/
theorem spare_sure {h : House} (hv : Valid h) {n : Int} (h0 : 0 ≤ n) (hn : n ≤ 99) (hv' : Valid (behindH h n)) : sureB (behindH h n) [] = true ↔ n ≤ spareRaw h := by
  rw [spareRaw_iff hv h0 hn, sureB_iff hv']
  have hlen : (behindH h n).ms.length = h.ms.length := by simp [behindH]
  have hcs : ∀ c, c ∈ casesOf (behindH h n) ↔ c ∈ casesOf h := by
    intro c
    rw [casesOf_iff, casesOf_iff, hlen]
    refine or_congr Iff.rfl (exists_congr fun k => and_congr_right fun hk => and_congr_right fun _ => ?_)
    rw [behind_mach h n hk]
  have hpl : ∀ p, isPlan (behindH h n) p = true ↔ isPlan h p = true := by
    intro p
    rw [isPlan_iff, isPlan_iff, hlen]; exact Iff.rfl
  have key : ∀ p, isPlan h p = true → ((∀ t ∈ lateOf (behindH h n) p, t ∈ ([] : List Int)) ↔ ∀ b : Nat, b < h.bs.length → 0 ≤ tm h p b ∧ tm h p b + n ≤ h.ts.getD (bund h b).t.toNat 0) := by
    intro p hp
    rw [late_sub hv']
    constructor
    · intro hall b hb
      have h1 := hall b hb (by simp)
      by_cases hm : (b : Int) ∈ p.flatten
      · have h2 := behind_tm hp n hm
        have h3 := tm_printed hv hp hm
        unfold inT at h1
        rw [h2] at h1
        exact ⟨h3, h1.2⟩
      · have := tm_none ((hpl p).2 hp) hb hm
        unfold inT at h1
        omega
    · intro hall b hb _
      have h1 := hall b hb
      have hm : (b : Int) ∈ p.flatten := Classical.byContradiction fun hc => by
        have := tm_none hp hb hc; omega
      have h2 := behind_tm hp n hm
      unfold inT
      rw [h2]
      exact ⟨by omega, h1.2⟩
  constructor
  · intro hall c hc
    obtain ⟨p, h1, h2, h3⟩ := hall c ((hcs c).2 hc)
    exact ⟨p, (hpl p).1 h1, h2, (key p ((hpl p).1 h1)).1 h3⟩
  · intro hall c hc
    obtain ⟨p, h1, h2, h3⟩ := hall c ((hcs c).1 hc)
    exact ⟨p, (hpl p).2 h1, h2, (key p h1).2 h3⟩

/-- In any order as much is spare. -/
theorem spare_turn {h : House} (hv : Valid h) {ms bs : List Nat} (M : Perm0 h.ms.length ms) (B : Perm0 h.bs.length bs) : (spareRaw h < 0 ↔ spareRaw (turnH h ms bs) < 0) ∧ (0 ≤ spareRaw h → spareRaw (turnH h ms bs) = spareRaw h) := by
  have hv' := turn_valid hv M B
  have hall : ∀ n, 0 ≤ n → n ≤ 99 → (n ≤ spareRaw h ↔ n ≤ spareRaw (turnH h ms bs)) := fun n h0 hn => by
    rw [spareRaw_iff hv h0 hn, spareRaw_iff hv' h0 hn]
    exact ⟨(turn_sim M B).spareOk hv hv', (turn_back M B).spareOk hv' hv⟩
  have h1 := spareRaw_le99 h
  have h2 := spareRaw_le99 (turnH h ms bs)
  have h3 := hall 0 (by omega) (by omega)
  refine ⟨by omega, fun h0 => ?_⟩
  have h4 := (hall (spareRaw h) h0 h1).1 (Int.le_refl _)
  have h5 := (hall (spareRaw (turnH h ms bs)) (by omega) h2).2 (Int.le_refl _)
  omega

end Go.Proofs.Yteijmboophnmgaa
