/- One house against another one whose plans are made from its plans: no more trains are late. Plain. -/
import Derived.Test.YteijmboophnmgaaPlanSet
import Derived.Test.YteijmboophnmgaaDelay
import Derived.Test.YteijmboophnmgaaRank
namespace Go.Proofs.Yteijmboophnmgaa

/-- When a bundle is printed; below 0: it is not. -/
def tm (h : House) (p : List (List Int)) (b : Nat) : Int := (timesOf h p).getD b 0
def inT (h : House) (p : List (List Int)) (b : Nat) (d : Int) : Prop := 0 ≤ tm h p b ∧ tm h p b ≤ d

theorem lateB_iff {h : House} {p : List (List Int)} {t : Nat} : lateB h (timesOf h p) t = true ↔ ∃ b : Nat, b < h.bs.length ∧ (bund h b).t = (t : Int) ∧ ¬ inT h p b (h.ts.getD t 0) := by
  unfold lateB lateTo
  rw [List.any_eq_true]
  constructor
  · rintro ⟨b, hb, hx⟩
    simp only [Bool.and_eq_true, beq_iff_eq, Bool.or_eq_true, decide_eq_true_eq] at hx
    refine ⟨b, List.mem_range.1 hb, by simpa [bund] using hx.1, ?_⟩
    rintro ⟨h1, h2⟩
    unfold tm at h1 h2
    omega
  · rintro ⟨b, hb, hx, hn⟩
    refine ⟨b, List.mem_range.2 hb, ?_⟩
    simp only [Bool.and_eq_true, beq_iff_eq, Bool.or_eq_true, decide_eq_true_eq]
    refine ⟨by simpa [bund] using hx, ?_⟩
    refine Classical.byContradiction fun hc => hn ⟨?_, ?_⟩
    · unfold tm; omega
    · unfold tm; omega
theorem lateOf_nat {h : House} {p : List (List Int)} {t : Nat} : (t : Int) ∈ lateOf h p ↔ t < h.ts.length ∧ lateB h (timesOf h p) t = true := by
  unfold lateOf lateList
  simp only [List.mem_map, List.mem_filter, List.mem_range]
  constructor
  · rintro ⟨a, ha, e⟩
    have : a = t := Int.ofNat.inj e
    subst this; exact ha
  · rintro ha; exact ⟨t, ha, rfl⟩
theorem lateOf_is {h : House} {p : List (List Int)} {x : Int} (hx : x ∈ lateOf h p) : ∃ t : Nat, x = (t : Int) ∧ t < h.ts.length := by
  unfold lateOf lateList at hx
  obtain ⟨a, ha, e⟩ := List.mem_map.1 hx
  exact ⟨a, e.symm, List.mem_range.1 (List.mem_filter.1 ha).1⟩
theorem lateOf_iff {h : House} {p : List (List Int)} {t : Nat} : (t : Int) ∈ lateOf h p ↔ t < h.ts.length ∧ ∃ b : Nat, b < h.bs.length ∧ (bund h b).t = (t : Int) ∧ ¬ inT h p b (h.ts.getD t 0) := by
  rw [lateOf_nat, lateB_iff]

theorem mem_At {α : Type} {l : List α} {x : α} (h : x ∈ l) : ∃ i, At l i x := by
  obtain ⟨i, hi, e⟩ := List.getElem_of_mem h
  exact ⟨i, List.getElem?_eq_some_iff.2 ⟨hi, e⟩⟩
theorem mem_getD {p : List (List Int)} {k : Nat} {b : Int} (h : b ∈ p.getD k []) : ∃ l, At p k l ∧ b ∈ l ∧ p.getD k [] = l := by
  by_cases hk : k < p.length
  · obtain ⟨l, hl⟩ := At.mk hk
    exact ⟨l, hl, by rwa [hl.getD] at h, hl.getD _⟩
  · rw [List.getD_eq_getElem?_getD, List.getElem?_eq_none (by omega)] at h; simp at h
theorem bund_ok {h : House} (hv : Valid h) {b : Nat} (hb : b < h.bs.length) : 1 ≤ (bund h b).h ∧ 0 ≤ (bund h b).t ∧ (bund h b).t < h.ts.length := by
  obtain ⟨x, hx⟩ := At.mk hb
  rw [hx.bund]
  have h1 := List.all_eq_true.1 hv.bs x hx.mem
  simp only [okBund, Bool.and_eq_true, within_iff] at h1
  omega
theorem mach_ok {h : House} (hv : Valid h) {k : Nat} (hk : k < h.ms.length) : 0 ≤ (mach h k).r ∧ (mach h k).r ≤ 99 ∧ 1 ≤ (mach h k).p := by
  obtain ⟨x, hx⟩ := At.mk hk
  rw [hx.mach]
  have h1 := List.all_eq_true.1 hv.ms x hx.mem
  simp only [okMach, Bool.and_eq_true, within_iff] at h1
  omega
theorem chg_nonneg {h : House} (h0 : 0 ≤ h.ch) (prev : Option Int) (e : Int) : 0 ≤ chg h prev e := by unfold chg; split <;> omega
theorem chg_tri {h : House} (h0 : 0 ≤ h.ch) (prev : Option Int) (x e : Int) : chg h prev e ≤ chg h prev x + chg h (some x) e := by
  have h1 := chg_nonneg h0 (some x) e
  cases prev with
  | none => have : chg h none e = 0 := rfl; have : chg h none x = 0 := rfl; omega
  | some y =>
    have h2 := chg_nonneg h0 (some y) x
    by_cases e1 : y = e
    · have : chg h (some y) e = 0 := by unfold chg; simp [e1]
      omega
    · have h3 : chg h (some y) e = h.ch := by unfold chg; simp [e1]
      by_cases e2 : y = x
      · subst e2; omega
      · have : chg h (some y) x = h.ch := by unfold chg; simp [e2]
        omega
theorem chg_le {h o : House} (hc : o.ch ≤ h.ch) (x e : Int) : chg o (some x) e ≤ chg h (some x) e := by
  unfold chg; split <;> omega
theorem stepT_eq (h : House) (mc : Mach) (now : Int) (prev : Option Int) (b : Int) : stepT h mc now prev b = now + chg h prev (bund h b).e + (bund h b).h * mc.p := rfl

theorem fin_ge {h : House} (h0 : 0 ≤ h.ch) {mc : Mach} (hp : 0 ≤ mc.p) : ∀ (l : List Int) (s : Int × Option Int), (∀ b ∈ l, 0 ≤ (bund h b).h) → s.1 ≤ (fin h mc l s).1
  | [], _, _ => Int.le_refl _
  | b :: l, s, hb => by
    have h1 := hb b (by simp)
    have hm0 : 0 ≤ (bund h b).h * mc.p := Int.mul_nonneg h1 hp
    have h2 := chg_nonneg h0 s.2 (bund h b).e
    have ih := fin_ge h0 hp l (stepT h mc s.1 s.2 b, some (bund h b).e) (fun x hx => hb x (by simp [hx]))
    have h3 := stepT_eq h mc s.1 s.2 b
    simp only at ih
    show s.1 ≤ (fin h mc l _).1
    omega

theorem plan_bd {h : House} {p : List (List Int)} (hp : isPlan h p = true) {b : Int} (hb : b ∈ p.flatten) : 0 ≤ b ∧ b.toNat < h.bs.length := by
  have := (isPlan_iff.1 hp).2.1 b hb; omega
theorem tm_printed {h : House} (hv : Valid h) {p : List (List Int)} (hp : isPlan h p = true) {b : Nat} (hb : (b : Int) ∈ p.flatten) : 0 ≤ tm h p b := by
  obtain ⟨l, hl, hbl⟩ := List.mem_flatten.1 hb
  obtain ⟨k, hk⟩ := mem_At hl
  obtain ⟨i, hi⟩ := mem_At hbl
  unfold tm
  rw [times_at hp hk hi]
  have hkl : k < h.ms.length := by rw [← (isPlan_iff.1 hp).1]; exact hk.lt
  have hm := mach_ok hv hkl
  have := fin_ge (within_iff.1 hv.ch).1 (mc := mach h k) (by omega) (l.take (i + 1)) ((mach h k).r, none) (fun x hx => by
    have hx' := plan_bd hp (List.mem_flatten.2 ⟨l, hl, List.mem_of_mem_take hx⟩)
    obtain ⟨j, rfl⟩ := Int.eq_ofNat_of_zero_le hx'.1
    have := bund_ok hv hx'.2
    simp only [Int.toNat_natCast] at *
    omega)
  unfold done
  simp only at this
  omega
theorem tm_none {h : House} {p : List (List Int)} (hp : isPlan h p = true) {b : Nat} (hb : b < h.bs.length) (hn : (b : Int) ∉ p.flatten) : tm h p b = -1 := times_none hp hb hn

/-- The one is no later than the other, whatever comes next. -/
def Le2 (h o : House) (s s' : Int × Option Int) : Prop := s'.1 ≤ s.1 ∧ ∀ e, s'.1 + chg o s'.2 e ≤ s.1 + chg h s.2 e

theorem fin_sim {h o : House} {mc mc' : Mach} {ren : Int → Option Int} (h0 : 0 ≤ h.ch) (hc : o.ch ≤ h.ch) (hp : 0 ≤ mc'.p ∧ mc'.p ≤ mc.p) : ∀ (l : List Int) (s s' : Int × Option Int), Le2 h o s s' →
    (∀ b ∈ l, 0 ≤ (bund h b).h ∧ ∀ b', ren b = some b' → bund o b' = bund h b) → Le2 h o (fin h mc l s) (fin o mc' (l.filterMap ren) s')
  | [], _, _, k, _ => k
  | b :: l, s, s', k, hb => by
    obtain ⟨h1, h2⟩ := hb b (by simp)
    have hm0 : 0 ≤ (bund h b).h * mc.p := Int.mul_nonneg h1 (by omega)
    cases e : ren b with
    | none =>
      rw [List.filterMap_cons_none e]
      refine fin_sim h0 hc hp l _ _ ⟨?_, fun x => ?_⟩ (fun y hy => hb y (by simp [hy]))
      · have h3 := chg_nonneg h0 s.2 (bund h b).e
        have h4 := k.1
        simp only [stepT_eq]; omega
      · have h3 := chg_tri h0 s.2 (bund h b).e x
        have h4 := k.2 x
        simp only [stepT_eq]; omega
    | some b' =>
      rw [List.filterMap_cons_some e]
      have hbb := h2 b' e
      have hm : (bund h b).h * mc'.p ≤ (bund h b).h * mc.p := Int.mul_le_mul_of_nonneg_left hp.2 h1
      have h4 := k.2 (bund h b).e
      refine fin_sim h0 hc hp l _ _ ⟨?_, fun x => ?_⟩ (fun y hy => hb y (by simp [hy]))
      · simp only [stepT_eq, hbb]; omega
      · have h3 := chg_le hc (bund h b).e x
        simp only [stepT_eq, hbb]; omega

theorem done_sim {h o : House} {mc mc' : Mach} {ren : Int → Option Int} (h0 : 0 ≤ h.ch) (hc : o.ch ≤ h.ch) (hp : 0 ≤ mc'.p ∧ mc'.p ≤ mc.p) (hr : mc'.r ≤ mc.r) {l : List Int} {i : Nat} {b b' : Int} (ha : At l i b) (e : ren b = some b')
    (hb : ∀ b ∈ l, 0 ≤ (bund h b).h ∧ ∀ b', ren b = some b' → bund o b' = bund h b) : ∃ i', At (l.filterMap ren) i' b' ∧ done o mc' (l.filterMap ren) i' ≤ done h mc l i := by
  have hsp : l.filterMap ren = (l.take i).filterMap ren ++ b' :: (l.drop (i + 1)).filterMap ren := by
    conv => lhs; rw [ha.split]
    rw [List.filterMap_append, List.filterMap_cons_some e]
  have h1 : (l.take (i + 1)).filterMap ren = (l.take i).filterMap ren ++ [b'] := by
    rw [ha.take, List.filterMap_append, List.filterMap_cons_some e]; rfl
  refine ⟨((l.take i).filterMap ren).length, ?_, ?_⟩
  · unfold At
    rw [hsp, List.getElem?_append_right (Nat.le_refl _), Nat.sub_self]; rfl
  · unfold done
    have h2 : (l.filterMap ren).take (((l.take i).filterMap ren).length + 1) = (l.take (i + 1)).filterMap ren := by
      rw [hsp, h1, List.take_append, List.take_of_length_le (by omega), Nat.add_sub_cancel_left]; rfl
    rw [h2]
    exact (fin_sim h0 hc hp (l.take (i + 1)) (mc.r, none) (mc'.r, none) ⟨hr, fun x => by
      show mc'.r + 0 ≤ mc.r + 0; omega⟩ (fun y hy => hb y (List.mem_of_mem_take hy))).1

/-- The house o serves as well as h, for the trains T: bundles are renamed, machine k of o works as machine σ k of h. -/
structure Sim (T : Int → Prop) (h o : House) (ren : Int → Option Int) (σ : Nat → Nat) : Prop where
  ts : o.ts.length = h.ts.length
  later : ∀ t : Nat, T t → h.ts.getD t 0 ≤ o.ts.getD t 0
  ch : o.ch ≤ h.ch
  inj : ∀ a b c, ren a = some c → ren b = some c → a = b
  into : ∀ b b', 0 ≤ b → b ≤ (h.bs.length : Int) - 1 → ren b = some b' → 0 ≤ b' ∧ b' ≤ (o.bs.length : Int) - 1 ∧ bund o b' = bund h b
  onto : ∀ b' : Nat, b' < o.bs.length → T (bund o b').t → ∃ b : Nat, b < h.bs.length ∧ ren b = some (b' : Int)
  mto : ∀ k, k < h.ms.length → ∃ k', k' < o.ms.length ∧ σ k' = k
  minj : ∀ k k', k < o.ms.length → k' < o.ms.length → σ k = σ k' → σ k < h.ms.length → k = k'
  fast : ∀ k, k < o.ms.length → σ k < h.ms.length → (mach o k).r ≤ (mach h (σ k)).r ∧ (mach o k).p ≤ (mach h (σ k)).p
  stop : ∀ k, k < o.ms.length → (mach o k).s = 1 → σ k < h.ms.length ∧ (mach h (σ k)).s = 1

def mv (o : House) (ren : Int → Option Int) (σ : Nat → Nat) (p : List (List Int)) : List (List Int) := (List.range o.ms.length).map fun k => (p.getD (σ k) []).filterMap ren
theorem mv_at {o : House} {ren : Int → Option Int} {σ : Nat → Nat} {p : List (List Int)} {k : Nat} (hk : k < o.ms.length) : At (mv o ren σ p) k ((p.getD (σ k) []).filterMap ren) := by
  unfold mv At
  rw [List.getElem?_map, List.getElem?_range hk]; rfl
theorem mv_getD {o : House} {ren : Int → Option Int} {σ : Nat → Nat} {p : List (List Int)} {k : Nat} (hk : k < o.ms.length) : (mv o ren σ p).getD k [] = (p.getD (σ k) []).filterMap ren := (mv_at hk).getD _

theorem flat_nodup {p : List (List Int)} (hn : p.flatten.Nodup) {k : Nat} {l : List Int} (hl : At p k l) : l.Nodup :=
  (List.pairwise_flatten.1 hn).1 l hl.mem
theorem flat_disj {p : List (List Int)} (hn : p.flatten.Nodup) {k k' : Nat} {l l' : List Int} (hl : At p k l) (hl' : At p k' l') {b : Int} (hb : b ∈ l) (hb' : b ∈ l') : k = k' := by
  obtain ⟨hk, e⟩ := hl.get
  obtain ⟨hk', e'⟩ := hl'.get
  have h2 := List.pairwise_iff_getElem.1 (List.pairwise_flatten.1 hn).2
  rcases Nat.lt_trichotomy k k' with hlt | heq | hgt
  · exact absurd rfl (h2 k k' hk hk' hlt b (by rw [e]; exact hb) b (by rw [e']; exact hb'))
  · exact heq
  · exact absurd rfl (h2 k' k hk' hk hgt b (by rw [e']; exact hb') b (by rw [e]; exact hb))

section
variable {T : Int → Prop} {h o : House} {ren : Int → Option Int} {σ : Nat → Nat} {p : List (List Int)}
theorem Sim.plan (S : Sim T h o ren σ) (hp : isPlan h p = true) : isPlan o (mv o ren σ p) = true := by
  obtain ⟨hl, hb, hn⟩ := isPlan_iff.1 hp
  refine isPlan_iff.2 ⟨by simp [mv], ?_, ?_⟩
  · intro b' hb'
    obtain ⟨l', hl', hm⟩ := List.mem_flatten.1 hb'
    unfold mv at hl'
    obtain ⟨k, _, rfl⟩ := List.mem_map.1 hl'
    obtain ⟨b, hbm, e⟩ := List.mem_filterMap.1 hm
    obtain ⟨l, hal, hbl, _⟩ := mem_getD hbm
    have := hb b (List.mem_flatten.2 ⟨l, hal.mem, hbl⟩)
    have := S.into b b' this.1 this.2 e
    exact ⟨this.1, this.2.1⟩
  · refine List.pairwise_flatten.2 ⟨?_, ?_⟩
    · intro l' hl'
      unfold mv at hl'
      obtain ⟨k, _, rfl⟩ := List.mem_map.1 hl'
      have hnd : (p.getD (σ k) []).Nodup := by
        by_cases hk : σ k < p.length
        · obtain ⟨l, hal⟩ := At.mk hk
          rw [hal.getD]; exact flat_nodup hn hal
        · rw [List.getD_eq_getElem?_getD, List.getElem?_eq_none (by omega)]; simp
      refine List.pairwise_filterMap.2 (hnd.imp fun {a b} hab c hc d hd e => ?_)
      subst e
      exact hab (S.inj a b c hc hd)
    · unfold mv
      refine List.pairwise_map.2 ((List.pairwise_lt_range (n := o.ms.length)).imp_of_mem fun {k k'} hk hk' hlt x hx y hy e => ?_)
      subst e
      obtain ⟨a, ha, ea⟩ := List.mem_filterMap.1 hx
      obtain ⟨b, hb2, eb⟩ := List.mem_filterMap.1 hy
      have hab := S.inj a b x ea eb
      subst hab
      obtain ⟨l, hal, hbl, _⟩ := mem_getD ha
      obtain ⟨l', hal', hbl', _⟩ := mem_getD hb2
      have hs := flat_disj hn hal hal' hbl hbl'
      have := S.minj k k' (List.mem_range.1 hk) (List.mem_range.1 hk') hs (by rw [← hl]; exact hal.lt)
      omega

theorem Sim.time (hv : Valid h) (ho : Valid o) (S : Sim T h o ren σ) (hp : isPlan h p = true) {b b' : Nat} (e : ren (b : Int) = some (b' : Int)) (hb : (b : Int) ∈ p.flatten) :
    tm o (mv o ren σ p) b' ≤ tm h p b ∧ (b' : Int) ∈ (mv o ren σ p).flatten := by
  obtain ⟨hl, hbd, hn⟩ := isPlan_iff.1 hp
  obtain ⟨l, hlm, hbl⟩ := List.mem_flatten.1 hb
  obtain ⟨k, hk⟩ := mem_At hlm
  obtain ⟨i, hi⟩ := mem_At hbl
  obtain ⟨k', hk', rfl⟩ := S.mto k (by rw [← hl]; exact hk.lt)
  have hkl : σ k' < h.ms.length := by rw [← hl]; exact hk.lt
  have hat := mv_at (o := o) (ren := ren) (σ := σ) (p := p) hk'
  rw [hk.getD] at hat
  have hf := S.fast k' hk' hkl
  have hmo := mach_ok ho hk'
  obtain ⟨i', hi', hle⟩ := done_sim (h := h) (o := o) (mc := mach h (σ k')) (mc' := mach o k') (within_iff.1 hv.ch).1 S.ch ⟨by omega, hf.2⟩ hf.1 hi e (fun x hx => by
    have hx' := hbd x (List.mem_flatten.2 ⟨l, hlm, hx⟩)
    refine ⟨?_, fun b' eb => (S.into x b' hx'.1 hx'.2 eb).2.2⟩
    obtain ⟨j, rfl⟩ := Int.eq_ofNat_of_zero_le hx'.1
    have hj : j < h.bs.length := by have := hx'.2; omega
    have := bund_ok hv hj
    omega)
  unfold tm
  rw [times_at hp hk hi, times_at (S.plan hp) hat hi']
  exact ⟨hle, List.mem_flatten.2 ⟨_, hat.mem, hi'.mem⟩⟩

theorem Sim.late (hv : Valid h) (ho : Valid o) (S : Sim T h o ren σ) (hp : isPlan h p = true) {t : Nat} (ht : T t) (hl : (t : Int) ∈ lateOf o (mv o ren σ p)) : (t : Int) ∈ lateOf h p := by
  rw [lateOf_iff] at hl ⊢
  obtain ⟨h1, b', hb', hbt, hn⟩ := hl
  obtain ⟨b, hb, e⟩ := S.onto b' hb' (by rw [hbt]; exact ht)
  have hin := S.into b b' (by omega) (by omega) e
  refine ⟨by rw [← S.ts]; exact h1, b, hb, by rw [← hin.2.2]; exact hbt, fun hi => hn ?_⟩
  by_cases hm : (b : Int) ∈ p.flatten
  · obtain ⟨hle, hm'⟩ := S.time hv ho hp e hm
    have h2 := tm_printed ho (S.plan hp) hm'
    have h3 := S.later t ht
    exact ⟨h2, by have := hi.2; omega⟩
  · have := tm_none hp hb hm
    have := hi.1; omega
end

theorem casesOf_iff {h : House} {c : Int} : c ∈ casesOf h ↔ c = -1 ∨ ∃ k : Nat, k < h.ms.length ∧ c = (k : Int) ∧ (mach h k).s = 1 := by
  unfold casesOf casesTo
  simp only [List.mem_cons, List.mem_map, List.mem_filter, List.mem_range, decide_eq_true_eq]
  constructor
  · rintro (h1 | ⟨k, ⟨h1, h2⟩, rfl⟩)
    · exact .inl h1
    · exact .inr ⟨k, h1, rfl, h2⟩
  · rintro (h1 | ⟨k, h1, rfl, h2⟩)
    · exact .inl h1
    · exact .inr ⟨k, ⟨h1, h2⟩, rfl⟩

/-- The machine of a case prints nothing. -/
def Idle (p : List (List Int)) (c : Int) : Prop := ∀ i : Nat, (i : Int) = c → p.getD i [] = []

theorem sureB_iff {h : House} (hv : Valid h) {l : List Int} : sureB h l = true ↔ ∀ c ∈ casesOf h, ∃ p, isPlan h p = true ∧ Idle p c ∧ ∀ t ∈ lateOf h p, t ∈ l := by
  unfold sureB
  rw [List.all_eq_true]
  refine forall_congr' fun c => forall_congr' fun _ => ?_
  unfold okCase
  rw [List.any_eq_true]
  constructor
  · rintro ⟨p, hp, hl⟩
    obtain ⟨h1, h2⟩ := (plansOf_iff hv c p).1 hp
    exact ⟨p, h1, h2, fun t ht => of_decide_eq_true (List.all_eq_true.1 hl t ht)⟩
  · rintro ⟨p, h1, h2, hl⟩
    exact ⟨p, (plansOf_iff hv c p).2 ⟨h1, h2⟩, List.all_eq_true.2 fun t ht => decide_eq_true (hl t ht)⟩

theorem Sim.case {T : Int → Prop} {h o : House} {ren : Int → Option Int} {σ : Nat → Nat} (S : Sim T h o ren σ) {c : Int} (hc : c ∈ casesOf o) : ∃ c' ∈ casesOf h, ∀ p, Idle p c' → Idle (mv o ren σ p) c := by
  rcases casesOf_iff.1 hc with rfl | ⟨k, hk, rfl, hs⟩
  · exact ⟨-1, casesOf_iff.2 (.inl rfl), fun p _ i hi => by omega⟩
  · obtain ⟨h1, h2⟩ := S.stop k hk hs
    refine ⟨(σ k : Nat), casesOf_iff.2 (.inr ⟨_, h1, rfl, h2⟩), fun p hp i hi => ?_⟩
    obtain rfl : i = k := by omega
    rw [mv_getD hk, hp _ rfl]; rfl

/-- If h is sure but for some trains, o is. -/
theorem Sim.sure {T : Int → Prop} {h o : House} {ren : Int → Option Int} {σ : Nat → Nat} (hv : Valid h) (ho : Valid o) (S : Sim T h o ren σ) {l l' : List Int}
    (hl : ∀ t b : Nat, b < o.bs.length → (bund o b).t = t → (T t → (t : Int) ∈ l) → (t : Int) ∈ l') (hs : sureB h l = true) : sureB o l' = true := by
  rw [sureB_iff hv] at hs
  rw [sureB_iff ho]
  intro c hc
  obtain ⟨c', hc', hi⟩ := S.case hc
  obtain ⟨p, hp, hpi, hpl⟩ := hs c' hc'
  refine ⟨mv o ren σ p, S.plan hp, hi p hpi, fun x hx => ?_⟩
  obtain ⟨t, rfl, ht⟩ := lateOf_is hx
  obtain ⟨_, b, hb, hbt, _⟩ := lateOf_iff.1 hx
  exact hl t b hb hbt fun hT => hpl _ (S.late hv ho hp hT hx)

theorem bst_le {α : Type} (f : α → Nat) : ∀ (l : List α) (b : α), f (bst f l b) ≤ f b ∧ ∀ y ∈ l, f (bst f l b) ≤ f y
  | [], b => ⟨Nat.le_refl _, by simp⟩
  | y :: l, b => by
    have ih := bst_le f l (if f y < f b then y else b)
    simp only [bst]
    have h1 : f (if f y < f b then y else b) ≤ f b ∧ f (if f y < f b then y else b) ≤ f y := by
      split <;> omega
    refine ⟨Nat.le_trans ih.1 h1.1, fun z hz => ?_⟩
    rcases List.mem_cons.1 hz with rfl | hz
    · exact Nat.le_trans ih.1 h1.2
    · exact ih.2 z hz
theorem firstBest_le {α : Type} [Inhabited α] (f : α → Nat) {l : List α} {y : α} (hy : y ∈ l) : f (firstBest f l) ≤ f y := (bst_le f l _).2 y hy
/-- By no plan of a case fewer trains are late than by the best one. -/
theorem bestOf_le {h : House} (hv : Valid h) {c : Int} {p : List (List Int)} (hp : isPlan h p = true) (hi : Idle p c) : lateN h (bestOf h c) ≤ lateN h p :=
  firstBest_le _ ((plansOf_iff hv c p).2 ⟨hp, hi⟩)
theorem bestOf_plan {h : House} (hv : Valid h) (c : Int) : isPlan h (bestOf h c) = true ∧ Idle (bestOf h c) c :=
  (plansOf_iff hv c _).1 (firstBest_mem _ (plansOf_ne hv c))

theorem lateN_mono {h o : House} {p q : List (List Int)} (ht : o.ts.length = h.ts.length) (hs : ∀ t : Nat, (t : Int) ∈ lateOf o q → (t : Int) ∈ lateOf h p) : lateN o q ≤ lateN h p := by
  unfold lateN lateOf lateList
  rw [List.length_map, List.length_map, ← List.countP_eq_length_filter, ← List.countP_eq_length_filter, ht]
  refine List.countP_mono_left fun t hm hq => ?_
  exact (lateOf_nat.1 (hs t (lateOf_nat.2 ⟨by rw [ht]; exact List.mem_range.1 hm, hq⟩))).2
theorem Sim.fewest {h o : House} {ren : Int → Option Int} {σ : Nat → Nat} (hv : Valid h) (ho : Valid o) (S : Sim (fun _ => True) h o ren σ) : lateN o (bestOf o (-1)) ≤ lateN h (bestOf h (-1)) := by
  obtain ⟨hp, _⟩ := bestOf_plan hv (-1)
  refine Nat.le_trans (bestOf_le ho (S.plan hp) (fun i hi => by omega)) (lateN_mono S.ts fun t ht => S.late hv ho hp trivial ht)
theorem Sim.told {h o : House} {ren : Int → Option Int} {σ : Nat → Nat} (hv : Valid h) (ho : Valid o) (S : Sim (fun _ => True) h o ren σ) : (∀ l, sureB h l = true → sureB o l = true) ∧ (toldOf o).length ≤ (toldOf h).length := by
  have hs : ∀ l, sureB h l = true → sureB o l = true := fun l => S.sure hv ho fun t b _ _ k => k trivial
  exact ⟨hs, toldOf_le hv ho S.ts hs⟩

end Go.Proofs.Yteijmboophnmgaa
