/- When each bundle is printed, and that less work is no later. Plain. -/
import Derived.Test.YteijmboophnmgaaPlain
namespace Go.Proofs.Yteijmboophnmgaa

/-- What changing the plate costs. -/
def chg (h : House) (prev : Option Int) (e : Int) : Int := if prev.any (fun x => x != e) then h.ch else 0
/-- When a list is done, and the last edition. -/
def fin (h : House) (mc : Mach) : List Int → Int × Option Int → Int × Option Int
  | [], s => s
  | b :: l, s => fin h mc l (stepT h mc s.1 s.2 b, some (bund h b).e)
theorem fin_append (h : House) (mc : Mach) : ∀ (l r : List Int) (s : Int × Option Int), fin h mc (l ++ r) s = fin h mc r (fin h mc l s)
  | [], _, _ => rfl
  | _ :: l, r, _ => fin_append h mc l r _
theorem runTo_fin (h : House) (mc : Mach) : ∀ (l : List Int) (ts : List Int) (now : Int) (prev : Option Int), (runTo h mc l (ts, now, prev)).2 = fin h mc l (now, prev)
  | [], _, _, _ => rfl
  | _ :: l, _, _, _ => runTo_fin h mc l _ _ _
/-- When a bundle of a list is done. -/
def done (h : House) (mc : Mach) (l : List Int) (i : Nat) : Int := (fin h mc (l.take (i + 1)) (mc.r, none)).1

theorem runTo_other (h : House) (mc : Mach) {b : Nat} : ∀ (l : List Int) (ts : List Int) (now : Int) (prev : Option Int), (∀ x ∈ l, 0 ≤ x) → (b : Int) ∉ l → (runTo h mc l (ts, now, prev)).1.getD b 0 = ts.getD b 0
  | [], _, _, _, _, _ => rfl
  | x :: l, ts, now, prev, h0, hb => by
    have hx := h0 x (by simp)
    have hne : x.toNat ≠ b := fun e => hb (by rw [← e, Int.toNat_of_nonneg hx]; simp)
    simp only [runTo]
    rw [runTo_other h mc l _ _ _ (fun y hy => h0 y (by simp [hy])) (fun hm => hb (by simp [hm]))]
    simp only [List.getD_eq_getElem?_getD]
    rw [List.getElem?_set_ne hne]

theorem runTo_at (h : House) (mc : Mach) {b : Nat} : ∀ (l : List Int) (i : Nat) (ts : List Int) (now : Int) (prev : Option Int), (∀ x ∈ l, 0 ≤ x) → l.Nodup → b < ts.length → At l i (b : Int) → (runTo h mc l (ts, now, prev)).1.getD b 0 = (fin h mc (l.take (i + 1)) (now, prev)).1
  | [], _, _, _, _, _, _, _, ha => by simp [At] at ha
  | x :: l, 0, ts, now, prev, h0, hn, hb, ha => by
    obtain rfl : x = (b : Int) := by simpa [At] using ha
    simp only [runTo]
    rw [runTo_other h mc l _ _ _ (fun y hy => h0 y (by simp [hy])) (List.nodup_cons.1 hn).1]
    simp only [List.getD_eq_getElem?_getD, Int.toNat_natCast]
    rw [List.getElem?_set_self hb]
    rfl
  | x :: l, i + 1, ts, now, prev, h0, hn, hb, ha => by
    simp only [runTo]
    rw [runTo_at h mc l i _ _ _ (fun y hy => h0 y (by simp [hy])) (List.nodup_cons.1 hn).2 (by rw [List.length_set]; exact hb) (by simpa [At] using ha)]
    rfl

theorem timesTo_other (h : House) {b : Nat} : ∀ (p : List (List Int)) (m : Nat) (ts : List Int), (∀ x ∈ p.flatten, 0 ≤ x) → (b : Int) ∉ p.flatten → (timesTo h m p ts).getD b 0 = ts.getD b 0
  | [], _, _, _, _ => rfl
  | l :: p, m, ts, h0, hb => by
    simp only [timesTo, runList]
    rw [timesTo_other h p _ _ (fun x hx => h0 x (by simp only [List.flatten_cons, List.mem_append]; exact .inr hx)) (fun hm => hb (by simp only [List.flatten_cons, List.mem_append]; exact .inr hm))]
    exact runTo_other h _ l ts _ _ (fun x hx => h0 x (by simp only [List.flatten_cons, List.mem_append]; exact .inl hx)) (fun hm => hb (by simp only [List.flatten_cons, List.mem_append]; exact .inl hm))

theorem timesTo_at (h : House) {b i : Nat} {l : List Int} : ∀ (p : List (List Int)) (m k : Nat) (ts : List Int), (∀ x ∈ p.flatten, 0 ≤ x) → p.flatten.Nodup → b < ts.length → At p k l → At l i (b : Int) → (timesTo h m p ts).getD b 0 = done h (mach h (m + k)) l i
  | [], _, _, _, _, _, _, ha, _ => by simp [At] at ha
  | q :: p, m, 0, ts, h0, hn, hb, ha, hl => by
    obtain rfl : q = l := by simpa [At] using ha
    simp only [List.flatten_cons, List.nodup_append] at hn
    simp only [timesTo, runList]
    rw [timesTo_other h p _ _ (fun x hx => h0 x (by simp only [List.flatten_cons, List.mem_append]; exact .inr hx)) (fun hm => hn.2.2 _ hl.mem _ hm rfl)]
    exact runTo_at h _ q i ts _ _ (fun x hx => h0 x (by simp only [List.flatten_cons, List.mem_append]; exact .inl hx)) hn.1 hb hl
  | q :: p, m, k + 1, ts, h0, hn, hb, ha, hl => by
    simp only [List.flatten_cons, List.nodup_append] at hn
    simp only [timesTo, runList]
    rw [timesTo_at h p (m + 1) k _ (fun x hx => h0 x (by simp only [List.flatten_cons, List.mem_append]; exact .inr hx)) hn.2.1 (by rw [runTo_len]; exact hb) (by simpa [At] using ha) hl, show m + 1 + k = m + (k + 1) by omega]

theorem isPlan_iff {h : House} {p : List (List Int)} : isPlan h p = true ↔ p.length = h.ms.length ∧ (∀ b ∈ p.flatten, 0 ≤ b ∧ b ≤ (h.bs.length : Int) - 1) ∧ p.flatten.Nodup := by
  simp only [isPlan, Bool.and_eq_true, decide_eq_true_eq, goodAll_iff]

/-- A printed bundle's time. -/
theorem times_at {h : House} {p : List (List Int)} (hp : isPlan h p = true) {k i b : Nat} {l : List Int} (hl : At p k l) (hb : At l i (b : Int)) : (timesOf h p).getD b 0 = done h (mach h k) l i := by
  obtain ⟨_, h0, hn⟩ := isPlan_iff.1 hp
  have hm : (b : Int) ∈ p.flatten := List.mem_flatten.2 ⟨l, hl.mem, hb.mem⟩
  have := h0 _ hm
  unfold timesOf
  rw [timesTo_at h p 0 k _ (fun x hx => (h0 x hx).1) hn (by simp; omega) hl hb, Nat.zero_add]
/-- .. one that is not printed. -/
theorem times_none {h : House} {p : List (List Int)} (hp : isPlan h p = true) {b : Nat} (hb : b < h.bs.length) (hn : (b : Int) ∉ p.flatten) : (timesOf h p).getD b 0 = -1 := by
  obtain ⟨_, h0, _⟩ := isPlan_iff.1 hp
  unfold timesOf
  rw [timesTo_other h p 0 _ (fun x hx => (h0 x hx).1) hn]
  simp only [List.getD_eq_getElem?_getD]
  rw [List.getElem?_eq_getElem (by simpa using hb)]
  simp

end Go.Proofs.Yteijmboophnmgaa
