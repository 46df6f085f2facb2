/- With one machine and no change of plates: all bundles by the minutes of their trains. Plain. -/
import Derived.Test.YteijmboophnmgaaWaitP
namespace Go.Proofs.Yteijmboophnmgaa

def sumZ (f : Int → Int) : List Int → Int
  | [] => 0
  | b :: l => f b + sumZ f l
theorem sumZ_append (f : Int → Int) : ∀ (a b : List Int), sumZ f (a ++ b) = sumZ f a + sumZ f b
  | [], b => by simp [sumZ]
  | x :: a, b => by simp only [List.cons_append, sumZ]; rw [sumZ_append f a b]; omega
theorem sumZ_nonneg {f : Int → Int} : ∀ {l : List Int}, (∀ x ∈ l, 0 ≤ f x) → 0 ≤ sumZ f l
  | [], _ => Int.le_refl _
  | x :: l, h => by
    have h1 := h x (by simp)
    have h2 := sumZ_nonneg (f := f) (l := l) fun y hy => h y (by simp [hy])
    simp only [sumZ]; omega
theorem sumZ_mem {f : Int → Int} {a : Int} : ∀ {l : List Int}, a ∈ l → sumZ f l = f a + sumZ f (l.erase a)
  | x :: l, h => by
    by_cases e : x = a
    · subst e; rw [List.erase_cons_head]; rfl
    · have hm : a ∈ l := by rcases List.mem_cons.1 h with c | c; exact absurd c.symm e; exact c
      rw [List.erase_cons_tail (by simpa using e)]
      simp only [sumZ]
      rw [sumZ_mem hm]; omega
theorem sumZ_sub {f : Int → Int} : ∀ {a l : List Int}, a.Nodup → (∀ x ∈ a, x ∈ l) → (∀ x ∈ l, 0 ≤ f x) → sumZ f a ≤ sumZ f l
  | [], _, _, _, h0 => sumZ_nonneg h0
  | x :: a, l, hn, hs, h0 => by
    obtain ⟨h1, h2⟩ := List.nodup_cons.1 hn
    rw [sumZ_mem (hs x (by simp))]
    have := sumZ_sub (f := f) (a := a) (l := l.erase x) h2 (fun y hy => by
      have hne : y ≠ x := fun e => h1 (e ▸ hy)
      exact (List.mem_erase_of_ne hne).2 (hs y (by simp [hy]))) (fun y hy => h0 y (List.mem_of_mem_erase hy))
    simp only [sumZ]; omega

/-- Without change a list is done after the sum of its work. -/
theorem fin_sum {h : House} (hc : h.ch = 0) (mc : Mach) : ∀ (l : List Int) (s : Int × Option Int), (fin h mc l s).1 = s.1 + sumZ (fun b => (bund h b).h * mc.p) l
  | [], s => by simp [fin, sumZ]
  | b :: l, s => by
    simp only [fin, sumZ]
    rw [fin_sum hc mc l]
    have h1 : chg h s.2 (bund h b).e = 0 := by unfold chg; rw [hc]; simp
    simp only [stepT_eq, h1]; omega

theorem last_of {A l : List Int} (hA : A ≠ []) : ∀ n, (∀ x ∈ A, x ∈ l.take n) → ∃ j x, At l j x ∧ x ∈ A ∧ ∀ y ∈ A, y ∈ l.take (j + 1)
  | 0, h => by
    cases A with
    | nil => exact absurd rfl hA
    | cons a A => have := h a (by simp); simp at this
  | n + 1, h => by
    by_cases hn : n < l.length
    · obtain ⟨x, hx⟩ := At.mk hn
      by_cases hm : x ∈ A
      · exact ⟨n, x, hx, hm, h⟩
      · refine last_of hA n fun y hy => ?_
        have := h y hy
        rw [hx.take, List.mem_append] at this
        rcases this with h1 | h1
        · exact h1
        · rw [List.mem_singleton.1 h1] at hy; exact absurd hy hm
    · refine last_of hA n fun y hy => ?_
      have := h y hy
      rw [List.take_of_length_le (by omega)] at this ⊢
      exact this

/-- All bundles, by the minutes of their trains. -/
structure Edf (o : House) (l : List Int) : Prop where
  good : goodAll o.bs.length l = true
  len : l.length = o.bs.length
  sorted : ∀ i j x y, i ≤ j → At l i x → At l j y → o.ts.getD (bund o x).t.toNat 0 ≤ o.ts.getD (bund o y).t.toNat 0

theorem goodAll_full {n : Nat} {l : List Int} (hg : goodAll n l = true) (hl : l.length = n) {b : Nat} (hb : b < n) : (b : Int) ∈ l := by
  obtain ⟨h1, h2⟩ := goodAll_iff.1 hg
  refine Classical.byContradiction fun hn => ?_
  have := nodup_len n ((b : Int) :: l) (fun x hx => by
    rcases List.mem_cons.1 hx with rfl | hx
    · omega
    · exact h1 x hx) (List.nodup_cons.2 ⟨hn, h2⟩)
  rw [List.length_cons] at this; omega

theorem edf_best {o : House} (hv : Valid o) (hm : o.ms.length = 1) (hc : o.ch = 0) {l : List Int} (E : Edf o l) : lateN o (bestOf o (-1)) = 0 ↔ lateOf o [l] = [] := by
  have hpl : isPlan o [l] = true := by
    unfold isPlan
    rw [hm]
    simp [E.good]
  constructor
  · intro h0
    have hq0 : lateOf o (bestOf o (-1)) = [] := List.eq_nil_of_length_eq_zero h0
    obtain ⟨hq, _⟩ := bestOf_plan hv (-1)
    generalize bestOf o (-1) = q at hq0 hq
    have hql := (isPlan_iff.1 hq).1
    obtain ⟨l', rfl⟩ : ∃ l', q = [l'] := by
      rw [hm] at hql
      match q, hql with
      | [l'], _ => exact ⟨l', rfl⟩
    rw [← sub_nil, late_sub hv] at hq0
    rw [← sub_nil, late_sub hv]
    have hin' : ∀ b : Nat, b < o.bs.length → (b : Int) ∈ l' := fun b hb => by
      refine Classical.byContradiction fun hn => ?_
      have h1 := hq0 b hb (by simp)
      have h2 := tm_none hq hb (by simpa using hn)
      unfold inT at h1; omega
    intro b hb _
    have hbl := goodAll_full E.good E.len hb
    obtain ⟨i, hi⟩ := mem_At hbl
    have hbd : ∀ x ∈ l, 0 ≤ x ∧ x.toNat < o.bs.length := fun x hx => plan_bd hpl (by simpa using hx)
    have hbd' : ∀ x ∈ l', 0 ≤ x ∧ x.toNat < o.bs.length := fun x hx => plan_bd hq (by simpa using hx)
    have h0p : ∀ x ∈ l', 0 ≤ (bund o x).h * (mach o 0).p := fun x hx => by
      have h1 := hbd' x hx
      have h2 := bund_ok hv h1.2
      rw [Int.toNat_of_nonneg h1.1] at h2
      have h3 := mach_ok hv (k := 0) (by omega)
      exact Int.mul_nonneg (by omega) (by omega)
    have hne : l.take (i + 1) ≠ [] := fun e => by
      have := congrArg List.length e
      rw [List.length_take, List.length_nil] at this
      have := hi.lt
      omega
    obtain ⟨j, x, hj, hxm, hall⟩ := last_of (l := l') hne l'.length (fun y hy => by
      rw [List.take_length]
      have h1 := hbd y (List.mem_of_mem_take hy)
      have := hin' y.toNat h1.2
      rwa [Int.toNat_of_nonneg h1.1] at this)
    have hx0 := hbd' x hj.mem
    obtain ⟨k, rfl⟩ := Int.eq_ofNat_of_zero_le hx0.1
    have hxin := hq0 k hx0.2 (by simp)
    have ht1 : tm o [l'] k = done o (mach o 0) l' j := times_at hq (k := 0) rfl hj
    have ht2 : tm o [l] b = done o (mach o 0) l i := times_at hpl (k := 0) rfl hi
    have hsum : sumZ (fun b => (bund o b).h * (mach o 0).p) (l.take (i + 1)) ≤ sumZ (fun b => (bund o b).h * (mach o 0).p) (l'.take (j + 1)) :=
      sumZ_sub ((goodAll_iff.1 E.good).2.sublist (List.take_sublist _ _)) hall (fun y hy => h0p y (List.mem_of_mem_take hy))
    have hle : tm o [l] b ≤ tm o [l'] k := by
      rw [ht1, ht2]
      unfold done
      rw [fin_sum hc, fin_sum hc]
      simp only; omega
    obtain ⟨i', hi', he⟩ := List.mem_take_iff_getElem.1 hxm
    have hai : At l i' (k : Int) := List.getElem?_eq_some_iff.2 ⟨by omega, he⟩
    have hs := E.sorted i' i _ _ (by omega) hai hi
    have hp := tm_printed hv hpl (b := b) (by simpa using hbl)
    unfold inT at hxin ⊢
    simp only [Int.toNat_natCast] at *
    omega
  · intro h0
    have := bestOf_le hv (c := -1) hpl (fun i hi => by omega)
    unfold lateN at this ⊢
    rw [h0] at this
    simpa using this

end Go.Proofs.Yteijmboophnmgaa
