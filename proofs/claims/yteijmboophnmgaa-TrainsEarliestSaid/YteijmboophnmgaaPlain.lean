/- Plain facts on lists. No program stands here. The plain side: houses, plans, and what the chapter says of them, as Lean functions on lists. No program stands here. All plans of a house, the least one first, as a list. The best plan, the cases, who is told, waits, what is spare: as functions on the list of all plans. -/

namespace Go.Proofs.Yteijmboophnmgaa

section
variable {α : Type}
/-- The element at a place (a word that the walk does not look through). -/
def At (xs : List α) (k : Nat) (x : α) : Prop := xs[k]? = some x
theorem At.lt {xs : List α} {k : Nat} {x : α} (h : At xs k x) : k < xs.length := (List.getElem?_eq_some_iff.1 h).1
theorem At.mk {xs : List α} {k : Nat} (h : k < xs.length) : ∃ x, At xs k x := ⟨xs[k], List.getElem?_eq_getElem h⟩
theorem At.uniq {xs : List α} {k : Nat} {x y : α} (h : At xs k x) (h' : At xs k y) : x = y := Option.some.inj (h.symm.trans h')
theorem At.mem {xs : List α} {k : Nat} {x : α} (h : At xs k x) : x ∈ xs := List.mem_of_getElem? h
theorem At.get {xs : List α} {k : Nat} {x : α} (h : At xs k x) : ∃ hk : k < xs.length, xs[k] = x := List.getElem?_eq_some_iff.1 h
theorem At.take {xs : List α} {k : Nat} {x : α} (h : At xs k x) : xs.take (k + 1) = xs.take k ++ [x] := by
  obtain ⟨hk, rfl⟩ := h.get
  rw [List.take_succ_eq_append_getElem hk]

/-- The first k elements pass. -/
def okTo (p : α → Bool) (xs : List α) (k : Nat) : Prop := (xs.take k).all p = true
theorem okTo.zero (p : α → Bool) (xs : List α) : okTo p xs 0 := by simp [okTo]
theorem okTo.succ {p : α → Bool} {xs : List α} {k : Nat} {x : α} (h : okTo p xs k) (hx : At xs k x) (hp : p x = true) : okTo p xs (k + 1) := by
  unfold okTo at *
  rw [hx.take, List.all_append, h]
  simp [hp]
theorem okTo.all {p : α → Bool} {xs : List α} {k : Nat} (h : okTo p xs k) (hk : xs.length ≤ k) : xs.all p = true := by
  unfold okTo at h; rwa [List.take_of_length_le hk] at h
theorem At.not_all {p : α → Bool} {xs : List α} {k : Nat} {x : α} (hx : At xs k x) (hp : p x = false) : xs.all p = false := by
  rw [List.all_eq_false]
  exact ⟨x, hx.mem, by simp [hp]⟩
theorem take_all {xs : List α} {k : Nat} (h : xs.length ≤ k) : xs.take k = xs := List.take_of_length_le h
theorem At.same {xs ys : List α} {k : Nat} {x : α} (h : At xs k x) (hl : xs.take (k + 1) = ys.take (k + 1)) : At ys k x := by
  have h1 : (xs.take (k + 1))[k]? = some x := by rw [List.getElem?_take, if_pos (by omega)]; exact h
  rw [hl, List.getElem?_take, if_pos (by omega)] at h1
  exact h1
theorem At.ne {xs ys : List α} {k : Nat} {x y : α} (h : At xs k x) (h' : At ys k y) (hne : x ≠ y) : xs ≠ ys := fun e => by subst e; exact hne (h.uniq h')
end

/-- n stands in the first k places. -/
theorem mem_take_succ {l : List Int} {k : Nat} {x n : Int} (h : At l k x) : n ∈ l.take (k + 1) ↔ n ∈ l.take k ∨ n = x := by
  rw [h.take]; simp

def rising (lo hi : Int) (l : List Int) : Bool := l.all (fun x => decide (lo ≤ x) && decide (x ≤ hi)) && decide (l.Pairwise (· < ·))

theorem rising_iff {lo hi : Int} {l : List Int} : rising lo hi l = true ↔ (∀ x ∈ l, lo ≤ x ∧ x ≤ hi) ∧ l.Pairwise (· < ·) := by
  simp [rising]
theorem rising_snoc {lo hi : Int} {l : List Int} {x : Int} : rising lo hi (l ++ [x]) = true ↔ rising lo hi l = true ∧ (lo ≤ x ∧ x ≤ hi) ∧ ∀ y ∈ l, y < x := by
  simp only [rising_iff, List.mem_append, List.mem_singleton, List.pairwise_append, List.pairwise_singleton]
  constructor
  · rintro ⟨h1, h2, _, h3⟩
    exact ⟨⟨fun y hy => h1 y (.inl hy), h2⟩, h1 x (.inr rfl), fun y hy => h3 y hy x rfl⟩
  · rintro ⟨⟨h1, h2⟩, h3, h4⟩
    exact ⟨fun y hy => hy.elim (h1 y) (fun e => e ▸ h3), h2, trivial, fun y hy z hz => hz ▸ h4 y hy⟩
/-- One more number: it is within, and the one ahead of it is less. -/
theorem rising_step {lo hi : Int} {l : List Int} {k : Nat} {x : Int} (h : rising lo hi (l.take k) = true) (hx : At l k x) (hw : lo ≤ x ∧ x ≤ hi) (hp : ∀ y, 0 < k → At l (k - 1) y → y < x) : rising lo hi (l.take (k + 1)) = true := by
  rw [hx.take, rising_snoc]
  refine ⟨h, hw, fun y hy => ?_⟩
  obtain ⟨i, hi1, rfl⟩ := List.mem_take_iff_getElem.1 hy
  have hlt := hx.lt
  have hik : i < k := by omega
  have hlast : At l (k - 1) l[k - 1] := List.getElem?_eq_getElem (by omega)
  have h2 := hp _ (by omega) hlast
  by_cases e : i = k - 1
  · subst e; exact h2
  · have hpw := (rising_iff.1 h).2
    have := List.pairwise_iff_getElem.1 hpw i (k - 1) (by simp; omega) (by simp; omega) (by omega)
    simp only [List.getElem_take] at this
    omega
theorem rising_prefix {lo hi : Int} {l : List Int} (k : Nat) (h : rising lo hi l = true) : rising lo hi (l.take k) = true := by
  rw [rising_iff] at *
  exact ⟨fun x hx => h.1 x (List.mem_of_mem_take hx), h.2.sublist (List.take_sublist _ _)⟩
theorem rising_bad {lo hi : Int} {l : List Int} {k : Nat} {x : Int} (hx : At l k x) (h : ¬ (lo ≤ x ∧ x ≤ hi) ∨ ∃ y, 0 < k ∧ At l (k - 1) y ∧ x ≤ y) : rising lo hi l = false := by
  cases hr : rising lo hi l with
  | false => rfl
  | true =>
    exfalso
    obtain ⟨h1, h2⟩ := rising_iff.1 hr
    rcases h with h | ⟨y, hk, hy, hxy⟩
    · exact h (h1 x hx.mem)
    · obtain ⟨hk1, e1⟩ := hx.get
      obtain ⟨hk2, e2⟩ := hy.get
      have := List.pairwise_iff_getElem.1 h2 (k - 1) k hk2 hk1 (by omega)
      omega

/-- Of two lists the one is less, number by number, at the first place where they differ. -/
def earlier : List Int → List Int → Bool
  | x :: xs, y :: ys => if x = y then earlier xs ys else decide (x < y)
  | _, _ => false

theorem earlier_at : ∀ {xs ys : List Int} {k : Nat} {x y : Int}, xs.take k = ys.take k → At xs k x → At ys k y → x ≠ y → earlier xs ys = decide (x < y)
  | [], _, k, x, _, _, h, _, _ => by simp [At] at h
  | _ :: _, [], _, _, _, _, _, h, _ => by simp [At] at h
  | a :: xs, b :: ys, 0, x, y, _, h1, h2, hne => by
    simp [At] at h1 h2; subst h1; subst h2; simp [earlier, hne]
  | a :: xs, b :: ys, k + 1, x, y, he, h1, h2, hne => by
    simp only [List.take_succ_cons, List.cons.injEq] at he
    simp only [At, List.getElem?_cons_succ] at h1 h2
    rw [earlier, if_pos he.1]
    exact earlier_at he.2 h1 h2 hne
theorem earlier_none : ∀ {xs ys : List Int} {k : Nat}, xs.take k = ys.take k → (xs.length ≤ k ∨ ys.length ≤ k) → earlier xs ys = false
  | [], _, _, _, _ => by simp [earlier]
  | _ :: _, [], _, _, _ => by simp [earlier]
  | a :: xs, b :: ys, 0, _, h => by simp at h
  | a :: xs, b :: ys, k + 1, he, h => by
    simp only [List.take_succ_cons, List.cons.injEq] at he
    rw [earlier, if_pos he.1]
    exact earlier_none he.2 (by simpa using h)

end Go.Proofs.Yteijmboophnmgaa

namespace Go.Proofs.Yteijmboophnmgaa

structure Mach where
  r : Int
  p : Int
  s : Int
  deriving DecidableEq, Inhabited

structure Bund where
  t : Int
  h : Int
  e : Int
  deriving DecidableEq, Inhabited

structure House where
  ms : List Mach
  bs : List Bund
  ts : List Int
  ch : Int
  deriving DecidableEq, Inhabited

/-- low ≤ n ≤ high -/
def within (n lo hi : Int) : Bool := decide (lo ≤ n) && decide (n ≤ hi)

def okMach (m : Mach) : Bool := within m.r 0 99 && within m.p 1 9 && within m.s 0 1
def okBund (nt : Nat) (b : Bund) : Bool := within b.t 0 ((nt : Int) - 1) && within b.h 1 9 && within b.e 0 3

def errT (b : Bool) : Int := if b then 0 else 40

/-- A house is valid. -/
def valid (h : House) : Bool :=
  within h.ms.length 1 3 && decide (h.ts.length ≤ 4) && decide (h.bs.length ≤ 5) && within h.ch 0 9 &&
  h.ms.all okMach && h.ts.all (fun t => within t 0 99) && h.bs.all (okBund h.ts.length)

theorem within_iff {n lo hi : Int} : within n lo hi = true ↔ lo ≤ n ∧ n ≤ hi := by simp [within]

/-- What a valid house is, part by part. -/
structure Valid (h : House) : Prop where
  m1 : 1 ≤ h.ms.length
  m3 : h.ms.length ≤ 3
  t4 : h.ts.length ≤ 4
  b5 : h.bs.length ≤ 5
  ch : within h.ch 0 9 = true
  ms : h.ms.all okMach = true
  ts : h.ts.all (fun t => within t 0 99) = true
  bs : h.bs.all (okBund h.ts.length) = true

theorem valid_iff {h : House} : valid h = true ↔ Valid h := by
  unfold valid
  simp only [Bool.and_eq_true, within_iff, decide_eq_true_eq]
  constructor
  · rintro ⟨⟨⟨⟨⟨⟨⟨a, b⟩, c⟩, d⟩, e⟩, f⟩, g⟩, i⟩
    exact ⟨by omega, by omega, c, d, within_iff.2 e, f, g, i⟩
  · rintro ⟨a, b, c, d, e, f, g, i⟩
    exact ⟨⟨⟨⟨⟨⟨⟨by omega, by omega⟩, c⟩, d⟩, within_iff.1 e⟩, f⟩, g⟩, i⟩

theorem errT_no {h : House} (k : ¬ Valid h) : errT (valid h) = 40 := by
  have : valid h = false := by
    cases hv : valid h with
    | false => rfl
    | true => exact absurd (valid_iff.1 hv) k
  rw [this]; rfl
theorem errT_yes {h : House} (k : Valid h) : errT (valid h) = 0 := by rw [valid_iff.2 k]; rfl

/-- The error of a house that is asked for something. -/
def errA (v is : Bool) : Int := if v then (if is then 0 else 1) else 40

/-- Numbers of bundles, each once. -/
def goodAll (nb : Nat) (l : List Int) : Bool := l.all (fun b => within b 0 ((nb : Int) - 1)) && decide l.Nodup
def isPlan (h : House) (plan : List (List Int)) : Bool := decide (plan.length = h.ms.length) && goodAll h.bs.length plan.flatten

theorem goodAll_iff {nb : Nat} {l : List Int} : goodAll nb l = true ↔ (∀ b ∈ l, 0 ≤ b ∧ b ≤ (nb : Int) - 1) ∧ l.Nodup := by
  simp [goodAll, within]
theorem goodAll_nil (nb : Nat) : goodAll nb [] = true := by simp [goodAll]
theorem goodAll_snoc {nb : Nat} {l : List Int} {b : Int} (h : goodAll nb l = true) (hb : within b 0 ((nb : Int) - 1) = true) (hn : b ∉ l) : goodAll nb (l ++ [b]) = true := by
  rw [goodAll_iff] at *
  refine ⟨fun x hx => ?_, ?_⟩
  · rcases List.mem_append.1 hx with hx | hx
    · exact h.1 x hx
    · rw [List.mem_singleton.1 hx]; exact within_iff.1 hb
  · rw [List.nodup_append]
    exact ⟨h.2, by simp, fun x hx y hy => by rw [List.mem_singleton.1 hy]; exact fun e => hn (e ▸ hx)⟩
theorem goodAll_pre {nb : Nat} {l r : List Int} (h : goodAll nb (l ++ r) = true) : goodAll nb l = true := by
  rw [goodAll_iff] at *
  exact ⟨fun x hx => h.1 x (List.mem_append_left _ hx), (List.nodup_append.1 h.2).1⟩
theorem flatten_take {plan : List (List Int)} {m : Nat} {l : List Int} (h : At plan m l) : (plan.take (m + 1)).flatten = (plan.take m).flatten ++ l := by
  rw [h.take]; simp
theorem At.split {α : Type} {xs : List α} {k : Nat} {x : α} (h : At xs k x) : xs = xs.take k ++ x :: xs.drop (k + 1) := by
  obtain ⟨hk, rfl⟩ := h.get
  rw [← List.drop_eq_getElem_cons hk, List.take_append_drop]
theorem flatten_split {plan : List (List Int)} {m i : Nat} {l : List Int} {b : Int} (h : At plan m l) (hb : At l i b) : ∃ r, plan.flatten = ((plan.take m).flatten ++ l.take i ++ [b]) ++ r := by
  refine ⟨l.drop (i + 1) ++ (plan.drop (m + 1)).flatten, ?_⟩
  have h1 : plan.flatten = (plan.take m).flatten ++ (l ++ (plan.drop (m + 1)).flatten) := by
    have := congrArg List.flatten h.split
    simpa using this
  have h2 := congrArg (fun z => (plan.take m).flatten ++ (z ++ (plan.drop (m + 1)).flatten)) hb.split
  rw [h1]
  refine h2.trans ?_
  simp

/-! ### When bundles are printed -/

def mach (h : House) (m : Nat) : Mach := h.ms.getD m default
def bund (h : House) (b : Int) : Bund := h.bs.getD b.toNat default

theorem At.mach {h : House} {m : Nat} {x : Mach} (k : At h.ms m x) : mach h m = x := by
  unfold Go.Proofs.Yteijmboophnmgaa.mach; rw [List.getD_eq_getElem?_getD, show h.ms[m]? = some x from k]; rfl
theorem At.bund {h : House} {b : Nat} {x : Bund} (k : At h.bs b x) : bund h (b : Int) = x := by
  unfold Go.Proofs.Yteijmboophnmgaa.bund; rw [List.getD_eq_getElem?_getD, Int.toNat_natCast, show h.bs[b]? = some x from k]; rfl

/-- One bundle more on a machine: when it is printed. 'prev': the edition of the one before it. -/
def stepT (h : House) (mc : Mach) (now : Int) (prev : Option Int) (b : Int) : Int :=
  now + (if prev.any (fun e => e != (bund h b).e) then h.ch else 0) + (bund h b).h * mc.p

/-- The minutes after a list's first bundles: (the times so far, now, the last edition). -/
def runTo (h : House) (mc : Mach) : List Int → (List Int × Int × Option Int) → (List Int × Int × Option Int)
  | [], s => s
  | b :: l, (ts, now, prev) => runTo h mc l (ts.set b.toNat (stepT h mc now prev b), stepT h mc now prev b, some (bund h b).e)

def runList (h : House) (mc : Mach) (l : List Int) (ts : List Int) : List Int := (runTo h mc l (ts, mc.r, none)).1

/-- The times after the first machines' lists. -/
def timesTo (h : House) : Nat → List (List Int) → List Int → List Int
  | _, [], ts => ts
  | m, l :: plan, ts => timesTo h (m + 1) plan (runList h (mach h m) l ts)

def timesOf (h : House) (plan : List (List Int)) : List Int := timesTo h 0 plan (List.replicate h.bs.length (-1))

theorem runTo_append (h : House) (mc : Mach) : ∀ (l r : List Int) (s : List Int × Int × Option Int), runTo h mc (l ++ r) s = runTo h mc r (runTo h mc l s)
  | [], _, _ => rfl
  | b :: l, r, (ts, now, prev) => by simp only [List.cons_append, runTo]; exact runTo_append h mc l r _
theorem runTo_take {h : House} {mc : Mach} {l : List Int} {k : Nat} {b : Int} (hb : At l k b) (s : List Int × Int × Option Int) :
    runTo h mc (l.take (k + 1)) s = ((runTo h mc (l.take k) s).1.set b.toNat (stepT h mc (runTo h mc (l.take k) s).2.1 (runTo h mc (l.take k) s).2.2 b), stepT h mc (runTo h mc (l.take k) s).2.1 (runTo h mc (l.take k) s).2.2 b, some (bund h b).e) := by
  rw [hb.take, runTo_append]; rfl
theorem timesTo_append (h : House) : ∀ (p q : List (List Int)) (m : Nat) (ts : List Int), timesTo h m (p ++ q) ts = timesTo h (m + p.length) q (timesTo h m p ts)
  | [], _, _, _ => rfl
  | l :: p, q, m, ts => by simp only [List.cons_append, timesTo, List.length_cons]; rw [timesTo_append h p q]; congr 1; omega
theorem timesTo_take {h : House} {plan : List (List Int)} {m : Nat} {l : List Int} (hl : At plan m l) (ts : List Int) : timesTo h 0 (plan.take (m + 1)) ts = runList h (mach h m) l (timesTo h 0 (plan.take m) ts) := by
  rw [hl.take, timesTo_append, List.length_take, Nat.min_eq_left (Nat.le_of_lt hl.lt), Nat.zero_add]; rfl
theorem runTo_len (h : House) (mc : Mach) : ∀ (l : List Int) (s : List Int × Int × Option Int), (runTo h mc l s).1.length = s.1.length
  | [], _ => rfl
  | b :: l, (ts, now, prev) => by simp only [runTo]; rw [runTo_len h mc l]; simp
theorem runTo_last {h : House} {mc : Mach} {l : List Int} {k : Nat} {b : Int} (hb : At l k b) (s : List Int × Int × Option Int) : (runTo h mc (l.take (k + 1)) s).2.2 = some (bund h b).e := by
  rw [runTo_take hb]
theorem timesTo_len (h : House) : ∀ (plan : List (List Int)) (m : Nat) (ts : List Int), (timesTo h m plan ts).length = ts.length
  | [], _, _ => rfl
  | l :: plan, m, ts => by simp only [timesTo]; rw [timesTo_len h plan]; simp [runList, runTo_len]
theorem timesOf_len (h : House) (plan : List (List Int)) : (timesOf h plan).length = h.bs.length := by simp [timesOf, timesTo_len]

/-- In a valid house the minutes stay small. -/
theorem stepT_bd {h : House} (hv : Valid h) {m : Nat} {mc : Mach} (hm : At h.ms m mc) {b : Nat} (hb : b < h.bs.length) (now : Int) (prev : Option Int) : now + 1 ≤ stepT h mc now prev b ∧ stepT h mc now prev b ≤ now + 90 := by
  obtain ⟨x, hx⟩ := At.mk hb
  have h1 := List.all_eq_true.1 hv.bs x hx.mem
  have h2 := List.all_eq_true.1 hv.ms mc hm.mem
  simp only [okBund, okMach, Bool.and_eq_true, within_iff] at h1 h2
  have hch := within_iff.1 hv.ch
  unfold stepT
  rw [hx.bund]
  have h3 : 1 * 1 ≤ x.h * mc.p := Int.mul_le_mul (by omega) (by omega) (by omega) (by omega)
  have h4 : x.h * mc.p ≤ 9 * 9 := Int.mul_le_mul (by omega) (by omega) (by omega) (by omega)
  split <;> omega

theorem prod_bd {h : House} (hv : Valid h) {m : Nat} {mc : Mach} (hm : At h.ms m mc) {b : Nat} {x : Bund} (hx : At h.bs b x) : 1 ≤ x.h * mc.p ∧ x.h * mc.p ≤ 81 ∧ 0 ≤ h.ch ∧ h.ch ≤ 9 := by
  have h1 := List.all_eq_true.1 hv.bs x hx.mem
  have h2 := List.all_eq_true.1 hv.ms mc hm.mem
  simp only [okBund, okMach, Bool.and_eq_true, within_iff] at h1 h2
  have hch := within_iff.1 hv.ch
  have h3 : 1 * 1 ≤ x.h * mc.p := Int.mul_le_mul (by omega) (by omega) (by omega) (by omega)
  have h4 : x.h * mc.p ≤ 9 * 9 := Int.mul_le_mul (by omega) (by omega) (by omega) (by omega)
  exact ⟨by omega, by omega, hch.1, hch.2⟩
theorem ready_bd {h : House} (hv : Valid h) {m : Nat} {mc : Mach} (hm : At h.ms m mc) : 0 ≤ mc.r ∧ mc.r ≤ 99 := by
  have h2 := List.all_eq_true.1 hv.ms mc hm.mem
  simp only [okMach, Bool.and_eq_true, within_iff] at h2
  exact h2.1.1

/-- Different numbers of so many bundles are no more than these. -/
theorem nodup_len : ∀ (n : Nat) (l : List Int), (∀ x ∈ l, 0 ≤ x ∧ x ≤ (n : Int) - 1) → l.Nodup → l.length ≤ n
  | 0, l, h, _ => by
    cases l with
    | nil => simp
    | cons x l => have := h x (by simp); omega
  | n + 1, l, h, hn => by
    have h1 := nodup_len n (l.erase n) (fun x hx => by
      have h2 := h x (List.mem_of_mem_erase hx)
      have h3 : x ≠ n := fun e => by subst e; exact (List.Nodup.not_mem_erase hn) hx
      omega) (hn.erase _)
    have h4 := List.length_erase (a := (n : Int)) (l := l)
    split at h4 <;> omega

theorem isPlan_len {h : House} {plan : List (List Int)} (hp : isPlan h plan = true) : plan.flatten.length ≤ h.bs.length := by
  simp only [isPlan, Bool.and_eq_true] at hp
  have := goodAll_iff.1 hp.2
  exact nodup_len _ _ this.1 this.2
theorem isPlan_one {h : House} {plan : List (List Int)} (hp : isPlan h plan = true) {m : Nat} {l : List Int} (hl : At plan m l) : l.length ≤ h.bs.length := by
  have h1 := isPlan_len hp
  have h2 := congrArg List.length (congrArg List.flatten hl.split)
  simp at h2
  simp at h1
  omega

/-! ### Which trains are late -/

/-- One of the first k bundles makes a train late. -/
def lateTo (h : House) (times : List Int) (t : Nat) (k : Nat) : Bool :=
  (List.range k).any fun i => ((h.bs.getD i default).t == (t : Int)) && (decide (times.getD i 0 < 0) || decide (h.ts.getD t 0 < times.getD i 0))
def lateB (h : House) (times : List Int) (t : Nat) : Bool := lateTo h times t h.bs.length
/-- All trains that are late, of the first m. -/
def lateList (h : House) (times : List Int) (m : Nat) : List Int := ((List.range m).filter (lateB h times)).map Int.ofNat
def lateOf (h : House) (plan : List (List Int)) : List Int := lateList h (timesOf h plan) h.ts.length

theorem lateTo_succ {h : House} {times : List Int} {t k : Nat} {y : Bund} {x tr : Int} (hy : At h.bs k y) (hx : At times k x) (ht : At h.ts t tr) :
    lateTo h times t (k + 1) = (lateTo h times t k || ((y.t == (t : Int)) && (decide (x < 0) || decide (tr < x)))) := by
  unfold lateTo
  rw [List.range_succ, List.any_append]
  simp [List.getD_eq_getElem?_getD, show h.bs[k]? = some y from hy, show times[k]? = some x from hx, show h.ts[t]? = some tr from ht]
theorem lateList_succ (h : House) (times : List Int) (m : Nat) : lateList h times (m + 1) = if lateB h times m then lateList h times m ++ [(m : Int)] else lateList h times m := by
  unfold lateList
  rw [List.range_succ, List.filter_append]
  cases hl : lateB h times m <;> simp [hl]
theorem lateList_len (h : House) (times : List Int) (m : Nat) : (lateList h times m).length ≤ m := by
  unfold lateList
  rw [List.length_map]
  exact Nat.le_trans (List.length_filter_le _ _) (by simp)

end Go.Proofs.Yteijmboophnmgaa

namespace Go.Proofs.Yteijmboophnmgaa

/-! ### All plans, the least one first -/

/-- One bundle more on the last list. -/
def growP (first : List (List Int)) (b : Nat) : List (List Int) := first.take (first.length - 1) ++ [first.getD (first.length - 1) [] ++ [(b : Int)]]

def plansB (_h : House) (rec : List (List Int) → List (List (List Int))) (first : List (List Int)) (k : Nat) : List (List (List Int)) :=
  (List.range k).flatMap fun (b : Nat) => if decide ((b : Int) ∈ first.flatten) then [] else rec (growP first b)
def plansA (h : House) (rec : List (List Int) → List (List (List Int))) (first : List (List Int)) : List (List (List Int)) :=
  if first.length = h.ms.length then [first] else rec (first ++ [[]])
def plansStep (h : House) (stop : Int) (rec : List (List Int) → List (List (List Int))) (first : List (List Int)) : List (List (List Int)) :=
  plansA h rec first ++ (if (first.length : Int) - 1 = stop then [] else plansB h rec first h.bs.length)
def plansF (h : House) (stop : Int) : Nat → List (List Int) → List (List (List Int))
  | 0 => plansStep h stop (fun _ => [])
  | n + 1 => plansStep h stop (plansF h stop n)
/-- How much further lists can grow. -/
def mu (h : House) (first : List (List Int)) : Nat := (h.ms.length - first.length) + (h.bs.length - first.flatten.length)
def plansOf (h : House) (stop : Int) : List (List (List Int)) := plansF h stop (mu h [[]]) [[]]

structure GoodF (h : House) (first : List (List Int)) : Prop where
  ne : 0 < first.length
  le : first.length ≤ h.ms.length
  good : goodAll h.bs.length first.flatten = true

theorem GoodF.len {h : House} {first : List (List Int)} (g : GoodF h first) : first.flatten.length ≤ h.bs.length := by
  have := goodAll_iff.1 g.good
  exact nodup_len _ _ this.1 this.2
theorem GoodF.nil_ok {h : House} {first : List (List Int)} (g : GoodF h first) (hl : first.length ≠ h.ms.length) : GoodF h (first ++ [[]]) ∧ mu h (first ++ [[]]) < mu h first := by
  have := g.le
  refine ⟨⟨by simp, by simp; omega, by simpa using g.good⟩, ?_⟩
  unfold mu; simp; omega
theorem growP_flatten {first : List (List Int)} (hn : 0 < first.length) (b : Nat) : (growP first b).flatten = first.flatten ++ [(b : Int)] := by
  obtain ⟨l, hl⟩ := At.mk (xs := first) (k := first.length - 1) (by omega)
  have h1 : first.getD (first.length - 1) [] = l := by rw [List.getD_eq_getElem?_getD, show first[first.length - 1]? = some l from hl]; rfl
  have h2 : first.drop (first.length - 1 + 1) = [] := List.drop_eq_nil_iff.2 (by omega)
  have h3 : first.flatten = (first.take (first.length - 1)).flatten ++ l := by
    have := congrArg List.flatten hl.split
    rw [h2] at this
    simpa using this
  unfold growP
  rw [h1, h3]; simp
theorem growP_len {first : List (List Int)} (hn : 0 < first.length) (b : Nat) : (growP first b).length = first.length := by
  unfold growP; simp; omega
theorem GoodF.grow_ok {h : House} {first : List (List Int)} (g : GoodF h first) {b : Nat} (hb : b < h.bs.length) (hn : (b : Int) ∉ first.flatten) : GoodF h (growP first b) ∧ mu h (growP first b) < mu h first := by
  have hgood : goodAll h.bs.length (growP first b).flatten = true := by
    rw [growP_flatten g.ne]
    exact goodAll_snoc g.good (within_iff.2 (by omega)) hn
  have g' : GoodF h (growP first b) := ⟨by rw [growP_len g.ne]; exact g.ne, by rw [growP_len g.ne]; exact g.le, hgood⟩
  refine ⟨g', ?_⟩
  have h1 := g'.len
  unfold mu
  rw [growP_len g.ne]
  rw [growP_flatten g.ne] at h1 ⊢
  simp at h1 ⊢; omega

theorem plansB_succ (h : House) (rec : List (List Int) → List (List (List Int))) (first : List (List Int)) (k : Nat) :
    plansB h rec first (k + 1) = plansB h rec first k ++ (if decide ((k : Int) ∈ first.flatten) then [] else rec (growP first k)) := by
  unfold plansB
  rw [List.range_succ, List.flatMap_append]; simp
theorem plansB_len {h : House} {rec : List (List Int) → List (List (List Int))} {L : Nat} (hL : ∀ f, (rec f).length ≤ L) (first : List (List Int)) : ∀ k, (plansB h rec first k).length ≤ k * L
  | 0 => by simp [plansB]
  | k + 1 => by
    rw [plansB_succ, List.length_append]
    have h1 := plansB_len (h := h) hL first k
    have h2 := hL (growP first k)
    rw [Nat.add_mul, Nat.one_mul]
    split
    · simp only [List.length_nil]; omega
    · omega
theorem plansA_len {h : House} {rec : List (List Int) → List (List (List Int))} {L : Nat} (hL : ∀ f, (rec f).length ≤ L) (first : List (List Int)) : (plansA h rec first).length ≤ L + 1 := by
  unfold plansA
  split
  · simp
  · have := hL (first ++ [[]]); omega
theorem plansStep_len {h : House} {stop : Int} {rec : List (List Int) → List (List (List Int))} {L : Nat} (hL : ∀ f, (rec f).length ≤ L) (hb : h.bs.length ≤ 5) (first : List (List Int)) : (plansStep h stop rec first).length ≤ 6 * L + 1 := by
  unfold plansStep
  rw [List.length_append]
  have h1 := plansA_len (h := h) hL first
  have h2 := plansB_len (h := h) hL first h.bs.length
  have h3 : h.bs.length * L ≤ 5 * L := Nat.mul_le_mul_right _ hb
  split
  · simp; omega
  · omega
/-- A bound on their number. -/
def plansBd : Nat → Nat
  | 0 => 1
  | n + 1 => 6 * plansBd n + 1
theorem plansF_len {h : House} {stop : Int} (hb : h.bs.length ≤ 5) : ∀ (n : Nat) (first : List (List Int)), (plansF h stop n first).length ≤ plansBd n
  | 0, first => by
    have := plansStep_len (h := h) (stop := stop) (rec := fun _ => []) (L := 0) (by simp) hb first
    simpa [plansF, plansBd] using this
  | n + 1, first => plansStep_len (plansF_len hb n) hb first
theorem plansBd_mono : ∀ {n m : Nat}, n ≤ m → plansBd n ≤ plansBd m
  | n, 0, h => by rw [show n = 0 by omega]; exact Nat.le_refl _
  | n, m + 1, h => by
    by_cases e : n = m + 1
    · rw [e]; exact Nat.le_refl _
    · have := plansBd_mono (n := n) (m := m) (by omega)
      simp only [plansBd]; omega

end Go.Proofs.Yteijmboophnmgaa

namespace Go.Proofs.Yteijmboophnmgaa

/-! ### All of them are plans -/

theorem plansStep_isPlan {h : House} {stop : Int} {rec : List (List Int) → List (List (List Int))} {first : List (List Int)} (hg : GoodF h first)
    (hr : ∀ f, GoodF h f → mu h f < mu h first → ∀ p ∈ rec f, isPlan h p = true) : ∀ p ∈ plansStep h stop rec first, isPlan h p = true := by
  intro p hp
  unfold plansStep at hp
  rcases List.mem_append.1 hp with hp | hp
  · unfold plansA at hp
    split at hp
    · rename_i hl
      rw [List.mem_singleton.1 hp]
      simp [isPlan, hl, hg.good]
    · rename_i hl
      exact hr _ (hg.nil_ok hl).1 (hg.nil_ok hl).2 p hp
  · split at hp
    · simp at hp
    · unfold plansB at hp
      obtain ⟨b, hb, hp⟩ := List.mem_flatMap.1 hp
      rw [List.mem_range] at hb
      split at hp
      · simp at hp
      · rename_i hn
        have hn' : (b : Int) ∉ first.flatten := by simpa using hn
        exact hr _ (hg.grow_ok hb hn').1 (hg.grow_ok hb hn').2 p hp
theorem plansF_isPlan {h : House} {stop : Int} : ∀ (n : Nat) {first : List (List Int)}, mu h first ≤ n → GoodF h first → ∀ p ∈ plansF h stop n first, isPlan h p = true
  | 0, first, hm, hg => plansStep_isPlan hg (fun f _ hlt => by omega)
  | n + 1, first, hm, hg => plansStep_isPlan hg (fun f hg' hlt => plansF_isPlan n (by omega) hg')
theorem plansF_ne {h : House} {stop : Int} : ∀ (n : Nat) {first : List (List Int)}, mu h first ≤ n → GoodF h first → 0 < (plansF h stop n first).length
  | n, first, hm, hg => by
    have key : ∀ rec : List (List Int) → List (List (List Int)), (first.length ≠ h.ms.length → 0 < (rec (first ++ [[]])).length) → 0 < (plansStep h stop rec first).length := by
      intro rec hr
      unfold plansStep plansA
      rw [List.length_append]
      split
      · simp; omega
      · rename_i hl; have := hr hl; omega
    cases n with
    | zero => exact key _ (fun hl => by have := (hg.nil_ok hl).2; omega)
    | succ n => exact key _ (fun hl => plansF_ne n (by have := (hg.nil_ok hl).2; omega) (hg.nil_ok hl).1)

theorem goodF_start {h : House} (hv : Valid h) : GoodF h [[]] := ⟨by simp, by have := hv.m1; simpa using this, goodAll_nil _⟩
theorem plansOf_isPlan {h : House} (hv : Valid h) (stop : Int) : ∀ p ∈ plansOf h stop, isPlan h p = true := plansF_isPlan _ (Nat.le_refl _) (goodF_start hv)
theorem plansOf_ne {h : House} (hv : Valid h) (stop : Int) : 0 < (plansOf h stop).length := plansF_ne _ (Nat.le_refl _) (goodF_start hv)
theorem mu_le {h : House} (hv : Valid h) (first : List (List Int)) : mu h first ≤ 8 := by
  have := hv.m3; have := hv.b5; unfold mu; omega
theorem plansBd8 : plansBd 8 ≤ 100000000 := by decide
theorem plansOf_len {h : House} (hv : Valid h) (stop : Int) : (plansOf h stop).length ≤ 100000000 :=
  Nat.le_trans (plansF_len hv.b5 _ _) (Nat.le_trans (plansBd_mono (mu_le hv _)) plansBd8)

/-! ### The first one of the least -/

section
variable {α : Type}
def bst (f : α → Nat) : List α → α → α
  | [], b => b
  | y :: l, b => bst f l (if f y < f b then y else b)
theorem bst_append (f : α → Nat) : ∀ (l r : List α) (b : α), bst f (l ++ r) b = bst f r (bst f l b)
  | [], _, _ => rfl
  | y :: l, r, b => by simp only [List.cons_append, bst]; exact bst_append f l r _
theorem bst_take {f : α → Nat} {l : List α} {k : Nat} {y : α} (h : At l k y) (b : α) : bst f (l.take (k + 1)) b = if f y < f (bst f (l.take k) b) then y else bst f (l.take k) b := by
  rw [h.take, bst_append]; rfl
theorem bst_mem (f : α → Nat) : ∀ (l : List α) (b : α), bst f l b = b ∨ bst f l b ∈ l
  | [], _ => .inl rfl
  | y :: l, b => by
    simp only [bst]
    rcases bst_mem f l (if f y < f b then y else b) with h | h
    · rw [h]; split
      · exact .inr (by simp)
      · exact .inl rfl
    · exact .inr (by simp [h])
/-- The first one of the least of a list. -/
def firstBest [Inhabited α] (f : α → Nat) (l : List α) : α := bst f l (l.getD 0 default)
end

def lateN (h : House) (p : List (List Int)) : Nat := (lateOf h p).length
def bestOf (h : House) (stop : Int) : List (List Int) := firstBest (lateN h) (plansOf h stop)

theorem At.getD {α : Type} {l : List α} {k : Nat} {x : α} (h : At l k x) (d : α) : l.getD k d = x := by
  rw [List.getD_eq_getElem?_getD, show l[k]? = some x from h]; rfl
theorem firstBest_mem {α : Type} [Inhabited α] (f : α → Nat) {l : List α} (h : 0 < l.length) : firstBest f l ∈ l := by
  obtain ⟨x, hx⟩ := At.mk h
  unfold firstBest
  rw [hx.getD]
  rcases bst_mem f l x with e | e
  · rw [e]; exact hx.mem
  · exact e
theorem bestOf_isPlan {h : House} (hv : Valid h) (stop : Int) : isPlan h (bestOf h stop) = true := plansOf_isPlan hv stop _ (firstBest_mem _ (plansOf_ne hv stop))
theorem lateN_le (h : House) (p : List (List Int)) : lateN h p ≤ h.ts.length := lateList_len h _ _

/-! ### The cases -/

def casesTo (h : House) (k : Nat) : List Int := -1 :: ((List.range k).filter fun m => decide ((mach h m).s = 1)).map Int.ofNat
def casesOf (h : House) : List Int := casesTo h h.ms.length
theorem casesTo_succ (h : House) (k : Nat) : casesTo h (k + 1) = if (mach h k).s = 1 then casesTo h k ++ [(k : Int)] else casesTo h k := by
  unfold casesTo
  rw [List.range_succ, List.filter_append]
  by_cases e : (mach h k).s = 1 <;> simp [e]
theorem casesTo_len (h : House) (k : Nat) : (casesTo h k).length ≤ k + 1 := by
  unfold casesTo
  rw [List.length_cons, List.length_map]
  have := List.length_filter_le (fun m => decide ((mach h m).s = 1)) (List.range k)
  simp at this; omega
theorem casesOf_mem {h : House} {c : Int} (hc : c ∈ casesOf h) : -1 ≤ c ∧ c < h.ms.length := by
  unfold casesOf casesTo at hc
  rcases List.mem_cons.1 hc with rfl | hc
  · omega
  · obtain ⟨m, hm, rfl⟩ := List.mem_map.1 hc
    have := (List.mem_filter.1 hm).1
    rw [List.mem_range] at this
    constructor
    · exact Int.le_trans (by decide) (Int.natCast_nonneg m)
    · exact Int.ofNat_lt.2 this

/-! ### Who is told -/

def reach (late : List (List Int)) (told : List Int) : Bool := late.any fun l => l.all fun t => decide (t ∈ told)

/-! ### Minutes that are too late -/

theorem foldl_take {α β : Type} {f : β → α → β} {l : List α} {k : Nat} {x : α} (h : At l k x) (b : β) : (l.take (k + 1)).foldl f b = f ((l.take k).foldl f b) x := by
  rw [h.take, List.foldl_append]; rfl

theorem runTo_bd {h : House} (hv : Valid h) {m : Nat} {mc : Mach} (hm : At h.ms m mc) {M : Int} : ∀ (l : List Int) (s : List Int × Int × Option Int), (∀ x ∈ l, 0 ≤ x ∧ x ≤ (h.bs.length : Int) - 1) → (∀ x ∈ s.1, -1 ≤ x ∧ x ≤ M) → 0 ≤ s.2.1 → s.2.1 + 90 * l.length ≤ M → ∀ x ∈ (runTo h mc l s).1, -1 ≤ x ∧ x ≤ M
  | [], _, _, hs, _, _ => hs
  | b :: l, (ts, now, prev), hl, hs, h0, hM => by
    have hb := hl b (by simp)
    obtain ⟨j, rfl⟩ := Int.eq_ofNat_of_zero_le hb.1
    have hst := stepT_bd hv hm (show j < h.bs.length by omega) now prev
    simp only [List.length_cons] at hM h0
    simp only [runTo]
    refine runTo_bd hv hm l _ (fun x hx => hl x (by simp [hx])) ?_ ?_ ?_
    · intro x hx
      rcases List.mem_or_eq_of_mem_set hx with hx | rfl
      · exact hs x hx
      · constructor <;> omega
    · show 0 ≤ stepT h mc now prev _
      omega
    · show stepT h mc now prev _ + _ ≤ M
      omega
theorem timesTo_bd {h : House} (hv : Valid h) : ∀ (p : List (List Int)) (m : Nat) (ts : List Int), m + p.length ≤ h.ms.length → (∀ x ∈ p.flatten, 0 ≤ x ∧ x ≤ (h.bs.length : Int) - 1) → (∀ l ∈ p, l.length ≤ 5) → (∀ x ∈ ts, -1 ≤ x ∧ x ≤ 1000) → ∀ x ∈ timesTo h m p ts, -1 ≤ x ∧ x ≤ 1000
  | [], _, _, _, _, _, hs => hs
  | l :: p, m, ts, hm, hp, hl, hs => by
    simp only [List.length_cons] at hm
    obtain ⟨mc, hmc⟩ := At.mk (show m < h.ms.length by omega)
    have hr := ready_bd hv hmc
    have hl5 := hl l (by simp)
    simp only [timesTo, hmc.mach]
    refine timesTo_bd hv p (m + 1) _ (by omega) (fun x hx => hp x (by simp [hx])) (fun l' hl' => hl l' (by simp [hl'])) ?_
    exact runTo_bd hv hmc l (ts, mc.r, none) (fun x hx => hp x (by simp [hx])) hs hr.1 (by show mc.r + _ ≤ _; omega)
theorem timesOf_bd {h : House} (hv : Valid h) {p : List (List Int)} (hp : isPlan h p = true) : ∀ x ∈ timesOf h p, -1 ≤ x ∧ x ≤ 1000 := by
  have h1 := hp
  simp only [isPlan, Bool.and_eq_true, decide_eq_true_eq] at h1
  refine timesTo_bd hv p 0 _ (by omega) (goodAll_iff.1 h1.2).1 ?_ ?_
  · intro l hl
    obtain ⟨k, hk, rfl⟩ := List.getElem_of_mem hl
    have := isPlan_one hp (m := k) (l := p[k]) (List.getElem?_eq_getElem hk)
    have := hv.b5; omega
  · intro x hx; rw [List.eq_of_mem_replicate hx]; omega

/-- By how many minutes the first k bundles of a train are late, at the most; none: one of them is not printed. -/
def overTo (h : House) (times : List Int) (t : Int) : Nat → Option Int
  | 0 => some (-100000)
  | k + 1 => match overTo h times t k with
    | none => none
    | some o => if (bund h (k : Nat)).t = t then (if times.getD k 0 < 0 then none else some (max o (times.getD k 0 - h.ts.getD t.toNat 0))) else some o
def overOf (h : House) (plan : List (List Int)) (t : Int) : Int := (overTo h (timesOf h plan) t h.bs.length).getD 100000

theorem overTo_none {h : House} {times : List Int} {t : Int} {k : Nat} (e : overTo h times t k = none) : ∀ j, overTo h times t (k + j) = none
  | 0 => e
  | j + 1 => by
    have := overTo_none e j
    show overTo h times t (k + j + 1) = none
    simp only [overTo, this]
theorem ts_bd {h : House} (hv : Valid h) {k : Nat} {x : Int} (hx : At h.ts k x) : 0 ≤ x ∧ x ≤ 99 := by
  have := List.all_eq_true.1 hv.ts x hx.mem
  exact within_iff.1 this
theorem overTo_bd {h : House} {times : List Int} {t : Int} (ht : ∀ x ∈ times, -1 ≤ x ∧ x ≤ 1000) (hb : ∀ x ∈ h.ts, 0 ≤ x ∧ x ≤ 99) : ∀ (k : Nat) (o : Int), overTo h times t k = some o → -100000 ≤ o ∧ o ≤ 1000
  | 0, o, e => by simp [overTo] at e; omega
  | k + 1, o, e => by
    simp only [overTo] at e
    split at e
    · cases e
    · rename_i o' e'
      have ih := overTo_bd ht hb k o' e'
      have h1 : -1 ≤ times.getD k 0 ∧ times.getD k 0 ≤ 1000 := by
        by_cases hk : k < times.length
        · obtain ⟨x, hx⟩ := At.mk hk
          rw [hx.getD]; exact ht _ hx.mem
        · rw [List.getD_eq_getElem?_getD, List.getElem?_eq_none (by omega)]; simp
      have h2 : 0 ≤ h.ts.getD t.toNat 0 ∧ h.ts.getD t.toNat 0 ≤ 99 := by
        by_cases hk : t.toNat < h.ts.length
        · obtain ⟨x, hx⟩ := At.mk hk
          rw [hx.getD]; exact hb _ hx.mem
        · rw [List.getD_eq_getElem?_getD, List.getElem?_eq_none (by omega)]; simp
      split at e
      · split at e
        · cases e
        · simp only [Option.some.injEq] at e; omega
      · simp only [Option.some.injEq] at e; omega
theorem overOf_bd {h : House} (hv : Valid h) {p : List (List Int)} (hp : isPlan h p = true) (t : Int) : -100000 ≤ overOf h p t ∧ overOf h p t ≤ 100000 := by
  unfold overOf
  cases e : overTo h (timesOf h p) t h.bs.length with
  | none => simp
  | some o =>
    have := overTo_bd (timesOf_bd hv hp) (fun x hx => by have := List.all_eq_true.1 hv.ts x hx; exact within_iff.1 this) _ _ e
    simp; omega

/-! ### Waits; what is spare -/

def waitPlan (h : House) (t : Int) (acc : Int) (p : List (List Int)) : Int := if lateOf h p = [] ∨ lateOf h p = [t] then min acc (max 0 (overOf h p t)) else acc
def waitCase (h : House) (t : Int) (c : Int) : Int := (plansOf h c).foldl (waitPlan h t) 100000
def waitRaw (h : House) (t : Int) : Int := (casesOf h).foldl (fun o c => max o (waitCase h t c)) 0

def sparePlanTo (h : House) (p : List (List Int)) (k : Nat) : Int := (List.range k).foldl (fun (l : Int) (t : Nat) => min l (-(overOf h p (t : Int)))) 100000
def sparePlan (h : House) (p : List (List Int)) : Int := sparePlanTo h p h.ts.length
def spareCase (h : House) (c : Int) : Int := (plansOf h c).foldl (fun m p => max m (sparePlan h p)) (-100000)
def spareRaw (h : House) : Int := (casesOf h).foldl (fun o c => min o (spareCase h c)) 99
theorem sparePlanTo_succ (h : House) (p : List (List Int)) (k : Nat) : sparePlanTo h p (k + 1) = min (sparePlanTo h p k) (-(overOf h p (k : Int))) := by
  unfold sparePlanTo
  rw [List.range_succ, List.foldl_append]; rfl

/-! ### The machine whose stop is the worst -/

/-- (machine, late trains) after the first k machines. -/
def keyTo (h : House) : Nat → Int × Int
  | 0 => (0, -1)
  | k + 1 => if (keyTo h k).2 < (lateN h (bestOf h (k : Nat)) : Nat) then ((k : Int), ((lateN h (bestOf h (k : Nat)) : Nat) : Int)) else keyTo h k
def keyOf (h : House) : Int := (keyTo h h.ms.length).1
theorem keyTo_bd (h : House) : ∀ k, 0 ≤ (keyTo h k).1 ∧ (keyTo h k).1 ≤ k ∧ -1 ≤ (keyTo h k).2 ∧ (keyTo h k).2 ≤ h.ts.length
  | 0 => by simp [keyTo]
  | k + 1 => by
    have ih := keyTo_bd h k
    have hN := lateN_le h (bestOf h (k : Nat))
    simp only [keyTo]
    split
    · refine ⟨?_, ?_, ?_, ?_⟩ <;> simp only <;> omega
    · omega

/-! ### Lists of numbers that rise -/

def fromOf (first : List Int) : Nat := if 0 < first.length then (first.getD (first.length - 1) 0).toNat + 1 else 0
def listsTo (_below : Nat) (rec : List Int → List (List Int)) (first : List Int) (k : Nat) : List (List Int) :=
  (List.range k).flatMap fun (n : Nat) => if fromOf first ≤ n then rec (first ++ [(n : Int)]) else []
def listsStep (many below : Nat) (rec : List Int → List (List Int)) (first : List Int) : List (List Int) := if first.length = many then [first] else listsTo below rec first below
def listsF (many below : Nat) : Nat → List Int → List (List Int)
  | 0 => listsStep many below (fun _ => [])
  | n + 1 => listsStep many below (listsF many below n)
def listsOf (many below : Nat) : List (List Int) := listsF many below many []
theorem listsTo_succ (below : Nat) (rec : List Int → List (List Int)) (first : List Int) (k : Nat) (hk : fromOf first ≤ k) : listsTo below rec first (k + 1) = listsTo below rec first k ++ rec (first ++ [(k : Int)]) := by
  unfold listsTo
  rw [List.range_succ, List.flatMap_append]; simp [hk]
theorem listsTo_from (below : Nat) (rec : List Int → List (List Int)) (first : List Int) : listsTo below rec first (fromOf first) = [] := by
  unfold listsTo
  rw [List.flatMap_eq_nil_iff]
  intro n hn
  rw [List.mem_range] at hn
  rw [if_neg (by omega)]
theorem listsTo_len {below : Nat} {rec : List Int → List (List Int)} {L : Nat} (hL : ∀ f, (rec f).length ≤ L) (first : List Int) : ∀ k, (listsTo below rec first k).length ≤ k * L
  | 0 => by simp [listsTo]
  | k + 1 => by
    have h1 := listsTo_len (below := below) hL first k
    unfold listsTo at h1 ⊢
    rw [List.range_succ, List.flatMap_append, List.length_append, Nat.add_mul, Nat.one_mul]
    have h2 := hL (first ++ [(k : Int)])
    simp only [List.flatMap_cons, List.flatMap_nil, List.append_nil]
    split
    · omega
    · simp only [List.length_nil]; omega
theorem listsStep_len {many below : Nat} (hb : below ≤ 4) {rec : List Int → List (List Int)} {L : Nat} (hL : ∀ f, (rec f).length ≤ L) (first : List Int) : (listsStep many below rec first).length ≤ 4 * L + 1 := by
  unfold listsStep
  split
  · simp
  · have h1 := listsTo_len (below := below) hL first below
    have : below * L ≤ 4 * L := Nat.mul_le_mul_right _ hb
    omega
def listsBd : Nat → Nat
  | 0 => 1
  | n + 1 => 4 * listsBd n + 1
theorem listsF_len {many below : Nat} (hb : below ≤ 4) : ∀ (n : Nat) (first : List Int), (listsF many below n first).length ≤ listsBd n
  | 0, first => by simpa [listsF, listsBd] using listsStep_len (many := many) (L := 0) hb (rec := fun _ => []) (by simp) first
  | n + 1, first => listsStep_len hb (listsF_len hb n) first
theorem listsBd_mono : ∀ {n m : Nat}, n ≤ m → listsBd n ≤ listsBd m
  | n, 0, h => by rw [show n = 0 by omega]; exact Nat.le_refl _
  | n, m + 1, h => by
    by_cases e : n = m + 1
    · rw [e]; exact Nat.le_refl _
    · have := listsBd_mono (n := n) (m := m) (by omega)
      simp only [listsBd]; omega
theorem listsOf_len {many below : Nat} (hm : many ≤ 4) (hb : below ≤ 4) : (listsOf many below).length ≤ 1000 :=
  Nat.le_trans (listsF_len hb many []) (Nat.le_trans (listsBd_mono hm) (by decide))

/-! ### Who is told: the search -/

def lates (h : House) : List (List (List Int)) := (casesOf h).map fun c => (plansOf h c).map (lateOf h)
def okTold (h : House) (l : List Int) : Bool := (lates h).all fun late => reach late l
def toldOf (h : House) : List Int := (((List.range h.ts.length).flatMap fun many => listsOf many h.ts.length).find? (okTold h)).getD ((listsOf h.ts.length h.ts.length).getD 0 [])

theorem find_succ {α : Type} {f : Nat → List α} {p : α → Bool} {m : Nat} (h1 : ((List.range m).flatMap f).find? p = none) (h2 : (f m).find? p = none) : ((List.range (m + 1)).flatMap f).find? p = none := by
  rw [List.range_succ, List.flatMap_append, List.find?_append, h1]
  simp only [List.flatMap_cons, List.flatMap_nil, List.append_nil, h2]; rfl
theorem find_found {α : Type} {f : Nat → List α} {p : α → Bool} {n m j : Nat} {x : α} (hm : m < n) (h1 : ((List.range m).flatMap f).find? p = none) (hx : At (f m) j x) (h2 : ((f m).take j).find? p = none) (hp : p x = true) : ((List.range n).flatMap f).find? p = some x := by
  obtain ⟨d, rfl⟩ : ∃ d, n = m + (d + 1) := ⟨n - m - 1, by omega⟩
  have h3 : (f m).find? p = some x := by
    rw [hx.split, List.find?_append, h2]
    simp [hp]
  rw [List.range_add, List.flatMap_append, List.find?_append, h1, List.range_succ_eq_map]
  simp only [List.map_cons, List.flatMap_cons, List.find?_append, Nat.add_zero, h3]; rfl
theorem find_take {α : Type} {p : α → Bool} {l : List α} {j : Nat} {x : α} (hx : At l j x) (h : (l.take j).find? p = none) (hp : p x = false) : (l.take (j + 1)).find? p = none := by
  rw [hx.take, List.find?_append, h]; simp [hp]

theorem listsF_ne {many below : Nat} : ∀ (n : Nat) (first : List Int), many - first.length ≤ n → first.length ≤ many → fromOf first + (many - first.length) ≤ below → 0 < (listsF many below n first).length := by
  intro n
  have key : ∀ (rec : List Int → List (List Int)) (first : List Int), first.length ≤ many → fromOf first + (many - first.length) ≤ below → (first.length ≠ many → 0 < (rec (first ++ [(fromOf first : Int)])).length) → 0 < (listsStep many below rec first).length := by
    intro rec first h1 h2 h3
    unfold listsStep
    split
    · simp
    · rename_i hne
      have h4 := h3 hne
      obtain ⟨x, hx⟩ := At.mk (xs := rec (first ++ [(fromOf first : Int)])) (k := 0) h4
      refine List.length_pos_of_mem (a := x) ?_
      unfold listsTo
      rw [List.mem_flatMap]
      refine ⟨fromOf first, List.mem_range.2 (by omega), ?_⟩
      rw [if_pos (Nat.le_refl _)]; exact hx.mem
  have hfs : ∀ (first : List Int) (k : Nat), fromOf (first ++ [(k : Int)]) = k + 1 := by
    intro first k
    unfold fromOf
    simp
  induction n with
  | zero => intro first h0 h1 h2; exact key _ first h1 h2 (fun hne => by omega)
  | succ n ih =>
    intro first h0 h1 h2
    refine key _ first h1 h2 (fun hne => ih _ (by simp; omega) (by simp; omega) ?_)
    rw [hfs]; simp; omega
theorem listsOf_ne (n : Nat) : 0 < (listsOf n n).length := listsF_ne n [] (by simp) (by simp) (by simp [fromOf])

theorem lates_len (h : House) : (lates h).length = (casesOf h).length := by simp [lates]

/-- In a case there is a plan by which no train is late but some. -/
def okCase (h : House) (S : List Int) (c : Int) : Bool := (plansOf h c).any fun p => (lateOf h p).all fun t => decide (t ∈ S)
def sureB (h : House) (S : List Int) : Bool := (casesOf h).all (okCase h S)

end Go.Proofs.Yteijmboophnmgaa
