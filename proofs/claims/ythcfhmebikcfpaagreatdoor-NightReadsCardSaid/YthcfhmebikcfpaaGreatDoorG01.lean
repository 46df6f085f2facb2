/- Lemmas and walks on which the claims of this seat lean: Plain Base Data. -/
import Derived.WalkKit
import Derived.WalkSpells
import Derived.WalkLawsBesides
import Derived.Maps.AppendAt
import Derived.Lib.Hide
import Derived.Deep.QuietTactic
import Derived.BigQuiet
import Derived.Deep.RegionHeld3
import Derived.Deep.DeepCutAuto
import Derived.Test.YthcfhmebikcfpaaGreatDoorProg

set_option linter.all false

namespace Go.Proofs.YthcfhmebikcfpaaGreatDoor

section
variable {α : Type}
/-- The element at a place (a word that the walk does not look through). -/
def At (xs : List α) (k : Nat) (x : α) : Prop := xs[k]? = some x
theorem At.lt {xs : List α} {k : Nat} {x : α} (h : At xs k x) : k < xs.length := (List.getElem?_eq_some_iff.1 h).1
theorem At.mk {xs : List α} {k : Nat} (h : k < xs.length) : ∃ x, At xs k x := ⟨xs[k], List.getElem?_eq_getElem h⟩
theorem At.uniq {xs : List α} {k : Nat} {x y : α} (h : At xs k x) (h' : At xs k y) : x = y := Option.some.inj (h.symm.trans h')
theorem At.mem {xs : List α} {k : Nat} {x : α} (h : At xs k x) : x ∈ xs := List.mem_of_getElem? h
theorem At.get {xs : List α} {k : Nat} {x : α} (h : At xs k x) : ∃ hk : k < xs.length, xs[k] = x := List.getElem?_eq_some_iff.1 h
theorem At.take {xs : List α} {k : Nat} {x : α} (h : At xs k x) : xs.take (k + 1) = xs.take k ++ [x] := by
  obtain ⟨hk, rfl⟩ := h.get
  rw [List.take_succ_eq_append_getElem hk]

/-- The first k elements pass. -/
def okTo (p : α → Bool) (xs : List α) (k : Nat) : Prop := (xs.take k).all p = true
theorem okTo.zero (p : α → Bool) (xs : List α) : okTo p xs 0 := by simp [okTo]
theorem okTo.succ {p : α → Bool} {xs : List α} {k : Nat} {x : α} (h : okTo p xs k) (hx : At xs k x) (hp : p x = true) : okTo p xs (k + 1) := by
  unfold okTo at *
  rw [hx.take, List.all_append, h]
  simp [hp]
theorem okTo.all {p : α → Bool} {xs : List α} {k : Nat} (h : okTo p xs k) (hk : xs.length ≤ k) : xs.all p = true := by
  unfold okTo at h; rwa [List.take_of_length_le hk] at h
theorem At.not_all {p : α → Bool} {xs : List α} {k : Nat} {x : α} (hx : At xs k x) (hp : p x = false) : xs.all p = false := by
  rw [List.all_eq_false]
  exact ⟨x, hx.mem, by simp [hp]⟩
theorem take_all {xs : List α} {k : Nat} (h : xs.length ≤ k) : xs.take k = xs := List.take_of_length_le h
theorem At.same {xs ys : List α} {k : Nat} {x : α} (h : At xs k x) (hl : xs.take (k + 1) = ys.take (k + 1)) : At ys k x := by
  have h1 : (xs.take (k + 1))[k]? = some x := by rw [List.getElem?_take, if_pos (by omega)]; exact h
  rw [hl, List.getElem?_take, if_pos (by omega)] at h1
  exact h1
theorem At.ne {xs ys : List α} {k : Nat} {x y : α} (h : At xs k x) (h' : At ys k y) (hne : x ≠ y) : xs ≠ ys := fun e => by subst e; exact hne (h.uniq h')
end

/-- n stands in the first k places. -/
theorem mem_take_succ {l : List Int} {k : Nat} {x n : Int} (h : At l k x) : n ∈ l.take (k + 1) ↔ n ∈ l.take k ∨ n = x := by
  rw [h.take]; simp

def rising (lo hi : Int) (l : List Int) : Bool := l.all (fun x => decide (lo ≤ x) && decide (x ≤ hi)) && decide (l.Pairwise (· < ·))

theorem rising_iff {lo hi : Int} {l : List Int} : rising lo hi l = true ↔ (∀ x ∈ l, lo ≤ x ∧ x ≤ hi) ∧ l.Pairwise (· < ·) := by
  simp [rising]
theorem rising_snoc {lo hi : Int} {l : List Int} {x : Int} : rising lo hi (l ++ [x]) = true ↔ rising lo hi l = true ∧ (lo ≤ x ∧ x ≤ hi) ∧ ∀ y ∈ l, y < x := by
  simp only [rising_iff, List.mem_append, List.mem_singleton, List.pairwise_append, List.pairwise_singleton]
  constructor
  · rintro ⟨h1, h2, _, h3⟩
    exact ⟨⟨fun y hy => h1 y (.inl hy), h2⟩, h1 x (.inr rfl), fun y hy => h3 y hy x rfl⟩
  · rintro ⟨⟨h1, h2⟩, h3, h4⟩
    exact ⟨fun y hy => hy.elim (h1 y) (fun e => e ▸ h3), h2, trivial, fun y hy z hz => hz ▸ h4 y hy⟩
/-- One more number: it is within, and the one ahead of it is less. -/
theorem rising_step {lo hi : Int} {l : List Int} {k : Nat} {x : Int} (h : rising lo hi (l.take k) = true) (hx : At l k x) (hw : lo ≤ x ∧ x ≤ hi) (hp : ∀ y, 0 < k → At l (k - 1) y → y < x) : rising lo hi (l.take (k + 1)) = true := by
  rw [hx.take, rising_snoc]
  refine ⟨h, hw, fun y hy => ?_⟩
  obtain ⟨i, hi1, rfl⟩ := List.mem_take_iff_getElem.1 hy
  have hlt := hx.lt
  have hik : i < k := by omega
  have hlast : At l (k - 1) l[k - 1] := List.getElem?_eq_getElem (by omega)
  have h2 := hp _ (by omega) hlast
  by_cases e : i = k - 1
  · subst e; exact h2
  · have hpw := (rising_iff.1 h).2
    have := List.pairwise_iff_getElem.1 hpw i (k - 1) (by simp; omega) (by simp; omega) (by omega)
    simp only [List.getElem_take] at this
    omega
theorem rising_prefix {lo hi : Int} {l : List Int} (k : Nat) (h : rising lo hi l = true) : rising lo hi (l.take k) = true := by
  rw [rising_iff] at *
  exact ⟨fun x hx => h.1 x (List.mem_of_mem_take hx), h.2.sublist (List.take_sublist _ _)⟩
theorem rising_bad {lo hi : Int} {l : List Int} {k : Nat} {x : Int} (hx : At l k x) (h : ¬ (lo ≤ x ∧ x ≤ hi) ∨ ∃ y, 0 < k ∧ At l (k - 1) y ∧ x ≤ y) : rising lo hi l = false := by
  cases hr : rising lo hi l with
  | false => rfl
  | true =>
    exfalso
    obtain ⟨h1, h2⟩ := rising_iff.1 hr
    rcases h with h | ⟨y, hk, hy, hxy⟩
    · exact h (h1 x hx.mem)
    · obtain ⟨hk1, e1⟩ := hx.get
      obtain ⟨hk2, e2⟩ := hy.get
      have := List.pairwise_iff_getElem.1 h2 (k - 1) k hk2 hk1 (by omega)
      omega

/-- Of two lists the one is less, number by number, at the first place where they differ. -/
def earlier : List Int → List Int → Bool
  | x :: xs, y :: ys => if x = y then earlier xs ys else decide (x < y)
  | _, _ => false

theorem earlier_at : ∀ {xs ys : List Int} {k : Nat} {x y : Int}, xs.take k = ys.take k → At xs k x → At ys k y → x ≠ y → earlier xs ys = decide (x < y)
  | [], _, k, x, _, _, h, _, _ => by simp [At] at h
  | _ :: _, [], _, _, _, _, _, h, _ => by simp [At] at h
  | a :: xs, b :: ys, 0, x, y, _, h1, h2, hne => by
    simp [At] at h1 h2; subst h1; subst h2; simp [earlier, hne]
  | a :: xs, b :: ys, k + 1, x, y, he, h1, h2, hne => by
    simp only [List.take_succ_cons, List.cons.injEq] at he
    simp only [At, List.getElem?_cons_succ] at h1 h2
    rw [earlier, if_pos he.1]
    exact earlier_at he.2 h1 h2 hne
theorem earlier_none : ∀ {xs ys : List Int} {k : Nat}, xs.take k = ys.take k → (xs.length ≤ k ∨ ys.length ≤ k) → earlier xs ys = false
  | [], _, _, _, _ => by simp [earlier]
  | _ :: _, [], _, _, _ => by simp [earlier]
  | a :: xs, b :: ys, 0, _, h => by simp at h
  | a :: xs, b :: ys, k + 1, he, h => by
    simp only [List.take_succ_cons, List.cons.injEq] at he
    rw [earlier, if_pos he.1]
    exact earlier_none he.2 (by simpa using h)

end Go.Proofs.YthcfhmebikcfpaaGreatDoor

namespace Go.Proofs.YthcfhmebikcfpaaGreatDoor

structure Mach where
  r : Int
  p : Int
  s : Int
  deriving DecidableEq, Inhabited

structure Bund where
  t : Int
  h : Int
  e : Int
  deriving DecidableEq, Inhabited

structure House where
  ms : List Mach
  bs : List Bund
  ts : List Int
  ch : Int
  deriving DecidableEq, Inhabited

/-- low ≤ n ≤ high -/
def within (n lo hi : Int) : Bool := decide (lo ≤ n) && decide (n ≤ hi)

def okMach (m : Mach) : Bool := within m.r 0 99 && within m.p 1 9 && within m.s 0 1
def okBund (nt : Nat) (b : Bund) : Bool := within b.t 0 ((nt : Int) - 1) && within b.h 1 9 && within b.e 0 3

def errT (b : Bool) : Int := if b then 0 else 40

/-- A house is valid. -/
def valid (h : House) : Bool :=
  within h.ms.length 1 3 && decide (h.ts.length ≤ 4) && decide (h.bs.length ≤ 5) && within h.ch 0 9 &&
  h.ms.all okMach && h.ts.all (fun t => within t 0 99) && h.bs.all (okBund h.ts.length)

theorem within_iff {n lo hi : Int} : within n lo hi = true ↔ lo ≤ n ∧ n ≤ hi := by simp [within]

/-- What a valid house is, part by part. -/
structure Valid (h : House) : Prop where
  m1 : 1 ≤ h.ms.length
  m3 : h.ms.length ≤ 3
  t4 : h.ts.length ≤ 4
  b5 : h.bs.length ≤ 5
  ch : within h.ch 0 9 = true
  ms : h.ms.all okMach = true
  ts : h.ts.all (fun t => within t 0 99) = true
  bs : h.bs.all (okBund h.ts.length) = true

theorem valid_iff {h : House} : valid h = true ↔ Valid h := by
  unfold valid
  simp only [Bool.and_eq_true, within_iff, decide_eq_true_eq]
  constructor
  · rintro ⟨⟨⟨⟨⟨⟨⟨a, b⟩, c⟩, d⟩, e⟩, f⟩, g⟩, i⟩
    exact ⟨by omega, by omega, c, d, within_iff.2 e, f, g, i⟩
  · rintro ⟨a, b, c, d, e, f, g, i⟩
    exact ⟨⟨⟨⟨⟨⟨⟨by omega, by omega⟩, c⟩, d⟩, within_iff.1 e⟩, f⟩, g⟩, i⟩

theorem errT_no {h : House} (k : ¬ Valid h) : errT (valid h) = 40 := by
  have : valid h = false := by
    cases hv : valid h with
    | false => rfl
    | true => exact absurd (valid_iff.1 hv) k
  rw [this]; rfl
theorem errT_yes {h : House} (k : Valid h) : errT (valid h) = 0 := by rw [valid_iff.2 k]; rfl

/-- The error of a house that is asked for something. -/
def errA (v is : Bool) : Int := if v then (if is then 0 else 1) else 40

/-- Numbers of bundles, each once. -/
def goodAll (nb : Nat) (l : List Int) : Bool := l.all (fun b => within b 0 ((nb : Int) - 1)) && decide l.Nodup
def isPlan (h : House) (plan : List (List Int)) : Bool := decide (plan.length = h.ms.length) && goodAll h.bs.length plan.flatten

theorem goodAll_iff {nb : Nat} {l : List Int} : goodAll nb l = true ↔ (∀ b ∈ l, 0 ≤ b ∧ b ≤ (nb : Int) - 1) ∧ l.Nodup := by
  simp [goodAll, within]
theorem goodAll_nil (nb : Nat) : goodAll nb [] = true := by simp [goodAll]
theorem goodAll_snoc {nb : Nat} {l : List Int} {b : Int} (h : goodAll nb l = true) (hb : within b 0 ((nb : Int) - 1) = true) (hn : b ∉ l) : goodAll nb (l ++ [b]) = true := by
  rw [goodAll_iff] at *
  refine ⟨fun x hx => ?_, ?_⟩
  · rcases List.mem_append.1 hx with hx | hx
    · exact h.1 x hx
    · rw [List.mem_singleton.1 hx]; exact within_iff.1 hb
  · rw [List.nodup_append]
    exact ⟨h.2, by simp, fun x hx y hy => by rw [List.mem_singleton.1 hy]; exact fun e => hn (e ▸ hx)⟩
theorem goodAll_pre {nb : Nat} {l r : List Int} (h : goodAll nb (l ++ r) = true) : goodAll nb l = true := by
  rw [goodAll_iff] at *
  exact ⟨fun x hx => h.1 x (List.mem_append_left _ hx), (List.nodup_append.1 h.2).1⟩
theorem flatten_take {plan : List (List Int)} {m : Nat} {l : List Int} (h : At plan m l) : (plan.take (m + 1)).flatten = (plan.take m).flatten ++ l := by
  rw [h.take]; simp
theorem At.split {α : Type} {xs : List α} {k : Nat} {x : α} (h : At xs k x) : xs = xs.take k ++ x :: xs.drop (k + 1) := by
  obtain ⟨hk, rfl⟩ := h.get
  rw [← List.drop_eq_getElem_cons hk, List.take_append_drop]
theorem flatten_split {plan : List (List Int)} {m i : Nat} {l : List Int} {b : Int} (h : At plan m l) (hb : At l i b) : ∃ r, plan.flatten = ((plan.take m).flatten ++ l.take i ++ [b]) ++ r := by
  refine ⟨l.drop (i + 1) ++ (plan.drop (m + 1)).flatten, ?_⟩
  have h1 : plan.flatten = (plan.take m).flatten ++ (l ++ (plan.drop (m + 1)).flatten) := by
    have := congrArg List.flatten h.split
    simpa using this
  have h2 := congrArg (fun z => (plan.take m).flatten ++ (z ++ (plan.drop (m + 1)).flatten)) hb.split
  rw [h1]
  refine h2.trans ?_
  simp

/-! ### When bundles are printed -/

def mach (h : House) (m : Nat) : Mach := h.ms.getD m default
def bund (h : House) (b : Int) : Bund := h.bs.getD b.toNat default

theorem At.mach {h : House} {m : Nat} {x : Mach} (k : At h.ms m x) : mach h m = x := by
  unfold Go.Proofs.YthcfhmebikcfpaaGreatDoor.mach; rw [List.getD_eq_getElem?_getD, show h.ms[m]? = some x from k]; rfl
theorem At.bund {h : House} {b : Nat} {x : Bund} (k : At h.bs b x) : bund h (b : Int) = x := by
  unfold Go.Proofs.YthcfhmebikcfpaaGreatDoor.bund; rw [List.getD_eq_getElem?_getD, Int.toNat_natCast, show h.bs[b]? = some x from k]; rfl

/-- One bundle more on a machine: when it is printed. 'prev': the edition of the one before it. -/
def stepT (h : House) (mc : Mach) (now : Int) (prev : Option Int) (b : Int) : Int :=
  now + (if prev.any (fun e => e != (bund h b).e) then h.ch else 0) + (bund h b).h * mc.p

/-- The minutes after a list's first bundles: (the times so far, now, the last edition). -/
def runTo (h : House) (mc : Mach) : List Int → (List Int × Int × Option Int) → (List Int × Int × Option Int)
  | [], s => s
  | b :: l, (ts, now, prev) => runTo h mc l (ts.set b.toNat (stepT h mc now prev b), stepT h mc now prev b, some (bund h b).e)

def runList (h : House) (mc : Mach) (l : List Int) (ts : List Int) : List Int := (runTo h mc l (ts, mc.r, none)).1

/-- The times after the first machines' lists. -/
def timesTo (h : House) : Nat → List (List Int) → List Int → List Int
  | _, [], ts => ts
  | m, l :: plan, ts => timesTo h (m + 1) plan (runList h (mach h m) l ts)

def timesOf (h : House) (plan : List (List Int)) : List Int := timesTo h 0 plan (List.replicate h.bs.length (-1))

theorem runTo_append (h : House) (mc : Mach) : ∀ (l r : List Int) (s : List Int × Int × Option Int), runTo h mc (l ++ r) s = runTo h mc r (runTo h mc l s)
  | [], _, _ => rfl
  | b :: l, r, (ts, now, prev) => by simp only [List.cons_append, runTo]; exact runTo_append h mc l r _
theorem runTo_take {h : House} {mc : Mach} {l : List Int} {k : Nat} {b : Int} (hb : At l k b) (s : List Int × Int × Option Int) :
    runTo h mc (l.take (k + 1)) s = ((runTo h mc (l.take k) s).1.set b.toNat (stepT h mc (runTo h mc (l.take k) s).2.1 (runTo h mc (l.take k) s).2.2 b), stepT h mc (runTo h mc (l.take k) s).2.1 (runTo h mc (l.take k) s).2.2 b, some (bund h b).e) := by
  rw [hb.take, runTo_append]; rfl
theorem timesTo_append (h : House) : ∀ (p q : List (List Int)) (m : Nat) (ts : List Int), timesTo h m (p ++ q) ts = timesTo h (m + p.length) q (timesTo h m p ts)
  | [], _, _, _ => rfl
  | l :: p, q, m, ts => by simp only [List.cons_append, timesTo, List.length_cons]; rw [timesTo_append h p q]; congr 1; omega
theorem timesTo_take {h : House} {plan : List (List Int)} {m : Nat} {l : List Int} (hl : At plan m l) (ts : List Int) : timesTo h 0 (plan.take (m + 1)) ts = runList h (mach h m) l (timesTo h 0 (plan.take m) ts) := by
  rw [hl.take, timesTo_append, List.length_take, Nat.min_eq_left (Nat.le_of_lt hl.lt), Nat.zero_add]; rfl
theorem runTo_len (h : House) (mc : Mach) : ∀ (l : List Int) (s : List Int × Int × Option Int), (runTo h mc l s).1.length = s.1.length
  | [], _ => rfl
  | b :: l, (ts, now, prev) => by simp only [runTo]; rw [runTo_len h mc l]; simp
theorem runTo_last {h : House} {mc : Mach} {l : List Int} {k : Nat} {b : Int} (hb : At l k b) (s : List Int × Int × Option Int) : (runTo h mc (l.take (k + 1)) s).2.2 = some (bund h b).e := by
  rw [runTo_take hb]
theorem timesTo_len (h : House) : ∀ (plan : List (List Int)) (m : Nat) (ts : List Int), (timesTo h m plan ts).length = ts.length
  | [], _, _ => rfl
  | l :: plan, m, ts => by simp only [timesTo]; rw [timesTo_len h plan]; simp [runList, runTo_len]
theorem timesOf_len (h : House) (plan : List (List Int)) : (timesOf h plan).length = h.bs.length := by simp [timesOf, timesTo_len]

/-- In a valid house the minutes stay small. -/
theorem stepT_bd {h : House} (hv : Valid h) {m : Nat} {mc : Mach} (hm : At h.ms m mc) {b : Nat} (hb : b < h.bs.length) (now : Int) (prev : Option Int) : now + 1 ≤ stepT h mc now prev b ∧ stepT h mc now prev b ≤ now + 90 := by
  obtain ⟨x, hx⟩ := At.mk hb
  have h1 := List.all_eq_true.1 hv.bs x hx.mem
  have h2 := List.all_eq_true.1 hv.ms mc hm.mem
  simp only [okBund, okMach, Bool.and_eq_true, within_iff] at h1 h2
  have hch := within_iff.1 hv.ch
  unfold stepT
  rw [hx.bund]
  have h3 : 1 * 1 ≤ x.h * mc.p := Int.mul_le_mul (by omega) (by omega) (by omega) (by omega)
  have h4 : x.h * mc.p ≤ 9 * 9 := Int.mul_le_mul (by omega) (by omega) (by omega) (by omega)
  split <;> omega

theorem prod_bd {h : House} (hv : Valid h) {m : Nat} {mc : Mach} (hm : At h.ms m mc) {b : Nat} {x : Bund} (hx : At h.bs b x) : 1 ≤ x.h * mc.p ∧ x.h * mc.p ≤ 81 ∧ 0 ≤ h.ch ∧ h.ch ≤ 9 := by
  have h1 := List.all_eq_true.1 hv.bs x hx.mem
  have h2 := List.all_eq_true.1 hv.ms mc hm.mem
  simp only [okBund, okMach, Bool.and_eq_true, within_iff] at h1 h2
  have hch := within_iff.1 hv.ch
  have h3 : 1 * 1 ≤ x.h * mc.p := Int.mul_le_mul (by omega) (by omega) (by omega) (by omega)
  have h4 : x.h * mc.p ≤ 9 * 9 := Int.mul_le_mul (by omega) (by omega) (by omega) (by omega)
  exact ⟨by omega, by omega, hch.1, hch.2⟩
theorem ready_bd {h : House} (hv : Valid h) {m : Nat} {mc : Mach} (hm : At h.ms m mc) : 0 ≤ mc.r ∧ mc.r ≤ 99 := by
  have h2 := List.all_eq_true.1 hv.ms mc hm.mem
  simp only [okMach, Bool.and_eq_true, within_iff] at h2
  exact h2.1.1

/-- Different numbers of so many bundles are no more than these. -/
theorem nodup_len : ∀ (n : Nat) (l : List Int), (∀ x ∈ l, 0 ≤ x ∧ x ≤ (n : Int) - 1) → l.Nodup → l.length ≤ n
  | 0, l, h, _ => by
    cases l with
    | nil => simp
    | cons x l => have := h x (by simp); omega
  | n + 1, l, h, hn => by
    have h1 := nodup_len n (l.erase n) (fun x hx => by
      have h2 := h x (List.mem_of_mem_erase hx)
      have h3 : x ≠ n := fun e => by subst e; exact (List.Nodup.not_mem_erase hn) hx
      omega) (hn.erase _)
    have h4 := List.length_erase (a := (n : Int)) (l := l)
    split at h4 <;> omega

theorem isPlan_len {h : House} {plan : List (List Int)} (hp : isPlan h plan = true) : plan.flatten.length ≤ h.bs.length := by
  simp only [isPlan, Bool.and_eq_true] at hp
  have := goodAll_iff.1 hp.2
  exact nodup_len _ _ this.1 this.2
theorem isPlan_one {h : House} {plan : List (List Int)} (hp : isPlan h plan = true) {m : Nat} {l : List Int} (hl : At plan m l) : l.length ≤ h.bs.length := by
  have h1 := isPlan_len hp
  have h2 := congrArg List.length (congrArg List.flatten hl.split)
  simp at h2
  simp at h1
  omega

/-! ### Which trains are late -/

/-- One of the first k bundles makes a train late. -/
def lateTo (h : House) (times : List Int) (t : Nat) (k : Nat) : Bool :=
  (List.range k).any fun i => ((h.bs.getD i default).t == (t : Int)) && (decide (times.getD i 0 < 0) || decide (h.ts.getD t 0 < times.getD i 0))
def lateB (h : House) (times : List Int) (t : Nat) : Bool := lateTo h times t h.bs.length
/-- All trains that are late, of the first m. -/
def lateList (h : House) (times : List Int) (m : Nat) : List Int := ((List.range m).filter (lateB h times)).map Int.ofNat
def lateOf (h : House) (plan : List (List Int)) : List Int := lateList h (timesOf h plan) h.ts.length

theorem lateTo_succ {h : House} {times : List Int} {t k : Nat} {y : Bund} {x tr : Int} (hy : At h.bs k y) (hx : At times k x) (ht : At h.ts t tr) :
    lateTo h times t (k + 1) = (lateTo h times t k || ((y.t == (t : Int)) && (decide (x < 0) || decide (tr < x)))) := by
  unfold lateTo
  rw [List.range_succ, List.any_append]
  simp [List.getD_eq_getElem?_getD, show h.bs[k]? = some y from hy, show times[k]? = some x from hx, show h.ts[t]? = some tr from ht]
theorem lateList_succ (h : House) (times : List Int) (m : Nat) : lateList h times (m + 1) = if lateB h times m then lateList h times m ++ [(m : Int)] else lateList h times m := by
  unfold lateList
  rw [List.range_succ, List.filter_append]
  cases hl : lateB h times m <;> simp [hl]
theorem lateList_len (h : House) (times : List Int) (m : Nat) : (lateList h times m).length ≤ m := by
  unfold lateList
  rw [List.length_map]
  exact Nat.le_trans (List.length_filter_le _ _) (by simp)

end Go.Proofs.YthcfhmebikcfpaaGreatDoor

namespace Go.Proofs.YthcfhmebikcfpaaGreatDoor

/-! ### All plans, the least one first -/

/-- One bundle more on the last list. -/
def growP (first : List (List Int)) (b : Nat) : List (List Int) := first.take (first.length - 1) ++ [first.getD (first.length - 1) [] ++ [(b : Int)]]

def plansB (_h : House) (rec : List (List Int) → List (List (List Int))) (first : List (List Int)) (k : Nat) : List (List (List Int)) :=
  (List.range k).flatMap fun (b : Nat) => if decide ((b : Int) ∈ first.flatten) then [] else rec (growP first b)
def plansA (h : House) (rec : List (List Int) → List (List (List Int))) (first : List (List Int)) : List (List (List Int)) :=
  if first.length = h.ms.length then [first] else rec (first ++ [[]])
def plansStep (h : House) (stop : Int) (rec : List (List Int) → List (List (List Int))) (first : List (List Int)) : List (List (List Int)) :=
  plansA h rec first ++ (if (first.length : Int) - 1 = stop then [] else plansB h rec first h.bs.length)
def plansF (h : House) (stop : Int) : Nat → List (List Int) → List (List (List Int))
  | 0 => plansStep h stop (fun _ => [])
  | n + 1 => plansStep h stop (plansF h stop n)
/-- How much further lists can grow. -/
def mu (h : House) (first : List (List Int)) : Nat := (h.ms.length - first.length) + (h.bs.length - first.flatten.length)
def plansOf (h : House) (stop : Int) : List (List (List Int)) := plansF h stop (mu h [[]]) [[]]

structure GoodF (h : House) (first : List (List Int)) : Prop where
  ne : 0 < first.length
  le : first.length ≤ h.ms.length
  good : goodAll h.bs.length first.flatten = true

theorem GoodF.len {h : House} {first : List (List Int)} (g : GoodF h first) : first.flatten.length ≤ h.bs.length := by
  have := goodAll_iff.1 g.good
  exact nodup_len _ _ this.1 this.2
theorem GoodF.nil_ok {h : House} {first : List (List Int)} (g : GoodF h first) (hl : first.length ≠ h.ms.length) : GoodF h (first ++ [[]]) ∧ mu h (first ++ [[]]) < mu h first := by
  have := g.le
  refine ⟨⟨by simp, by simp; omega, by simpa using g.good⟩, ?_⟩
  unfold mu; simp; omega
theorem growP_flatten {first : List (List Int)} (hn : 0 < first.length) (b : Nat) : (growP first b).flatten = first.flatten ++ [(b : Int)] := by
  obtain ⟨l, hl⟩ := At.mk (xs := first) (k := first.length - 1) (by omega)
  have h1 : first.getD (first.length - 1) [] = l := by rw [List.getD_eq_getElem?_getD, show first[first.length - 1]? = some l from hl]; rfl
  have h2 : first.drop (first.length - 1 + 1) = [] := List.drop_eq_nil_iff.2 (by omega)
  have h3 : first.flatten = (first.take (first.length - 1)).flatten ++ l := by
    have := congrArg List.flatten hl.split
    rw [h2] at this
    simpa using this
  unfold growP
  rw [h1, h3]; simp
theorem growP_len {first : List (List Int)} (hn : 0 < first.length) (b : Nat) : (growP first b).length = first.length := by
  unfold growP; simp; omega
theorem GoodF.grow_ok {h : House} {first : List (List Int)} (g : GoodF h first) {b : Nat} (hb : b < h.bs.length) (hn : (b : Int) ∉ first.flatten) : GoodF h (growP first b) ∧ mu h (growP first b) < mu h first := by
  have hgood : goodAll h.bs.length (growP first b).flatten = true := by
    rw [growP_flatten g.ne]
    exact goodAll_snoc g.good (within_iff.2 (by omega)) hn
  have g' : GoodF h (growP first b) := ⟨by rw [growP_len g.ne]; exact g.ne, by rw [growP_len g.ne]; exact g.le, hgood⟩
  refine ⟨g', ?_⟩
  have h1 := g'.len
  unfold mu
  rw [growP_len g.ne]
  rw [growP_flatten g.ne] at h1 ⊢
  simp at h1 ⊢; omega

theorem plansB_succ (h : House) (rec : List (List Int) → List (List (List Int))) (first : List (List Int)) (k : Nat) :
    plansB h rec first (k + 1) = plansB h rec first k ++ (if decide ((k : Int) ∈ first.flatten) then [] else rec (growP first k)) := by
  unfold plansB
  rw [List.range_succ, List.flatMap_append]; simp
theorem plansB_len {h : House} {rec : List (List Int) → List (List (List Int))} {L : Nat} (hL : ∀ f, (rec f).length ≤ L) (first : List (List Int)) : ∀ k, (plansB h rec first k).length ≤ k * L
  | 0 => by simp [plansB]
  | k + 1 => by
    rw [plansB_succ, List.length_append]
    have h1 := plansB_len (h := h) hL first k
    have h2 := hL (growP first k)
    rw [Nat.add_mul, Nat.one_mul]
    split
    · simp only [List.length_nil]; omega
    · omega
theorem plansA_len {h : House} {rec : List (List Int) → List (List (List Int))} {L : Nat} (hL : ∀ f, (rec f).length ≤ L) (first : List (List Int)) : (plansA h rec first).length ≤ L + 1 := by
  unfold plansA
  split
  · simp
  · have := hL (first ++ [[]]); omega
theorem plansStep_len {h : House} {stop : Int} {rec : List (List Int) → List (List (List Int))} {L : Nat} (hL : ∀ f, (rec f).length ≤ L) (hb : h.bs.length ≤ 5) (first : List (List Int)) : (plansStep h stop rec first).length ≤ 6 * L + 1 := by
  unfold plansStep
  rw [List.length_append]
  have h1 := plansA_len (h := h) hL first
  have h2 := plansB_len (h := h) hL first h.bs.length
  have h3 : h.bs.length * L ≤ 5 * L := Nat.mul_le_mul_right _ hb
  split
  · simp; omega
  · omega
/-- A bound on their number. -/
def plansBd : Nat → Nat
  | 0 => 1
  | n + 1 => 6 * plansBd n + 1
theorem plansF_len {h : House} {stop : Int} (hb : h.bs.length ≤ 5) : ∀ (n : Nat) (first : List (List Int)), (plansF h stop n first).length ≤ plansBd n
  | 0, first => by
    have := plansStep_len (h := h) (stop := stop) (rec := fun _ => []) (L := 0) (by simp) hb first
    simpa [plansF, plansBd] using this
  | n + 1, first => plansStep_len (plansF_len hb n) hb first
theorem plansBd_mono : ∀ {n m : Nat}, n ≤ m → plansBd n ≤ plansBd m
  | n, 0, h => by rw [show n = 0 by omega]; exact Nat.le_refl _
  | n, m + 1, h => by
    by_cases e : n = m + 1
    · rw [e]; exact Nat.le_refl _
    · have := plansBd_mono (n := n) (m := m) (by omega)
      simp only [plansBd]; omega

end Go.Proofs.YthcfhmebikcfpaaGreatDoor

namespace Go.Proofs.YthcfhmebikcfpaaGreatDoor

/-! ### All of them are plans -/

theorem plansStep_isPlan {h : House} {stop : Int} {rec : List (List Int) → List (List (List Int))} {first : List (List Int)} (hg : GoodF h first)
    (hr : ∀ f, GoodF h f → mu h f < mu h first → ∀ p ∈ rec f, isPlan h p = true) : ∀ p ∈ plansStep h stop rec first, isPlan h p = true := by
  intro p hp
  unfold plansStep at hp
  rcases List.mem_append.1 hp with hp | hp
  · unfold plansA at hp
    split at hp
    · rename_i hl
      rw [List.mem_singleton.1 hp]
      simp [isPlan, hl, hg.good]
    · rename_i hl
      exact hr _ (hg.nil_ok hl).1 (hg.nil_ok hl).2 p hp
  · split at hp
    · simp at hp
    · unfold plansB at hp
      obtain ⟨b, hb, hp⟩ := List.mem_flatMap.1 hp
      rw [List.mem_range] at hb
      split at hp
      · simp at hp
      · rename_i hn
        have hn' : (b : Int) ∉ first.flatten := by simpa using hn
        exact hr _ (hg.grow_ok hb hn').1 (hg.grow_ok hb hn').2 p hp
theorem plansF_isPlan {h : House} {stop : Int} : ∀ (n : Nat) {first : List (List Int)}, mu h first ≤ n → GoodF h first → ∀ p ∈ plansF h stop n first, isPlan h p = true
  | 0, first, hm, hg => plansStep_isPlan hg (fun f _ hlt => by omega)
  | n + 1, first, hm, hg => plansStep_isPlan hg (fun f hg' hlt => plansF_isPlan n (by omega) hg')
theorem plansF_ne {h : House} {stop : Int} : ∀ (n : Nat) {first : List (List Int)}, mu h first ≤ n → GoodF h first → 0 < (plansF h stop n first).length
  | n, first, hm, hg => by
    have key : ∀ rec : List (List Int) → List (List (List Int)), (first.length ≠ h.ms.length → 0 < (rec (first ++ [[]])).length) → 0 < (plansStep h stop rec first).length := by
      intro rec hr
      unfold plansStep plansA
      rw [List.length_append]
      split
      · simp; omega
      · rename_i hl; have := hr hl; omega
    cases n with
    | zero => exact key _ (fun hl => by have := (hg.nil_ok hl).2; omega)
    | succ n => exact key _ (fun hl => plansF_ne n (by have := (hg.nil_ok hl).2; omega) (hg.nil_ok hl).1)

theorem goodF_start {h : House} (hv : Valid h) : GoodF h [[]] := ⟨by simp, by have := hv.m1; simpa using this, goodAll_nil _⟩
theorem plansOf_isPlan {h : House} (hv : Valid h) (stop : Int) : ∀ p ∈ plansOf h stop, isPlan h p = true := plansF_isPlan _ (Nat.le_refl _) (goodF_start hv)
theorem plansOf_ne {h : House} (hv : Valid h) (stop : Int) : 0 < (plansOf h stop).length := plansF_ne _ (Nat.le_refl _) (goodF_start hv)
theorem mu_le {h : House} (hv : Valid h) (first : List (List Int)) : mu h first ≤ 8 := by
  have := hv.m3; have := hv.b5; unfold mu; omega
theorem plansBd8 : plansBd 8 ≤ 100000000 := by decide
theorem plansOf_len {h : House} (hv : Valid h) (stop : Int) : (plansOf h stop).length ≤ 100000000 :=
  Nat.le_trans (plansF_len hv.b5 _ _) (Nat.le_trans (plansBd_mono (mu_le hv _)) plansBd8)

/-! ### The first one of the least -/

section
variable {α : Type}
def bst (f : α → Nat) : List α → α → α
  | [], b => b
  | y :: l, b => bst f l (if f y < f b then y else b)
theorem bst_append (f : α → Nat) : ∀ (l r : List α) (b : α), bst f (l ++ r) b = bst f r (bst f l b)
  | [], _, _ => rfl
  | y :: l, r, b => by simp only [List.cons_append, bst]; exact bst_append f l r _
theorem bst_take {f : α → Nat} {l : List α} {k : Nat} {y : α} (h : At l k y) (b : α) : bst f (l.take (k + 1)) b = if f y < f (bst f (l.take k) b) then y else bst f (l.take k) b := by
  rw [h.take, bst_append]; rfl
theorem bst_mem (f : α → Nat) : ∀ (l : List α) (b : α), bst f l b = b ∨ bst f l b ∈ l
  | [], _ => .inl rfl
  | y :: l, b => by
    simp only [bst]
    rcases bst_mem f l (if f y < f b then y else b) with h | h
    · rw [h]; split
      · exact .inr (by simp)
      · exact .inl rfl
    · exact .inr (by simp [h])
/-- The first one of the least of a list. -/
def firstBest [Inhabited α] (f : α → Nat) (l : List α) : α := bst f l (l.getD 0 default)
end

def lateN (h : House) (p : List (List Int)) : Nat := (lateOf h p).length
def bestOf (h : House) (stop : Int) : List (List Int) := firstBest (lateN h) (plansOf h stop)

theorem At.getD {α : Type} {l : List α} {k : Nat} {x : α} (h : At l k x) (d : α) : l.getD k d = x := by
  rw [List.getD_eq_getElem?_getD, show l[k]? = some x from h]; rfl
theorem firstBest_mem {α : Type} [Inhabited α] (f : α → Nat) {l : List α} (h : 0 < l.length) : firstBest f l ∈ l := by
  obtain ⟨x, hx⟩ := At.mk h
  unfold firstBest
  rw [hx.getD]
  rcases bst_mem f l x with e | e
  · rw [e]; exact hx.mem
  · exact e
theorem bestOf_isPlan {h : House} (hv : Valid h) (stop : Int) : isPlan h (bestOf h stop) = true := plansOf_isPlan hv stop _ (firstBest_mem _ (plansOf_ne hv stop))
theorem lateN_le (h : House) (p : List (List Int)) : lateN h p ≤ h.ts.length := lateList_len h _ _

/-! ### The cases -/

def casesTo (h : House) (k : Nat) : List Int := -1 :: ((List.range k).filter fun m => decide ((mach h m).s = 1)).map Int.ofNat
def casesOf (h : House) : List Int := casesTo h h.ms.length
theorem casesTo_succ (h : House) (k : Nat) : casesTo h (k + 1) = if (mach h k).s = 1 then casesTo h k ++ [(k : Int)] else casesTo h k := by
  unfold casesTo
  rw [List.range_succ, List.filter_append]
  by_cases e : (mach h k).s = 1 <;> simp [e]
theorem casesTo_len (h : House) (k : Nat) : (casesTo h k).length ≤ k + 1 := by
  unfold casesTo
  rw [List.length_cons, List.length_map]
  have := List.length_filter_le (fun m => decide ((mach h m).s = 1)) (List.range k)
  simp at this; omega
theorem casesOf_mem {h : House} {c : Int} (hc : c ∈ casesOf h) : -1 ≤ c ∧ c < h.ms.length := by
  unfold casesOf casesTo at hc
  rcases List.mem_cons.1 hc with rfl | hc
  · omega
  · obtain ⟨m, hm, rfl⟩ := List.mem_map.1 hc
    have := (List.mem_filter.1 hm).1
    rw [List.mem_range] at this
    constructor
    · exact Int.le_trans (by decide) (Int.natCast_nonneg m)
    · exact Int.ofNat_lt.2 this

/-! ### Who is told -/

def reach (late : List (List Int)) (told : List Int) : Bool := late.any fun l => l.all fun t => decide (t ∈ told)

/-! ### Minutes that are too late -/

theorem foldl_take {α β : Type} {f : β → α → β} {l : List α} {k : Nat} {x : α} (h : At l k x) (b : β) : (l.take (k + 1)).foldl f b = f ((l.take k).foldl f b) x := by
  rw [h.take, List.foldl_append]; rfl

theorem runTo_bd {h : House} (hv : Valid h) {m : Nat} {mc : Mach} (hm : At h.ms m mc) {M : Int} : ∀ (l : List Int) (s : List Int × Int × Option Int), (∀ x ∈ l, 0 ≤ x ∧ x ≤ (h.bs.length : Int) - 1) → (∀ x ∈ s.1, -1 ≤ x ∧ x ≤ M) → 0 ≤ s.2.1 → s.2.1 + 90 * l.length ≤ M → ∀ x ∈ (runTo h mc l s).1, -1 ≤ x ∧ x ≤ M
  | [], _, _, hs, _, _ => hs
  | b :: l, (ts, now, prev), hl, hs, h0, hM => by
    have hb := hl b (by simp)
    obtain ⟨j, rfl⟩ := Int.eq_ofNat_of_zero_le hb.1
    have hst := stepT_bd hv hm (show j < h.bs.length by omega) now prev
    simp only [List.length_cons] at hM h0
    simp only [runTo]
    refine runTo_bd hv hm l _ (fun x hx => hl x (by simp [hx])) ?_ ?_ ?_
    · intro x hx
      rcases List.mem_or_eq_of_mem_set hx with hx | rfl
      · exact hs x hx
      · constructor <;> omega
    · show 0 ≤ stepT h mc now prev _
      omega
    · show stepT h mc now prev _ + _ ≤ M
      omega
theorem timesTo_bd {h : House} (hv : Valid h) : ∀ (p : List (List Int)) (m : Nat) (ts : List Int), m + p.length ≤ h.ms.length → (∀ x ∈ p.flatten, 0 ≤ x ∧ x ≤ (h.bs.length : Int) - 1) → (∀ l ∈ p, l.length ≤ 5) → (∀ x ∈ ts, -1 ≤ x ∧ x ≤ 1000) → ∀ x ∈ timesTo h m p ts, -1 ≤ x ∧ x ≤ 1000
  | [], _, _, _, _, _, hs => hs
  | l :: p, m, ts, hm, hp, hl, hs => by
    simp only [List.length_cons] at hm
    obtain ⟨mc, hmc⟩ := At.mk (show m < h.ms.length by omega)
    have hr := ready_bd hv hmc
    have hl5 := hl l (by simp)
    simp only [timesTo, hmc.mach]
    refine timesTo_bd hv p (m + 1) _ (by omega) (fun x hx => hp x (by simp [hx])) (fun l' hl' => hl l' (by simp [hl'])) ?_
    exact runTo_bd hv hmc l (ts, mc.r, none) (fun x hx => hp x (by simp [hx])) hs hr.1 (by show mc.r + _ ≤ _; omega)
theorem timesOf_bd {h : House} (hv : Valid h) {p : List (List Int)} (hp : isPlan h p = true) : ∀ x ∈ timesOf h p, -1 ≤ x ∧ x ≤ 1000 := by
  have h1 := hp
  simp only [isPlan, Bool.and_eq_true, decide_eq_true_eq] at h1
  refine timesTo_bd hv p 0 _ (by omega) (goodAll_iff.1 h1.2).1 ?_ ?_
  · intro l hl
    obtain ⟨k, hk, rfl⟩ := List.getElem_of_mem hl
    have := isPlan_one hp (m := k) (l := p[k]) (List.getElem?_eq_getElem hk)
    have := hv.b5; omega
  · intro x hx; rw [List.eq_of_mem_replicate hx]; omega

/-- By how many minutes the first k bundles of a train are late, at the most; none: one of them is not printed. -/
def overTo (h : House) (times : List Int) (t : Int) : Nat → Option Int
  | 0 => some (-100000)
  | k + 1 => match overTo h times t k with
    | none => none
    | some o => if (bund h (k : Nat)).t = t then (if times.getD k 0 < 0 then none else some (max o (times.getD k 0 - h.ts.getD t.toNat 0))) else some o
def overOf (h : House) (plan : List (List Int)) (t : Int) : Int := (overTo h (timesOf h plan) t h.bs.length).getD 100000

theorem overTo_none {h : House} {times : List Int} {t : Int} {k : Nat} (e : overTo h times t k = none) : ∀ j, overTo h times t (k + j) = none
  | 0 => e
  | j + 1 => by
    have := overTo_none e j
    show overTo h times t (k + j + 1) = none
    simp only [overTo, this]
theorem ts_bd {h : House} (hv : Valid h) {k : Nat} {x : Int} (hx : At h.ts k x) : 0 ≤ x ∧ x ≤ 99 := by
  have := List.all_eq_true.1 hv.ts x hx.mem
  exact within_iff.1 this
theorem overTo_bd {h : House} {times : List Int} {t : Int} (ht : ∀ x ∈ times, -1 ≤ x ∧ x ≤ 1000) (hb : ∀ x ∈ h.ts, 0 ≤ x ∧ x ≤ 99) : ∀ (k : Nat) (o : Int), overTo h times t k = some o → -100000 ≤ o ∧ o ≤ 1000
  | 0, o, e => by simp [overTo] at e; omega
  | k + 1, o, e => by
    simp only [overTo] at e
    split at e
    · cases e
    · rename_i o' e'
      have ih := overTo_bd ht hb k o' e'
      have h1 : -1 ≤ times.getD k 0 ∧ times.getD k 0 ≤ 1000 := by
        by_cases hk : k < times.length
        · obtain ⟨x, hx⟩ := At.mk hk
          rw [hx.getD]; exact ht _ hx.mem
        · rw [List.getD_eq_getElem?_getD, List.getElem?_eq_none (by omega)]; simp
      have h2 : 0 ≤ h.ts.getD t.toNat 0 ∧ h.ts.getD t.toNat 0 ≤ 99 := by
        by_cases hk : t.toNat < h.ts.length
        · obtain ⟨x, hx⟩ := At.mk hk
          rw [hx.getD]; exact hb _ hx.mem
        · rw [List.getD_eq_getElem?_getD, List.getElem?_eq_none (by omega)]; simp
      split at e
      · split at e
        · cases e
        · simp only [Option.some.injEq] at e; omega
      · simp only [Option.some.injEq] at e; omega
theorem overOf_bd {h : House} (hv : Valid h) {p : List (List Int)} (hp : isPlan h p = true) (t : Int) : -100000 ≤ overOf h p t ∧ overOf h p t ≤ 100000 := by
  unfold overOf
  cases e : overTo h (timesOf h p) t h.bs.length with
  | none => simp
  | some o =>
    have := overTo_bd (timesOf_bd hv hp) (fun x hx => by have := List.all_eq_true.1 hv.ts x hx; exact within_iff.1 this) _ _ e
    simp; omega

/-! ### Waits; what is spare -/

def waitPlan (h : House) (t : Int) (acc : Int) (p : List (List Int)) : Int := if lateOf h p = [] ∨ lateOf h p = [t] then min acc (max 0 (overOf h p t)) else acc
def waitCase (h : House) (t : Int) (c : Int) : Int := (plansOf h c).foldl (waitPlan h t) 100000
def waitRaw (h : House) (t : Int) : Int := (casesOf h).foldl (fun o c => max o (waitCase h t c)) 0

def sparePlanTo (h : House) (p : List (List Int)) (k : Nat) : Int := (List.range k).foldl (fun (l : Int) (t : Nat) => min l (-(overOf h p (t : Int)))) 100000
def sparePlan (h : House) (p : List (List Int)) : Int := sparePlanTo h p h.ts.length
def spareCase (h : House) (c : Int) : Int := (plansOf h c).foldl (fun m p => max m (sparePlan h p)) (-100000)
def spareRaw (h : House) : Int := (casesOf h).foldl (fun o c => min o (spareCase h c)) 99
theorem sparePlanTo_succ (h : House) (p : List (List Int)) (k : Nat) : sparePlanTo h p (k + 1) = min (sparePlanTo h p k) (-(overOf h p (k : Int))) := by
  unfold sparePlanTo
  rw [List.range_succ, List.foldl_append]; rfl

/-! ### The machine whose stop is the worst -/

/-- (machine, late trains) after the first k machines. -/
def keyTo (h : House) : Nat → Int × Int
  | 0 => (0, -1)
  | k + 1 => if (keyTo h k).2 < (lateN h (bestOf h (k : Nat)) : Nat) then ((k : Int), ((lateN h (bestOf h (k : Nat)) : Nat) : Int)) else keyTo h k
def keyOf (h : House) : Int := (keyTo h h.ms.length).1
theorem keyTo_bd (h : House) : ∀ k, 0 ≤ (keyTo h k).1 ∧ (keyTo h k).1 ≤ k ∧ -1 ≤ (keyTo h k).2 ∧ (keyTo h k).2 ≤ h.ts.length
  | 0 => by simp [keyTo]
  | k + 1 => by
    have ih := keyTo_bd h k
    have hN := lateN_le h (bestOf h (k : Nat))
    simp only [keyTo]
    split
    · refine ⟨?_, ?_, ?_, ?_⟩ <;> simp only <;> omega
    · omega

/-! ### Lists of numbers that rise -/

def fromOf (first : List Int) : Nat := if 0 < first.length then (first.getD (first.length - 1) 0).toNat + 1 else 0
def listsTo (_below : Nat) (rec : List Int → List (List Int)) (first : List Int) (k : Nat) : List (List Int) :=
  (List.range k).flatMap fun (n : Nat) => if fromOf first ≤ n then rec (first ++ [(n : Int)]) else []
def listsStep (many below : Nat) (rec : List Int → List (List Int)) (first : List Int) : List (List Int) := if first.length = many then [first] else listsTo below rec first below
def listsF (many below : Nat) : Nat → List Int → List (List Int)
  | 0 => listsStep many below (fun _ => [])
  | n + 1 => listsStep many below (listsF many below n)
def listsOf (many below : Nat) : List (List Int) := listsF many below many []
theorem listsTo_succ (below : Nat) (rec : List Int → List (List Int)) (first : List Int) (k : Nat) (hk : fromOf first ≤ k) : listsTo below rec first (k + 1) = listsTo below rec first k ++ rec (first ++ [(k : Int)]) := by
  unfold listsTo
  rw [List.range_succ, List.flatMap_append]; simp [hk]
theorem listsTo_from (below : Nat) (rec : List Int → List (List Int)) (first : List Int) : listsTo below rec first (fromOf first) = [] := by
  unfold listsTo
  rw [List.flatMap_eq_nil_iff]
  intro n hn
  rw [List.mem_range] at hn
  rw [if_neg (by omega)]
theorem listsTo_len {below : Nat} {rec : List Int → List (List Int)} {L : Nat} (hL : ∀ f, (rec f).length ≤ L) (first : List Int) : ∀ k, (listsTo below rec first k).length ≤ k * L
  | 0 => by simp [listsTo]
  | k + 1 => by
    have h1 := listsTo_len (below := below) hL first k
    unfold listsTo at h1 ⊢
    rw [List.range_succ, List.flatMap_append, List.length_append, Nat.add_mul, Nat.one_mul]
    have h2 := hL (first ++ [(k : Int)])
    simp only [List.flatMap_cons, List.flatMap_nil, List.append_nil]
    split
    · omega
    · simp only [List.length_nil]; omega
theorem listsStep_len {many below : Nat} (hb : below ≤ 4) {rec : List Int → List (List Int)} {L : Nat} (hL : ∀ f, (rec f).length ≤ L) (first : List Int) : (listsStep many below rec first).length ≤ 4 * L + 1 := by
  unfold listsStep
  split
  · simp
  · have h1 := listsTo_len (below := below) hL first below
    have : below * L ≤ 4 * L := Nat.mul_le_mul_right _ hb
    omega
def listsBd : Nat → Nat
  | 0 => 1
  | n + 1 => 4 * listsBd n + 1
theorem listsF_len {many below : Nat} (hb : below ≤ 4) : ∀ (n : Nat) (first : List Int), (listsF many below n first).length ≤ listsBd n
  | 0, first => by simpa [listsF, listsBd] using listsStep_len (many := many) (L := 0) hb (rec := fun _ => []) (by simp) first
  | n + 1, first => listsStep_len hb (listsF_len hb n) first
theorem listsBd_mono : ∀ {n m : Nat}, n ≤ m → listsBd n ≤ listsBd m
  | n, 0, h => by rw [show n = 0 by omega]; exact Nat.le_refl _
  | n, m + 1, h => by
    by_cases e : n = m + 1
    · rw [e]; exact Nat.le_refl _
    · have := listsBd_mono (n := n) (m := m) (by omega)
      simp only [listsBd]; omega
theorem listsOf_len {many below : Nat} (hm : many ≤ 4) (hb : below ≤ 4) : (listsOf many below).length ≤ 1000 :=
  Nat.le_trans (listsF_len hb many []) (Nat.le_trans (listsBd_mono hm) (by decide))

/-! ### Who is told: the search -/

def lates (h : House) : List (List (List Int)) := (casesOf h).map fun c => (plansOf h c).map (lateOf h)
def okTold (h : House) (l : List Int) : Bool := (lates h).all fun late => reach late l
def toldOf (h : House) : List Int := (((List.range h.ts.length).flatMap fun many => listsOf many h.ts.length).find? (okTold h)).getD ((listsOf h.ts.length h.ts.length).getD 0 [])

theorem find_succ {α : Type} {f : Nat → List α} {p : α → Bool} {m : Nat} (h1 : ((List.range m).flatMap f).find? p = none) (h2 : (f m).find? p = none) : ((List.range (m + 1)).flatMap f).find? p = none := by
  rw [List.range_succ, List.flatMap_append, List.find?_append, h1]
  simp only [List.flatMap_cons, List.flatMap_nil, List.append_nil, h2]; rfl
theorem find_found {α : Type} {f : Nat → List α} {p : α → Bool} {n m j : Nat} {x : α} (hm : m < n) (h1 : ((List.range m).flatMap f).find? p = none) (hx : At (f m) j x) (h2 : ((f m).take j).find? p = none) (hp : p x = true) : ((List.range n).flatMap f).find? p = some x := by
  obtain ⟨d, rfl⟩ : ∃ d, n = m + (d + 1) := ⟨n - m - 1, by omega⟩
  have h3 : (f m).find? p = some x := by
    rw [hx.split, List.find?_append, h2]
    simp [hp]
  rw [List.range_add, List.flatMap_append, List.find?_append, h1, List.range_succ_eq_map]
  simp only [List.map_cons, List.flatMap_cons, List.find?_append, Nat.add_zero, h3]; rfl
theorem find_take {α : Type} {p : α → Bool} {l : List α} {j : Nat} {x : α} (hx : At l j x) (h : (l.take j).find? p = none) (hp : p x = false) : (l.take (j + 1)).find? p = none := by
  rw [hx.take, List.find?_append, h]; simp [hp]

theorem listsF_ne {many below : Nat} : ∀ (n : Nat) (first : List Int), many - first.length ≤ n → first.length ≤ many → fromOf first + (many - first.length) ≤ below → 0 < (listsF many below n first).length := by
  intro n
  have key : ∀ (rec : List Int → List (List Int)) (first : List Int), first.length ≤ many → fromOf first + (many - first.length) ≤ below → (first.length ≠ many → 0 < (rec (first ++ [(fromOf first : Int)])).length) → 0 < (listsStep many below rec first).length := by
    intro rec first h1 h2 h3
    unfold listsStep
    split
    · simp
    · rename_i hne
      have h4 := h3 hne
      obtain ⟨x, hx⟩ := At.mk (xs := rec (first ++ [(fromOf first : Int)])) (k := 0) h4
      refine List.length_pos_of_mem (a := x) ?_
      unfold listsTo
      rw [List.mem_flatMap]
      refine ⟨fromOf first, List.mem_range.2 (by omega), ?_⟩
      rw [if_pos (Nat.le_refl _)]; exact hx.mem
  have hfs : ∀ (first : List Int) (k : Nat), fromOf (first ++ [(k : Int)]) = k + 1 := by
    intro first k
    unfold fromOf
    simp
  induction n with
  | zero => intro first h0 h1 h2; exact key _ first h1 h2 (fun hne => by omega)
  | succ n ih =>
    intro first h0 h1 h2
    refine key _ first h1 h2 (fun hne => ih _ (by simp; omega) (by simp; omega) ?_)
    rw [hfs]; simp; omega
theorem listsOf_ne (n : Nat) : 0 < (listsOf n n).length := listsF_ne n [] (by simp) (by simp) (by simp [fromOf])

theorem lates_len (h : House) : (lates h).length = (casesOf h).length := by simp [lates]

/-- In a case there is a plan by which no train is late but some. -/
def okCase (h : House) (S : List Int) (c : Int) : Bool := (plansOf h c).any fun p => (lateOf h p).all fun t => decide (t ∈ S)
def sureB (h : House) (S : List Int) : Bool := (casesOf h).all (okCase h S)

end Go.Proofs.YthcfhmebikcfpaaGreatDoor

namespace Go.Proofs.YthcfhmebikcfpaaGreatDoor
open Go.RowKit

/-- A snapshot: blocks that are never written again, and what they hold. -/
abbrev Snap := Nat → Option Obj

structure Holds (H : Snap) (w : World) : Prop where
  at_ : ∀ b o, H b = some o → w.heap[b]? = some o

def SLe (H H' : Snap) : Prop := ∀ b o, H b = some o → H' b = some o

theorem SLe.refl (H : Snap) : SLe H H := fun _ _ h => h
theorem SLe.trans {A B C : Snap} (h : SLe A B) (k : SLe B C) : SLe A C := fun b o e => k b o (h b o e)

theorem Holds.lt {H : Snap} {w : World} (h : Holds H w) {b : Nat} {o : Obj} (e : H b = some o) : b < w.heap.size := by
  have h1 := h.at_ b o e
  rcases Nat.lt_or_ge b w.heap.size with h' | h'
  · exact h'
  · simp [Array.getElem?_eq_none h'] at h1

theorem Holds.none_of_ge {H : Snap} {w : World} (h : Holds H w) {b : Nat} (hb : w.heap.size ≤ b) : H b = none := by
  cases e : H b with
  | none => rfl
  | some o => have := h.lt e; omega

theorem Holds.below {H : Snap} {w w' : World} (h : Holds H w) (hb : Below w.heap.size w w') : Holds H w' :=
  ⟨fun b o e => (hb.block b (h.lt e)).trans (h.at_ b o e)⟩

theorem Holds.mono {H H' : Snap} {w : World} (h : Holds H' w) (k : SLe H H') : Holds H w := ⟨fun b o e => h.at_ b o (k b o e)⟩

theorem Holds.drew {H : Snap} {w : World} (h : Holds H w) : Holds H w.drew := ⟨h.at_⟩
theorem Holds.drewN {H : Snap} {w : World} (h : Holds H w) (n : Nat) : Holds H (w.drewN n) := ⟨h.at_⟩
theorem Holds.alloc {H : Snap} {w : World} (h : Holds H w) (o : Obj) : Holds H (w.alloc o) :=
  h.below ((Below.refl _ _).alloc (Nat.le_refl _) o)
theorem Holds.setCell {H : Snap} {w : World} (h : Holds H w) {a : Addr} (ha : H a.block = none) (v : Value) : Holds H (w.setCell a v) :=
  ⟨fun b o e => by
    have hne : b ≠ a.block := fun hb => by rw [hb, ha] at e; cases e
    exact (Below.heap_setCell w a v b hne).trans (h.at_ b o e)⟩
theorem Holds.grown {H : Snap} {w w' : World} {row : Option Nat} (h : Holds H w) (hg : w.grownBy w' row) (hr : ∀ k, row = some k → H k = none) : Holds H w' :=
  ⟨fun b o e => (hg.block b (h.lt e) (fun hb => by rw [hr b hb.symm] at e; cases e)).trans (h.at_ b o e)⟩

/-- The snapshot with one block more. -/
def Snap.put (H : Snap) (b : Nat) (o : Obj) : Snap := fun k => if k = b then some o else H k

theorem Snap.put_same (H : Snap) (b : Nat) (o : Obj) : H.put b o b = some o := by simp [Snap.put]
theorem Snap.put_other (H : Snap) {b k : Nat} (o : Obj) (h : k ≠ b) : H.put b o k = H k := by simp [Snap.put, h]
theorem Snap.le_put {H : Snap} {b : Nat} (h : H b = none) (o : Obj) : SLe H (H.put b o) := fun k o' e => by
  have : k ≠ b := fun hk => by rw [hk, h] at e; cases e
  rw [Snap.put_other _ _ this]; exact e
theorem Holds.put {H : Snap} {w : World} (h : Holds H w) {b : Nat} {o : Obj} (e : w.heap[b]? = some o) : Holds (H.put b o) w :=
  ⟨fun k o' ek => by
    by_cases hk : k = b
    · subst hk; rw [Snap.put_same] at ek; cases ek; exact e
    · rw [Snap.put_other _ _ hk] at ek; exact h.at_ k o' ek⟩

/-- From (w, H) to (w', H'): nothing old has turned; the snapshot has grown by new blocks alone. -/
structure Ext (w : World) (H : Snap) (w' : World) (H' : Snap) : Prop where
  below : Below w.heap.size w w'
  holds : Holds H' w'
  same : ∀ b, b < w.heap.size → H' b = H b

theorem Ext.refl {w : World} {H : Snap} (h : Holds H w) : Ext w H w H := ⟨Below.refl _ _, h, fun _ _ => rfl⟩
theorem Ext.trans {w w1 w2 : World} {H H1 H2 : Snap} (h : Ext w H w1 H1) (k : Ext w1 H1 w2 H2) : Ext w H w2 H2 :=
  ⟨h.below.trans (k.below.mono h.below.size), k.holds, fun b hb => (k.same b (Nat.lt_of_lt_of_le hb h.below.size)).trans (h.same b hb)⟩
theorem Ext.le {w w' : World} {H H' : Snap} (h : Ext w H w' H') (hw : Holds H w) : SLe H H' := fun b _o e => (h.same b (hw.lt e)).trans e
theorem Ext.old {w w' : World} {H H' : Snap} (h : Ext w H w' H') (hw : Holds H w) : Holds H w' := h.holds.mono (h.le hw)
/-- A step that leaves all that was there when the call began; the snapshot stays. -/
theorem Ext.step {w w1 w2 : World} {H H1 : Snap} (h : Ext w H w1 H1) (k : Below w.heap.size w1 w2) (hh : Holds H1 w2) : Ext w H w2 H1 :=
  ⟨h.below.trans k, hh, h.same⟩
theorem Ext.drew {w w1 : World} {H H1 : Snap} (h : Ext w H w1 H1) : Ext w H w1.drew H1 := ⟨h.below.drew, h.holds.drew, h.same⟩
theorem Ext.drewN {w w1 : World} {H H1 : Snap} (h : Ext w H w1 H1) (n : Nat) : Ext w H (w1.drewN n) H1 := ⟨⟨h.below.os, h.below.tape, h.below.output, h.below.size, h.below.block⟩, h.holds.drewN n, h.same⟩
theorem Ext.alloc {w w1 : World} {H H1 : Snap} (h : Ext w H w1 H1) (o : Obj) : Ext w H (w1.alloc o) H1 :=
  ⟨h.below.alloc h.below.size o, h.holds.alloc o, h.same⟩
theorem Ext.setCell {w w1 : World} {H H1 : Snap} (h : Ext w H w1 H1) {a : Addr} (hb : w.heap.size ≤ a.block) (ha : H1 a.block = none) (v : Value) : Ext w H (w1.setCell a v) H1 :=
  ⟨h.below.setCell hb v, h.holds.setCell ha v, h.same⟩
theorem Ext.grown {w w1 w2 : World} {H H1 : Snap} {row : Option Nat} (h : Ext w H w1 H1) (hg : w1.grownBy w2 row) (hb : ∀ k, row = some k → w.heap.size ≤ k) (hr : ∀ k, row = some k → H1 k = none) : Ext w H w2 H1 :=
  ⟨h.below.grown hg h.below.size hb, h.holds.grown hg hr, h.same⟩
/-- A block of the call's own is frozen. -/
theorem Ext.freeze {w w1 : World} {H H1 : Snap} (h : Ext w H w1 H1) {b : Nat} {o : Obj} (hb : w.heap.size ≤ b) (e : w1.heap[b]? = some o) : Ext w H w1 (H1.put b o) :=
  ⟨h.below, h.holds.put e, fun k hk => by rw [Snap.put_other _ _ (by omega)]; exact h.same k hk⟩

theorem bcell {W w1 : World} (hb : Below W.heap.size W w1) : ∀ b o, b < W.heap.size → w1.cell? ⟨b, o, none⟩ = W.cell? ⟨b, o, none⟩ := fun b o h => hb.cell (p := ⟨b, o, none⟩) h
theorem bfree {W w1 : World} (hb : Below W.heap.size W w1) : ∀ b o, b < W.heap.size → w1.frozen? ⟨b, o, none⟩ = W.frozen? ⟨b, o, none⟩ := fun b o h => hb.frozen (p := ⟨b, o, none⟩) h

/-- What a call leaves: a value, and nothing old turned. -/
def Post (w : World) (H : Snap) (R : Value → Snap → Prop) (e : Ending) (w' : World) : Prop :=
  ∃ v H', e = .returned v ∧ Ext w H w' H' ∧ R v H'
/-- .. a known value. -/
def PostV (w : World) (v : Value) (e : Ending) (w' : World) : Prop := e = .returned v ∧ Below w.heap.size w w'

theorem ret_int {k : IntKind} {a b : Int} (h : a = b) : Ending.returned (.int k a) = .returned (.int k b) := by rw [h]
theorem ret_bool {a b : Bool} (h : a = b) : Ending.returned (.bool a) = .returned (.bool b) := by rw [h]
theorem nat_i64 {a b : Nat} (h : a = b) : Value.int .i64 (a : Int) = .int .i64 (b : Int) := by rw [h]

/-- How data of a type are laid. -/
class Enc (α : Type) where
  sz : Nat
  by_ : Nat
  rep : Snap → α → List Value → Prop
  len : ∀ {H : Snap} {x : α} {cs : List Value}, rep H x cs → cs.length = sz
  mono : ∀ {H H' : Snap} {x : α} {cs : List Value}, SLe H H' → rep H x cs → rep H' x cs
  one : ∀ {H : Snap} {x : α} {cs : List Value}, rep H x cs → ∀ u ∈ cs, u.oneCell' = true

def I64 (x : Int) : Prop := -9223372036854775808 ≤ x ∧ x ≤ 9223372036854775807

instance : Enc Int where
  sz := 1
  by_ := 8
  rep := fun _ x cs => cs = [.int .i64 x] ∧ I64 x
  len := fun h => by rw [h.1]; rfl
  mono := fun _ h => h
  one := fun h u hu => by rw [h.1] at hu; simp at hu; subst hu; rfl

section
variable {α : Type} [Enc α]

def reps (H : Snap) : List α → List Value → Prop
  | [], cs => cs = []
  | x :: xs, cs => ∃ c1 c2, cs = c1 ++ c2 ∧ Enc.rep H x c1 ∧ reps H xs c2

theorem reps.len {H : Snap} : ∀ {xs : List α} {cs : List Value}, reps H xs cs → cs.length = xs.length * Enc.sz α
  | [], _, h => by simp [show _ = [] from h]
  | x :: xs, _, ⟨c1, c2, e, h1, h2⟩ => by
    rw [e, List.length_append, Enc.len h1, reps.len h2, List.length_cons, Nat.add_mul, Nat.one_mul, Nat.add_comm]
theorem reps.mono {H H' : Snap} (k : SLe H H') : ∀ {xs : List α} {cs : List Value}, reps H xs cs → reps H' xs cs
  | [], _, h => h
  | _ :: _, _, ⟨c1, c2, e, h1, h2⟩ => ⟨c1, c2, e, Enc.mono k h1, reps.mono k h2⟩
theorem reps.one {H : Snap} : ∀ {xs : List α} {cs : List Value}, reps H xs cs → ∀ u ∈ cs, u.oneCell' = true
  | [], _, h => by rw [show _ = [] from h]; simp
  | _ :: _, _, ⟨c1, c2, e, h1, h2⟩ => fun u hu => by
    rw [e, List.mem_append] at hu
    exact hu.elim (Enc.one h1 u) (reps.one h2 u)
theorem reps.append {H : Snap} : ∀ {xs ys : List α} {cs ds : List Value}, reps H xs cs → reps H ys ds → reps H (xs ++ ys) (cs ++ ds)
  | [], _, _, _, h, k => by rw [show _ = [] from h]; exact k
  | _ :: _, _, _, _, ⟨c1, c2, e, h1, h2⟩, k => ⟨c1, c2 ++ _, by rw [e, List.append_assoc], h1, reps.append h2 k⟩
theorem reps.single {H : Snap} {x : α} {cs : List Value} (h : Enc.rep H x cs) : reps H [x] cs := ⟨cs, [], by simp, h, rfl⟩
theorem reps.split {H : Snap} : ∀ {xs ys : List α} {cs : List Value}, reps H (xs ++ ys) cs → ∃ c1 c2, cs = c1 ++ c2 ∧ reps H xs c1 ∧ reps H ys c2
  | [], _, cs, h => ⟨[], cs, rfl, rfl, h⟩
  | _ :: xs, _, _, ⟨c1, c2, e, h1, h2⟩ => by
    obtain ⟨d1, d2, e2, k1, k2⟩ := reps.split (xs := xs) h2
    exact ⟨c1 ++ d1, d2, by rw [e, e2, List.append_assoc], ⟨c1, d1, rfl, h1, k1⟩, k2⟩
/-- The element at a place, and its cells. -/
theorem reps.get {H : Snap} : ∀ {xs : List α} {cs : List Value} {k : Nat} {x : α}, reps H xs cs → xs[k]? = some x →
    ∃ ds, Enc.rep H x ds ∧ ∀ (j : Nat) (u : Value), ds[j]? = some u → cs[k * Enc.sz α + j]? = some u
  | [], _, _, _, _, h => by simp at h
  | y :: xs, _, 0, x, ⟨c1, c2, e, h1, h2⟩, h => by
    simp at h; subst h
    exact ⟨c1, h1, fun j u hu => by rw [e, Nat.zero_mul, Nat.zero_add]; rw [List.getElem?_append_left (List.getElem?_eq_some_iff.1 hu).1]; exact hu⟩
  | y :: xs, _, k + 1, x, ⟨c1, c2, e, h1, h2⟩, h => by
    simp at h
    obtain ⟨ds, hd, hj⟩ := reps.get h2 h
    refine ⟨ds, hd, fun j u hu => ?_⟩
    have hl := Enc.len h1
    rw [e, List.getElem?_append_right (by rw [hl, Nat.add_mul]; omega), hl]
    have : (k + 1) * Enc.sz α + j - Enc.sz α = k * Enc.sz α + j := by rw [Nat.add_mul]; omega
    rw [this]; exact hj j u hu

/-- A slice value holds a list, in frozen blocks. -/
def Sl (H : Snap) (v : Value) (xs : List α) : Prop :=
  ∃ a c, v = .slice a xs.length c ∧ xs.length ≤ c ∧ c ≤ 9223372036854775807 ∧ xs.length * Enc.by_ α ≤ 140737488355328 ∧
    (xs = [] ∨ ∃ b o cur e fr, a = some ⟨b, o, none⟩ ∧ H b = some (.cells cur e fr) ∧ o + xs.length * Enc.sz α ≤ cur.size ∧ reps H xs ((cur.toList.drop o).take (xs.length * Enc.sz α)))

theorem Sl.mono {H H' : Snap} (k : SLe H H') {v : Value} {xs : List α} (h : Sl H v xs) : Sl H' v xs := by
  obtain ⟨a, c, h1, h2, h3, h4, h5⟩ := h
  refine ⟨a, c, h1, h2, h3, h4, ?_⟩
  rcases h5 with h5 | ⟨b, o, cur, e, fr, ha, hb, ho, hr⟩
  · exact .inl h5
  · exact .inr ⟨b, o, cur, e, fr, ha, k _ _ hb, ho, hr.mono k⟩
theorem Sl.form {H : Snap} {v : Value} {xs : List α} (h : Sl H v xs) : ∃ a c, v = .slice a xs.length c ∧ xs.length ≤ c ∧ c ≤ 9223372036854775807 := by
  obtain ⟨a, c, h1, h2, h3, _⟩ := h
  exact ⟨a, c, h1, h2, h3⟩
theorem Sl.bytes {H : Snap} {v : Value} {xs : List α} (h : Sl H v xs) : xs.length * Enc.by_ α ≤ 140737488355328 := by
  obtain ⟨a, c, _, _, _, h4, _⟩ := h; exact h4
theorem Sl.le {H : Snap} {v : Value} {xs : List α} (h : Sl H v xs) : xs.length ≤ 9223372036854775807 := by
  obtain ⟨a, c, _, h2, h3, _⟩ := h; omega
theorem Sl.nil (H : Snap) (a : Option Addr) {c : Nat} (hc : c ≤ 9223372036854775807) : Sl H (.slice a 0 c) ([] : List α) :=
  ⟨a, c, rfl, Nat.zero_le _, hc, by simp, .inl rfl⟩
theorem Sl.nil0 (H : Snap) : Sl H (.slice none 0 0) ([] : List α) := Sl.nil H none (by omega)

theorem Sl.get {H : Snap} {v : Value} {xs : List α} {k : Nat} {x : α} (h : Sl H v xs) (hx : At xs k x) :
    ∃ b o c ds, v = .slice (some ⟨b, o, none⟩) xs.length c ∧ Enc.rep H x ds ∧ ∀ w, Holds H w → ∀ (j : Nat) (u : Value), ds[j]? = some u → w.cell? ⟨b, o + k * Enc.sz α + j, none⟩ = some u := by
  obtain ⟨a, c, h1, h2, h3, _, h5⟩ := h
  rcases h5 with h5 | ⟨b, o, cur, e, fr, ha, hb, ho, hr⟩
  · subst h5; simp [At] at hx
  · obtain ⟨ds, hd, hj⟩ := reps.get hr hx
    refine ⟨b, o, c, ds, by rw [h1, ha], hd, fun w hw j u hu => ?_⟩
    have h6 := hj j u hu
    rw [List.getElem?_take] at h6
    split at h6
    · rw [List.getElem?_drop] at h6
      rw [cell_of_row w b _ cur e fr (hw.at_ _ _ hb)]
      rw [Nat.add_assoc]
      simpa using h6
    · cases h6

instance instEncList : Enc (List α) where
  sz := 1
  by_ := 24
  rep := fun H x cs => ∃ v, cs = [v] ∧ Sl H v x
  len := fun ⟨v, e, _⟩ => by rw [e]; rfl
  mono := fun k ⟨v, e, h⟩ => ⟨v, e, h.mono k⟩
  one := fun ⟨v, e, h⟩ u hu => by
    rw [e] at hu; simp at hu; subst hu
    obtain ⟨a, c, rfl, _⟩ := h.form
    rfl
end

theorem Sl.int {H : Snap} {v : Value} {xs : List Int} {k : Nat} {x : Int} (h : Sl H v xs) (hx : At xs k x) :
    ∃ b o c, v = .slice (some ⟨b, o, none⟩) xs.length c ∧ (-9223372036854775808 ≤ x ∧ x ≤ 9223372036854775807) ∧ ∀ w, Holds H w → w.cell? ⟨b, o + k, none⟩ = some (.int .i64 x) := by
  obtain ⟨b, o, c, ds, hv, ⟨hd, hi⟩, hc⟩ := h.get hx
  refine ⟨b, o, c, hv, hi, fun w hw => ?_⟩
  have := hc w hw 0 (.int .i64 x) (by rw [hd]; rfl)
  simpa [Enc.sz] using this

theorem Sl.list {α : Type} [Enc α] {H : Snap} {v : Value} {xs : List (List α)} {k : Nat} {x : List α} (h : Sl H v xs) (hx : At xs k x) :
    ∃ b o c u, v = .slice (some ⟨b, o, none⟩) xs.length c ∧ Sl H u x ∧ ∀ w, Holds H w → w.cell? ⟨b, o + k, none⟩ = some u := by
  obtain ⟨b, o, c, ds, hv, ⟨u, hd, hi⟩, hc⟩ := h.get hx
  refine ⟨b, o, c, u, hv, hi, fun w hw => ?_⟩
  have := hc w hw 0 u (by rw [hd]; rfl)
  simpa [Enc.sz] using this

/-! ### What the call itself builds -/

/-- The facts on an element's type. -/
structure ElemT (P : Program) (t e : TypeId) (α : Type) [Enc α] : Prop where
  und : P.underlying t = some (.slice e)
  inf : ∃ i z, P.info? e = some i ∧ i.zero = some z ∧ i.size = Enc.sz α ∧ i.bytes = Enc.by_ α ∧ z.cells.size = Enc.sz α
  pos : 0 < Enc.sz α

theorem ElemT.mk' {P : Program} {t e : TypeId} {α : Type} [Enc α] (z : Value) (hu : P.underlying t = some (.slice e)) (hi : (P.info? e).map (fun i => (i.zero, i.size, i.bytes)) = some (some z, Enc.sz α, Enc.by_ α)) (hz : z.cells.size = Enc.sz α) (hp : 0 < Enc.sz α) : ElemT P t e α := by
  obtain ⟨i, h1, h2⟩ := Option.map_eq_some_iff.1 hi
  simp only [Prod.mk.injEq] at h2
  exact ⟨hu, ⟨i, z, h1, h2.1, h2.2.1, h2.2.2, hz⟩, hp⟩

/-- A slice of the call's own (blocks from 'base' on): it may be appended to. -/
def Own {α : Type} [Enc α] (H : Snap) (base : Nat) (w : World) (e : TypeId) (v : Value) (xs : List α) : Prop :=
  ∃ cells, w.ownsRow base e (Enc.sz α) v xs.length cells ∧ reps H xs cells ∧ (∀ k, v.ownBlock = some k → H k = none) ∧ xs.length * Enc.by_ α ≤ 140737488355328

section
variable {α : Type} [Enc α] {P : Program} {H : Snap} {base : Nat} {w : World} {t e : TypeId} {v : Value} {xs ys : List α}

theorem Own.nil (H : Snap) (base : Nat) (w : World) (e : TypeId) : Own H base w e (.slice none 0 0) ([] : List α) :=
  ⟨[], World.ownsRow_nil w base e _, rfl, by simp [Value.ownBlock], by simp⟩
theorem Own.form (h : Own H base w e v xs) : ∃ a c, v = .slice a xs.length c ∧ xs.length ≤ c ∧ c ≤ 9223372036854775807 := by
  obtain ⟨cells, ⟨hl, ho⟩, _, _⟩ := h
  rcases ho with ⟨rfl, hn⟩ | ⟨g, cap, cur, rfl, _, _, hnc, hcm, _⟩
  · exact ⟨none, 0, by rw [hn], by omega, by omega⟩
  · exact ⟨_, cap, rfl, hnc, by simp only [maxLen] at hcm; omega⟩
theorem Own.len {a : Option Addr} {n c : Nat} (h : Own H base w e (.slice a n c) xs) : xs.length = n := by
  obtain ⟨a', c', e', _⟩ := h.form
  cases e'; rfl
theorem Own.kept {w' : World} {row : Option Nat} (h : Own H base w e v xs) (hg : w.grownBy w' row) (hne : v.ownBlock = none ∨ v.ownBlock ≠ row) : Own H base w' e v xs := by
  obtain ⟨cells, ho, hr⟩ := h
  exact ⟨cells, ho.kept hg hne, hr⟩
theorem Own.lt (h : Own H base w e v xs) : ∀ k, v.ownBlock = some k → base ≤ k ∧ k < w.heap.size := by
  obtain ⟨cells, ho, _⟩ := h; exact ho.lt
theorem Own.free (h : Own H base w e v xs) : ∀ k, v.ownBlock = some k → H k = none := by
  obtain ⟨cells, ho, _, hf, _⟩ := h; exact hf
theorem Own.ext {w' : World} {H' : Snap} (h : Own H base w e v xs) (hw : Holds H w) (hx : Ext w H w' H') : Own H' base w' e v xs := by
  obtain ⟨cells, ho, hr, hf, hb⟩ := h
  have hlt := ho.lt
  refine ⟨cells, ⟨ho.1, ?_⟩, hr.mono (hx.le hw), fun k hk => by rw [hx.same k (hlt k hk).2]; exact hf k hk, hb⟩
  rcases ho.2 with hn | ⟨g, cap, cur, rfl, hbg, hgg, rest⟩
  · exact .inl hn
  · exact .inr ⟨g, cap, cur, rfl, hbg, (hx.below.block g (Array.getElem?_eq_some_iff.1 hgg).1).trans hgg, rest⟩
theorem Own.alloc (h : Own H base w e v xs) (o : Obj) : Own H base (w.alloc o) e v xs := by
  obtain ⟨cells, ho, hr⟩ := h
  exact ⟨cells, ho.alloc o, hr⟩
theorem Own.drew (h : Own H base w e v xs) : Own H base w.drew e v xs := h
theorem Own.setCell {a : Addr} (h : Own H base w e v xs) (ha : v.ownBlock ≠ some a.block) (u : Value) : Own H base (w.setCell a u) e v xs := by
  obtain ⟨cells, ho, hr⟩ := h
  exact ⟨cells, ownsRow_setCell_other ho ha u, hr⟩
/-- What is the call's own is frozen: it is a slice like any other. -/
theorem Own.freeze (h : Own H base w e v xs) (hw : Holds H w) : ∃ H', SLe H H' ∧ Holds H' w ∧ Sl H' v xs ∧ ∀ b, v.ownBlock ≠ some b → H' b = H b := by
  obtain ⟨cells, ⟨hl, ho⟩, hr, hf, hb⟩ := h
  rcases ho with ⟨rfl, hn⟩ | ⟨g, cap, cur, rfl, _, hg, hnc, hcm, hcs, htake⟩
  · have hx : xs = [] := List.eq_nil_of_length_eq_zero hn
    subst hx
    exact ⟨H, SLe.refl H, hw, Sl.nil0 H, fun _ _ => rfl⟩
  · have hgH : H g = none := hf g rfl
    have hle := Snap.le_put hgH (.cells cur e (0, 0))
    refine ⟨H.put g (.cells cur e (0, 0)), hle, hw.put hg, ⟨some ⟨g, 0, none⟩, cap, rfl, hnc, by simp only [maxLen] at hcm; omega, hb, ?_⟩, fun b hb => Snap.put_other _ _ (fun e => hb (by simp [Value.ownBlock, e]))⟩
    refine .inr ⟨g, 0, cur, e, (0, 0), rfl, Snap.put_same _ _ _, ?_, ?_⟩
    · rw [hcs, Nat.zero_add]; exact Nat.mul_le_mul_right _ hnc
    · rw [List.drop_zero, htake]; exact hr.mono hle
/-- .. and the call's bargain is kept. -/
theorem Own.close {w0 : World} {H0 : Snap} (h : Own H w0.heap.size w e v xs) (hx : Ext w0 H0 w H) : ∃ H', Ext w0 H0 w H' ∧ SLe H H' ∧ Sl H' v xs ∧ ∀ b, v.ownBlock ≠ some b → H' b = H b := by
  obtain ⟨H', hle, hh, hs, hsame⟩ := h.freeze hx.holds
  refine ⟨H', ⟨hx.below, hh, fun b hb => ?_⟩, hle, hs, hsame⟩
  rw [hsame b (fun e => by have := (h.lt b e).1; omega)]
  exact hx.same b hb

theorem Sl.cells {u : Value} (hu : Sl H u ys) (hne : ys ≠ []) (hw : Holds H w) : ∃ a c cells, u = .slice (some a) ys.length c ∧ cells.length = ys.length * Enc.sz α ∧ reps H ys cells ∧ (∀ (j : Nat) (x : Value), cells[j]? = some x → w.cell? (a.add j) = some x) := by
  obtain ⟨a, c, rfl, _, _, _, h5⟩ := hu
  rcases h5 with h5 | ⟨b, o, cur, e', fr, rfl, hb, ho, hr⟩
  · exact absurd h5 hne
  · refine ⟨⟨b, o, none⟩, c, _, rfl, hr.len, hr, fun j x hx => ?_⟩
    rw [Addr.add_lit, cell_of_row w b _ cur e' fr (hw.at_ _ _ hb)]
    rw [List.getElem?_take] at hx
    split at hx
    · rw [List.getElem?_drop] at hx
      simpa using hx
    · cases hx

/-- 'append(v, u...)' onto a slice of the call's own. -/
theorem run_app (T : ElemT P t e α) (ty : TypeId) (hown : Own H base w e v xs) {u : Value} (hu : Sl H u ys) (hw : Holds H w) (hlen : (xs.length + ys.length) * Enc.by_ α ≤ 140737488355328) (h63 : xs.length + ys.length ≤ 9223372036854775807) (hb : base ≤ w.heap.size) :
    ∃ v' w', (Builtin.append_ #[t, t] ty #[v, u]).run P w = .ok v' w' ∧ Own H base w' e v' (xs ++ ys) ∧ w.grownBy w' v.ownBlock ∧ Holds H w' ∧ (v'.ownBlock = v.ownBlock ∨ v'.ownBlock = some w.heap.size) := by
  obtain ⟨i, z, hi, hz, hsz, hby, hzs⟩ := T.inf
  obtain ⟨cells, ho, hr, hf, hbv⟩ := hown
  by_cases hne : ys = []
  · subst hne
    obtain ⟨a, c, rfl, _, _, _, _⟩ := hu
    cases a with
    | none =>
      have hrun : (Builtin.append_ #[t, t] ty #[v, .slice none ([] : List α).length c]).run P w = .ok v w := by
        rcases ho.2 with ⟨rfl, hn⟩ | ⟨g, cap, cur, rfl, hbg, hg, hnc, hcm, hcs, htake⟩
        · simp [Builtin.append_, run_underlying T.und, sizeOf, typeInfo, hi, Builtin.lenOf, Builtin.firstCells]
        · simp [Builtin.append_, run_underlying T.und, sizeOf, typeInfo, hi, Builtin.lenOf, Builtin.firstCells, hnc, storeCells]
      exact ⟨v, w, hrun, ⟨cells, by simpa using ho, by simpa using hr, hf, by simpa using hbv⟩, ⟨rfl, rfl, rfl, Nat.le_refl _, fun _ _ _ => rfl⟩, hw, .inl rfl⟩
    | some a =>
      obtain ⟨v', w', hrun, ho', hg, _, hat⟩ := run_append_own_at (P := P) w base t ty e i z (Enc.sz α) (Enc.by_ α) T.und hi hz hsz hby hzs T.pos v xs.length cells ho a 0 c [] (by simp) (by simp) (by simp) (by simp only [maxLen]; simpa using h63) (by simpa using hlen) hb
      refine ⟨v', w', by simpa using hrun, ⟨cells, by simpa using ho', by simpa using hr, ?_, by simpa using hbv⟩, hg, hw.grown hg hf, hat⟩
      intro k hk
      rcases hat with h | h
      · exact hf k (h ▸ hk)
      · rw [h] at hk; simp only [Option.some.injEq] at hk; exact hw.none_of_ge (by omega)
  · obtain ⟨a, c, news, rfl, hl, hrn, hcell⟩ := hu.cells hne hw
    obtain ⟨v', w', hrun, ho', hg, _, hat⟩ := run_append_own_at (P := P) w base t ty e i z (Enc.sz α) (Enc.by_ α) T.und hi hz hsz hby hzs T.pos v xs.length cells ho a ys.length c news hl hcell hrn.one (by simp only [maxLen]; omega) hlen hb
    refine ⟨v', w', hrun, ⟨cells ++ news, by rw [List.length_append]; exact ho', hr.append hrn, ?_, by rw [List.length_append]; exact hlen⟩, hg, hw.grown hg hf, hat⟩
    intro k hk
    rcases hat with h | h
    · exact hf k (h ▸ hk)
    · rw [h] at hk; simp only [Option.some.injEq] at hk; exact hw.none_of_ge (by omega)

/-- 'append(v, x)': the one element lies in a block that has just been made. -/
theorem run_app1 (T : ElemT P t e α) (ty : TypeId) (hown : Own H base w e v xs) {x : α} {cs : List Value} {te : TypeId} (hx : Enc.rep H x cs) (hw : Holds H w) (hlen : (xs.length + 1) * Enc.by_ α ≤ 140737488355328) (h63 : xs.length + 1 ≤ 9223372036854775807) (hb : base ≤ w.heap.size) (c : Nat) :
    ∃ v' w', (Builtin.append_ #[t, t] ty #[v, .slice (some ⟨w.heap.size, 0, none⟩) 1 c]).run P (w.alloc (.cells cs.toArray te)) = .ok v' w' ∧ Own H base w' e v' (xs ++ [x]) ∧ (w.alloc (.cells cs.toArray te)).grownBy w' v.ownBlock ∧ Holds H w' ∧ (v'.ownBlock = v.ownBlock ∨ v'.ownBlock = some (w.heap.size + 1)) := by
  obtain ⟨i, z, hi, hz, hsz, hby, hzs⟩ := T.inf
  have hown1 := hown.alloc (.cells cs.toArray te)
  obtain ⟨cells, ho, hr, hf, hbv⟩ := hown1
  have hw1 := hw.alloc (.cells cs.toArray te)
  obtain ⟨v', w', hrun, ho', hg, _, hat⟩ := run_append_own_at (P := P) (w.alloc (.cells cs.toArray te)) base t ty e i z (Enc.sz α) (Enc.by_ α) T.und hi hz hsz hby hzs T.pos v xs.length cells ho ⟨w.heap.size, 0, none⟩ 1 c cs (by rw [Nat.one_mul]; exact Enc.len hx)
    (fun j u hu => by rw [Addr.add_lit, World.cell?_alloc_at _ _ _ _ rfl]; simpa using hu) (Enc.one hx) (by simp only [maxLen]; omega) hlen (by simp; omega)
  refine ⟨v', w', hrun, ⟨cells ++ cs, by rw [List.length_append]; exact ho', hr.append (reps.single hx), ?_, by rw [List.length_append]; exact hlen⟩, hg, hw1.grown hg hf, by simpa using hat⟩
  intro k hk
  rcases hat with h | h
  · exact hf k (h ▸ hk)
  · rw [h] at hk; simp only [World.size_alloc, Option.some.injEq] at hk; exact hw.none_of_ge (by omega)
end

section
variable {α : Type} [Enc α] {P : Program} {H : Snap} {base : Nat} {w : World} {t e : TypeId} {v : Value} {xs ys : List α} {ops : Array Oper} {rest : List Oper} {o : Oper} {a : Act} {Q : Exit → Act → World → Prop}

theorem wpList_app (T : ElemT P t e α) (hgd : o.guard = none) (s x : Operand) (ho : o.op = .call { callee := .builtin .append, args := #[s, x], argTypes := #[t, t] })
    (hs : a.eval s = v) (hown : Own H base w e v xs) {u : Value} (hx : a.eval x = u) (hu : Sl H u ys) (hw : Holds H w) (hlen : (xs.length + ys.length) * Enc.by_ α ≤ 140737488355328) (h63 : xs.length + ys.length ≤ 9223372036854775807) (hb : base ≤ w.heap.size)
    (h : ∀ v' w', Own H base w' e v' (xs ++ ys) → w.grownBy w' v.ownBlock → Holds H w' → (v'.ownBlock = v.ownBlock ∨ v'.ownBlock = some w.heap.size) → wpList P ops Q rest (a.put o.dst v') w') : wpList P ops Q (o :: rest) a w := by
  obtain ⟨v', w', hr, h2, h3, h4, h5⟩ := run_app (P := P) T o.type hown hu hw hlen h63 hb
  refine wpList_plain hgd fun K hK => ?_
  unfold Oper.wp execOp
  simp only [ho, resolve, invoke, builtin, Sem.run_bind, Sem.run_pure, Result.andThen_ok, List.map_toArray, List.map_cons, List.map_nil, hs, hx, hr]
  exact hK _ _ (h v' w' h2 h3 h4 h5)

theorem wpList_app1 (T : ElemT P t e α) (hgd : o.guard = none) (s y : Operand) (ho : o.op = .call { callee := .builtin .append, args := #[s, y], argTypes := #[t, t] })
    (hs : a.eval s = v) (hown : Own H base w e v xs) {x : α} {cs : List Value} {te : TypeId} {c : Nat} (hy : a.eval y = .slice (some ⟨w.heap.size, 0, none⟩) 1 c) (hx : Enc.rep H x cs) (hw : Holds H w) (hlen : (xs.length + 1) * Enc.by_ α ≤ 140737488355328) (h63 : xs.length + 1 ≤ 9223372036854775807) (hb : base ≤ w.heap.size)
    (h : ∀ v' w', Own H base w' e v' (xs ++ [x]) → (w.alloc (.cells cs.toArray te)).grownBy w' v.ownBlock → Holds H w' → (v'.ownBlock = v.ownBlock ∨ v'.ownBlock = some (w.heap.size + 1)) → wpList P ops Q rest (a.put o.dst v') w') : wpList P ops Q (o :: rest) a (w.alloc (.cells cs.toArray te)) := by
  obtain ⟨v', w', hr, h2, h3, h4, h5⟩ := run_app1 (P := P) (te := te) T o.type hown hx hw hlen h63 hb c
  refine wpList_plain hgd fun K hK => ?_
  unfold Oper.wp execOp
  simp only [ho, resolve, invoke, builtin, Sem.run_bind, Sem.run_pure, Result.andThen_ok, List.map_toArray, List.map_cons, List.map_nil, hs, hy, hr]
  exact hK _ _ (h v' w' h2 h3 h4 h5)

/-- A parameter that is boxed and never written: its block is frozen at once. -/
theorem wpList_boxF {t : TypeId} {w0 : World} {H0 : Snap} (hgd : o.guard = none) (y : Operand) (ho : o.op = .box t y) (hx : Ext w0 H0 w H)
    (h : ∀ B w1 H1, SLe H H1 → Ext w0 H0 w1 H1 → H1 B = some (.cells (a.eval y).cells t (0, 0)) → w0.heap.size ≤ B → wpList P ops Q rest (a.put o.dst (.pointer (some ⟨B, 0, none⟩))) w1) : wpList P ops Q (o :: rest) a w := by
  refine wpList_plain hgd fun K hK => ?_
  unfold Oper.wp execOp
  simp only [ho, Instr.box, newVar, newRow, Sem.run_bind, run_newObj, Sem.run_pure, Result.andThen_ok]
  have hn : H w.heap.size = none := hx.holds.none_of_ge (Nat.le_refl _)
  have hle := hx.below.size
  exact hK _ _ (h w.heap.size (w.alloc (.cells (a.eval y).cells t)) (H.put w.heap.size (.cells (a.eval y).cells t (0, 0))) (Snap.le_put hn _)
    ((hx.alloc _).freeze hle (heap_alloc_new w _)) (Snap.put_same _ _ _) hle)
end

theorem lift {H H' : Snap} (k : SLe H H') {p : World → Prop} (f : ∀ w, Holds H w → p w) : ∀ w, Holds H' w → p w := fun w h => f w (h.mono k)

theorem cellH {H : Snap} {b : Nat} {cs : Array Value} {t : TypeId} {fr : Nat × Nat} (h : H b = some (.cells cs t fr)) {w : World} (hw : Holds H w) (i : Nat) : w.cell? ⟨b, i, none⟩ = cs[i]? := by
  simp [World.cell?, hw.at_ _ _ h]

/-! ### A region that draws its order and only reads, or calls what hands back known values -/

/-- A world in which the snapshot holds, and in which nothing old has turned. -/
structure WB (H : Snap) (w0 : World) where
  w : World
  h : Holds H w
  b : Below w0.heap.size w0 w

theorem WB.holds {H : Snap} {w0 : World} (x : WB H w0) : Holds H x.w := x.h
theorem WB.old {H : Snap} {w0 : World} (x : WB H w0) (b o : Nat) (hb : b < w0.heap.size) : x.w.cell? ⟨b, o, none⟩ = w0.cell? ⟨b, o, none⟩ := bcell x.b b o hb

theorem wp_region_quietB {P : Program} {id : Nat} {l : List Oper} {a : Act} {w : World} {Q : Exit → Act → World → Prop} (H : Snap) (hm : P.follows .mixedOrders = true) (hB : Region.lexB .any l.toArray = true) (hw : Holds H w)
    (h : Nonempty (WB H w) → wpQuiet P l.toArray (fun w' => ∃ x : WB H w, w' = x.w) (fun a' => ∀ x : WB H w, Q .normal a' x.w) l a) : (Code.region id l.toArray true).wp P Q a w := by
  refine wp_region_quiet (C := fun w' => ∃ x : WB H w, w' = x.w) hm hB ⟨⟨w.drew, hw.drew, (Below.refl _ _).drew⟩, rfl⟩ ?_
  have e : (fun a' => ∀ w', (∃ x : WB H w, w' = x.w) → Q .normal a' w') = (fun a' => ∀ x : WB H w, Q .normal a' x.w) := by
    funext a'
    exact propext ⟨fun k x => k _ ⟨x, rfl⟩, fun k w' ⟨x, e⟩ => e ▸ k x⟩
  rw [e]
  exact h ⟨⟨w, hw, Below.refl _ _⟩⟩

theorem Calls.quietB {P : Program} {f : FuncId} {args : Array Value} {H : Snap} {w0 : World} {x : WB H w0} {v : Value} (h : Calls P f args x.w (PostV x.w v)) :
    Calls P f args x.w fun e w'' => e = .returned v ∧ ∃ y : WB H w0, w'' = y.w :=
  h.mono fun _e w'' ⟨he, hb⟩ => ⟨he, ⟨w'', x.h.below hb, x.b.trans (hb.mono x.b.size)⟩, rfl⟩
theorem Calls.quietS {P : Program} {f : FuncId} {args : Array Value} {H : Snap} {w0 : World} {x : WB H w0} {v : Value} (h : Calls P f args x.w fun e w' => e = .returned v ∧ x.w = w') :
    Calls P f args x.w fun e w'' => e = .returned v ∧ ∃ y : WB H w0, w'' = y.w :=
  h.mono fun _ _ ⟨he, hb⟩ => ⟨he, x, hb.symm⟩

/-! ### Lists of numbers of the call's own: read and written in place; made -/

theorem reps_int {H : Snap} : ∀ {xs : List Int} {cs : List Value}, reps H xs cs ↔ cs = xs.map (Value.int .i64) ∧ ∀ x ∈ xs, I64 x
  | [], cs => by simp [reps]
  | x :: xs, cs => by
    constructor
    · rintro ⟨c1, c2, rfl, ⟨rfl, hi⟩, h2⟩
      obtain ⟨rfl, h3⟩ := reps_int.1 h2
      exact ⟨by simp, by simpa using ⟨hi, h3⟩⟩
    · rintro ⟨rfl, h⟩
      exact ⟨[.int .i64 x], xs.map (Value.int .i64), by simp, ⟨rfl, h x (by simp)⟩, reps_int.2 ⟨rfl, fun y hy => h y (by simp [hy])⟩⟩

theorem heap_setCell_row {w : World} {g i : Nat} {cur : Array Value} {e : TypeId} (hg : w.heap[g]? = some (.cells cur e (0, 0))) (v : Value) : (w.setCell ⟨g, i, none⟩ v).heap[g]? = some (.cells (cur.setIfInBounds i v) e (0, 0)) := by
  obtain ⟨hlt, h'⟩ := Array.getElem?_eq_some_iff.1 hg
  show (w.heap.modify g _)[g]? = _
  rw [Array.getElem?_eq_getElem (by simpa using hlt), Array.getElem_modify_self, h']
  rfl

theorem Own.int_at {H : Snap} {base : Nat} {w : World} {e : TypeId} {v : Value} {xs : List Int} {i : Nat} {x : Int} (h : Own H base w e v xs) (hx : At xs i x) :
    ∃ g c, v = .slice (some ⟨g, 0, none⟩) xs.length c ∧ (-9223372036854775808 ≤ x ∧ x ≤ 9223372036854775807) ∧ w.cell? ⟨g, i, none⟩ = some (.int .i64 x) ∧ w.frozen? ⟨g, i, none⟩ = false ∧ base ≤ g ∧ H g = none ∧ g < w.heap.size ∧
      (∀ y : Int, (-9223372036854775808 ≤ y ∧ y ≤ 9223372036854775807) → Own H base (w.setCell ⟨g, i, none⟩ (.int .i64 y)) e v (xs.set i y)) := by
  obtain ⟨cells, ⟨hl, ho⟩, hr, hf, hb⟩ := h
  obtain ⟨rfl, hrange⟩ := reps_int.1 hr
  have hlt := hx.lt
  rcases ho with ⟨rfl, hn⟩ | ⟨g, cap, cur, rfl, hbg, hg, hnc, hcm, hcs, htake⟩
  · omega
  · simp only [Enc.sz, Nat.mul_one] at hl hcs htake
    have hcell : cur[i]? = some (.int .i64 x) := by
      have : (cur.toList.take xs.length)[i]? = some (.int .i64 x) := by rw [htake, List.getElem?_map, show xs[i]? = some x from hx]; rfl
      rw [List.getElem?_take, if_pos hlt] at this
      simpa using this
    refine ⟨g, cap, rfl, hrange x hx.mem, by rw [cell_of_row w g i cur e (0, 0) hg]; exact hcell, by simp [World.frozen?, hg], hbg, hf g rfl, (Array.getElem?_eq_some_iff.1 hg).1, fun y hy => ?_⟩
    refine ⟨(xs.set i y).map (Value.int .i64), ⟨by simp [Enc.sz], .inr ⟨g, cap, cur.setIfInBounds i (.int .i64 y), by rw [List.length_set], hbg, heap_setCell_row hg _, by rw [List.length_set]; exact hnc, hcm, by simp [Enc.sz, hcs], ?_⟩⟩,
      reps_int.2 ⟨rfl, fun z hz => by rcases List.mem_or_eq_of_mem_set hz with hz | rfl; exact hrange z hz; exact hy⟩, hf, by rw [List.length_set]; exact hb⟩
    simp only [Enc.sz, Nat.mul_one, List.length_set, Array.toList_setIfInBounds]
    rw [List.take_set, htake, List.map_set]

theorem Own.congr {α : Type} [Enc α] {H : Snap} {base : Nat} {w : World} {e : TypeId} {v : Value} {xs ys : List α} (h : Own H base w e v xs) (k : xs = ys) : Own H base w e v ys := k ▸ h

theorem wpList_makeI {P : Program} {H : Snap} {base : Nat} {w : World} {t e : TypeId} {ops : Array Oper} {rest : List Oper} {o : Oper} {a : Act} {Q : Exit → Act → World → Prop} (T : ElemT P t e Int) (hz : (P.info? e).map (·.zero) = some (some (.int .i64 0)))
    (hgd : o.guard = none) (x y : Operand) (ho : o.op = .makeSlice t x y) (n : Nat) (hx : a.eval x = .int .i64 (n : Int)) (hy : a.eval y = .int .i64 (n : Int)) (hn : n * 8 ≤ 140737488355328) (hw : Holds H w) (hb : base ≤ w.heap.size)
    (h : ∀ v' w', Own H base w' e v' (List.replicate n (0 : Int)) → w.grownBy w' none → Holds H w' → wpList P ops Q rest (a.put o.dst v') w') : wpList P ops Q (o :: rest) a w := by
  obtain ⟨i, z, hi, hz', hsz, hby, hzs⟩ := T.inf
  obtain rfl : z = .int .i64 0 := by rw [hi] at hz; simp at hz; rw [hz] at hz'; exact (Option.some.inj hz').symm
  obtain ⟨w', hr, ho', hg⟩ := run_make_full (P := P) w base t e i (.int .i64 0) (Enc.sz Int) T.und hi hz' hsz .i64 .i64 n (by rw [hby]; simp only [Enc.by_]; omega) (by simp only [maxLen]; omega) hb
  refine wpList_plain hgd fun K hK => ?_
  unfold Oper.wp execOp
  simp only [ho, hx, hy, Sem.run_bind, hr, Result.andThen_ok, Sem.run_pure]
  have hw' : Holds H w' := hw.grown hg (by simp)
  refine hK _ _ (h _ _ ⟨(madeCells (Value.int .i64 0).cells (n * Enc.sz Int)).toList, by simpa using ho', ?_, fun k hk => ?_, by simp [Enc.by_]; omega⟩ hg hw')
  · rw [reps_int]
    refine ⟨?_, fun x hx => by rw [List.eq_of_mem_replicate hx]; exact ⟨by omega, by omega⟩⟩
    simp [madeCells, Enc.sz, Value.cells]
    apply List.ext_getElem
    · simp
    · intro k _ _; simp [Nat.mod_one]
  · simp [Value.ownBlock] at hk; exact hw.none_of_ge (by omega)

end Go.Proofs.YthcfhmebikcfpaaGreatDoor

namespace Go.Proofs.YthcfhmebikcfpaaGreatDoor
open Go.RowKit

section
variable {α : Type} [Enc α] {P : Program} {H : Snap} {base : Nat} {w : World} {t e : TypeId} {v : Value} {xs ys : List α} {ops : Array Oper} {o : Oper} {a : Act} {Q : Exit → Act → World → Prop} {K : Act → World → Prop} {E : Prop}

theorem step_app (T : ElemT P t e α) (hgd : o.guard = none) (s x : Operand) (ho : o.op = .call { callee := .builtin .append, args := #[s, x], argTypes := #[t, t] })
    (hs : a.eval s = v) (hown : Own H base w e v xs) {u : Value} (hx : a.eval x = u) (hu : Sl H u ys) (hw : Holds H w) (hlen : (xs.length + ys.length) * Enc.by_ α ≤ 140737488355328) (h63 : xs.length + ys.length ≤ 9223372036854775807) (hb : base ≤ w.heap.size)
    (h : ∀ v' w', Own H base w' e v' (xs ++ ys) → w.grownBy w' v.ownBlock → Holds H w' → (v'.ownBlock = v.ownBlock ∨ v'.ownBlock = some w.heap.size) → K (a.put o.dst v') w') : if Region.wanted o (yielded ops a.tmps) = true then Oper.wp P o a w K Q else E := by
  obtain ⟨v', w', hr, h2, h3, h4, h5⟩ := run_app (P := P) T o.type hown hu hw hlen h63 hb
  rw [if_pos (by simp [Region.wanted, hgd])]
  unfold Oper.wp execOp
  simp only [ho, resolve, invoke, builtin, Sem.run_bind, Sem.run_pure, Result.andThen_ok, List.map_toArray, List.map_cons, List.map_nil, hs, hx, hr]
  exact h v' w' h2 h3 h4 h5

/-- 'append(v, x)' whose one element lies in some block. -/
theorem run_appC (T : ElemT P t e α) (ty : TypeId) (hown : Own H base w e v xs) {x : α} {cs : List Value} {g : Nat} (hx : Enc.rep H x cs) (hcs : ∀ (j : Nat) (u : Value), cs[j]? = some u → w.cell? ⟨g, j, none⟩ = some u) (hw : Holds H w) (hlen : (xs.length + 1) * Enc.by_ α ≤ 140737488355328) (h63 : xs.length + 1 ≤ 9223372036854775807) (hb : base ≤ w.heap.size) (c : Nat) :
    ∃ v' w', (Builtin.append_ #[t, t] ty #[v, .slice (some ⟨g, 0, none⟩) 1 c]).run P w = .ok v' w' ∧ Own H base w' e v' (xs ++ [x]) ∧ w.grownBy w' v.ownBlock ∧ Holds H w' ∧ (v'.ownBlock = v.ownBlock ∨ v'.ownBlock = some w.heap.size) := by
  obtain ⟨i, z, hi, hz, hsz, hby, hzs⟩ := T.inf
  obtain ⟨cells, ho, hr, hf, hbv⟩ := hown
  obtain ⟨v', w', hrun, ho', hg, _, hat⟩ := run_append_own_at (P := P) w base t ty e i z (Enc.sz α) (Enc.by_ α) T.und hi hz hsz hby hzs T.pos v xs.length cells ho ⟨g, 0, none⟩ 1 c cs (by rw [Nat.one_mul]; exact Enc.len hx)
    (fun j u hu => by rw [Addr.add_lit, Nat.zero_add]; exact hcs j u hu) (Enc.one hx) (by simp only [maxLen]; omega) hlen hb
  refine ⟨v', w', hrun, ⟨cells ++ cs, by rw [List.length_append]; exact ho', hr.append (reps.single hx), ?_, by rw [List.length_append]; exact hlen⟩, hg, hw.grown hg hf, hat⟩
  intro k hk
  rcases hat with h | h
  · exact hf k (h ▸ hk)
  · rw [h] at hk; simp only [Option.some.injEq] at hk; exact hw.none_of_ge (by omega)

theorem step_appC (T : ElemT P t e α) (hgd : o.guard = none) (s y : Operand) (ho : o.op = .call { callee := .builtin .append, args := #[s, y], argTypes := #[t, t] })
    (hs : a.eval s = v) (hown : Own H base w e v xs) {x : α} {cs : List Value} {g c : Nat} (hy : a.eval y = .slice (some ⟨g, 0, none⟩) 1 c) (hx : Enc.rep H x cs) (hcs : ∀ (j : Nat) (u : Value), cs[j]? = some u → w.cell? ⟨g, j, none⟩ = some u) (hw : Holds H w) (hlen : (xs.length + 1) * Enc.by_ α ≤ 140737488355328) (h63 : xs.length + 1 ≤ 9223372036854775807) (hb : base ≤ w.heap.size)
    (h : ∀ v' w', Own H base w' e v' (xs ++ [x]) → w.grownBy w' v.ownBlock → Holds H w' → (v'.ownBlock = v.ownBlock ∨ v'.ownBlock = some w.heap.size) → K (a.put o.dst v') w') : if Region.wanted o (yielded ops a.tmps) = true then Oper.wp P o a w K Q else E := by
  obtain ⟨v', w', hr, h2, h3, h4, h5⟩ := run_appC (P := P) T o.type hown hx hcs hw hlen h63 hb c
  rw [if_pos (by simp [Region.wanted, hgd])]
  unfold Oper.wp execOp
  simp only [ho, resolve, invoke, builtin, Sem.run_bind, Sem.run_pure, Result.andThen_ok, List.map_toArray, List.map_cons, List.map_nil, hs, hy, hr]
  exact h v' w' h2 h3 h4 h5

/-- An empty literal '[]T{}' that has just been made is the call's own. -/
theorem Own.empty (H : Snap) (hw : Holds H w) (hb : base ≤ w.heap.size) (_e' : TypeId) : Own H base (w.alloc (.cells #[] e)) e (.slice (some ⟨w.heap.size, 0, none⟩) 0 0) ([] : List α) :=
  ⟨[], World.ownsRow_made w #[] 0 hb (by simp [maxLen]) (by simp), rfl, fun k hk => by simp [Value.ownBlock] at hk; exact hw.none_of_ge (by omega), by simp⟩
end

section
variable {α : Type} [Enc α] {H : Snap} {base : Nat} {w : World} {e : TypeId} {v : Value} {xs : List α}

/-- An empty literal '[]T{}', wherever its block lies. -/
theorem Own.emptyAt {g : Nat} (hg : w.heap[g]? = some (.cells #[] e (0, 0))) (hb : base ≤ g) (hH : H g = none) : Own H base w e (.slice (some ⟨g, 0, none⟩) 0 0) ([] : List α) :=
  ⟨[], ⟨by simp, .inr ⟨g, 0, #[], rfl, hb, hg, by simp, by simp [maxLen], by simp, by simp⟩⟩, rfl, fun k hk => by simp [Value.ownBlock] at hk; subst hk; exact hH, by simp⟩
theorem Own.weaken {base' : Nat} (h : Own H base' w e v xs) (hb : base ≤ base') : Own H base w e v xs := by
  obtain ⟨cells, ⟨hl, ho⟩, hr⟩ := h
  refine ⟨cells, ⟨hl, ?_⟩, hr⟩
  rcases ho with hn | ⟨g, cap, cur, rfl, hbg, rest⟩
  · exact .inl hn
  · exact .inr ⟨g, cap, cur, rfl, Nat.le_trans hb hbg, rest⟩
theorem Ext.back {w0 w1 w2 : World} {H0 H1 H2 : Snap} (h : Ext w0 H0 w2 H2) (k : Ext w0 H0 w1 H1) (hle : SLe H1 H2) : Ext w0 H0 w2 H1 := ⟨h.below, h.holds.mono hle, k.same⟩

/-- A call leaves a list of its own: the caller may go on with it. -/
def PostO (w : World) (H : Snap) (e : TypeId) (xs : List α) (f : Ending) (w' : World) : Prop :=
  ∃ v H', f = .returned v ∧ Ext w H w' H' ∧ Own H' w.heap.size w' e v xs
theorem PostO.post {f : Ending} {w' : World} (h : PostO w H e xs f w') : Post w H (fun v H' => Sl H' v xs) f w' := by
  obtain ⟨v, H', rfl, hx, ho⟩ := h
  obtain ⟨H2, hx2, _, hs, _⟩ := ho.close hx
  exact ⟨v, H2, rfl, hx2, hs⟩
end

theorem PostO.up {α : Type} [Enc α] {w w1 : World} {H H1 : Snap} {e : TypeId} {xs : List α} {f : Ending} {w' : World} (h : PostO w1 H1 e xs f w') (hx : Ext w H w1 H1) : PostO w H e xs f w' := by
  obtain ⟨v, H', rfl, hx', ho⟩ := h
  exact ⟨v, H', rfl, hx.trans hx', ho.weaken hx.below.size⟩
theorem Post.up {w w1 : World} {H H1 : Snap} {R : Value → Snap → Prop} {f : Ending} {w' : World} (h : Post w1 H1 R f w') (hx : Ext w H w1 H1) : Post w H R f w' := by
  obtain ⟨v, H', rfl, hx', ho⟩ := h
  exact ⟨v, H', rfl, hx.trans hx', ho⟩

/-- A literal '[]T{..}' that has just been made is frozen. -/
theorem Ext.lit {α : Type} [Enc α] {w0 w : World} {H0 H : Snap} {xs : List α} {cs : List Value} (hx : Ext w0 H0 w H) (hr : reps H xs cs) (te : TypeId) (hb : xs.length * Enc.by_ α ≤ 140737488355328) (hc : xs.length ≤ 9223372036854775807) :
    ∃ H2, SLe H H2 ∧ Ext w0 H0 (w.alloc (.cells cs.toArray te)) H2 ∧ Sl H2 (.slice (some ⟨w.heap.size, 0, none⟩) xs.length xs.length) xs := by
  have hn : H w.heap.size = none := hx.holds.none_of_ge (Nat.le_refl _)
  have hle := Snap.le_put hn (.cells cs.toArray te (0, 0))
  refine ⟨_, hle, (hx.alloc (.cells cs.toArray te)).freeze hx.below.size (heap_alloc_new w _), _, _, rfl, Nat.le_refl _, hc, hb, ?_⟩
  refine .inr ⟨w.heap.size, 0, cs.toArray, te, (0, 0), rfl, Snap.put_same _ _ _, ?_, ?_⟩
  · simp [hr.len]
  · simp only [List.drop_zero]
    rw [← hr.len, List.take_length]
    exact hr.mono hle

/-- .. or is the call's own. -/
theorem Own.lit {α : Type} [Enc α] {w : World} {H : Snap} {base : Nat} {xs : List α} {cs : List Value} (hw : Holds H w) (hr : reps H xs cs) (te : TypeId) (hbase : base ≤ w.heap.size) (hb : xs.length * Enc.by_ α ≤ 140737488355328) (hc : xs.length ≤ 9223372036854775807) :
    Own H base (w.alloc (.cells cs.toArray te)) te (.slice (some ⟨w.heap.size, 0, none⟩) xs.length xs.length) xs :=
  ⟨cs, ⟨hr.len, .inr ⟨w.heap.size, xs.length, cs.toArray, rfl, hbase, heap_alloc_new w _, Nat.le_refl _, by simp only [maxLen]; omega, by simp [hr.len], by simp [← hr.len]⟩⟩, hr, fun k hk => by simp [Value.ownBlock] at hk; exact hw.none_of_ge (by omega), hb⟩

theorem one_cell {W : World} {g : Nat} {x : Value} (h0 : W.cell? ⟨g, 0, none⟩ = some x) : ∀ (j : Nat) (u : Value), [x][j]? = some u → W.cell? ⟨g, j, none⟩ = some u := by
  intro j u hu
  cases j with
  | zero => simp at hu; subst hu; exact h0
  | succ j => simp at hu

section
variable {α : Type} [Enc α] {P : Program} {H H0 : Snap} {w w0 : World} {t e : TypeId} {v : Value} {xs ys : List α} {ops : Array Oper} {o : Oper} {a : Act} {Q : Exit → Act → World → Prop} {K : Act → World → Prop} {E : Prop} {rest : List Oper}

theorem step_appX (T : ElemT P t e α) (hgd : o.guard = none) (s x : Operand) (ho : o.op = .call { callee := .builtin .append, args := #[s, x], argTypes := #[t, t] }) (hX : Ext w0 H0 w H)
    (hs : a.eval s = v) (hown : Own H w0.heap.size w e v xs) {u : Value} (hx : a.eval x = u) (hu : Sl H u ys) (hlen : (xs.length + ys.length) * Enc.by_ α ≤ 140737488355328) (h63 : xs.length + ys.length ≤ 9223372036854775807)
    (h : ∀ v' w', Own H w0.heap.size w' e v' (xs ++ ys) → Ext w0 H0 w' H → Holds H w' → w.grownBy w' v.ownBlock → K (a.put o.dst v') w') : if Region.wanted o (yielded ops a.tmps) = true then Oper.wp P o a w K Q else E :=
  step_app T hgd s x ho hs hown hx hu hX.holds hlen h63 hX.below.size fun v' w' h1 h2 h3 _ => h v' w' h1 (hX.grown h2 (fun k hk => (hown.lt k hk).1) (fun k hk => hown.free k hk)) h3 h2
theorem step_appCX (T : ElemT P t e α) (hgd : o.guard = none) (s y : Operand) (ho : o.op = .call { callee := .builtin .append, args := #[s, y], argTypes := #[t, t] }) (hX : Ext w0 H0 w H)
    (hs : a.eval s = v) (hown : Own H w0.heap.size w e v xs) {x : α} {cs : List Value} {g c : Nat} (hy : a.eval y = .slice (some ⟨g, 0, none⟩) 1 c) (hx : Enc.rep H x cs) (hcs : ∀ (j : Nat) (u : Value), cs[j]? = some u → w.cell? ⟨g, j, none⟩ = some u) (hlen : (xs.length + 1) * Enc.by_ α ≤ 140737488355328) (h63 : xs.length + 1 ≤ 9223372036854775807)
    (h : ∀ v' w', Own H w0.heap.size w' e v' (xs ++ [x]) → Ext w0 H0 w' H → Holds H w' → w.grownBy w' v.ownBlock → K (a.put o.dst v') w') : if Region.wanted o (yielded ops a.tmps) = true then Oper.wp P o a w K Q else E :=
  step_appC T hgd s y ho hs hown hy hx hcs hX.holds hlen h63 hX.below.size fun v' w' h1 h2 h3 _ => h v' w' h1 (hX.grown h2 (fun k hk => (hown.lt k hk).1) (fun k hk => hown.free k hk)) h3 h2
/-- The same outside a region that draws. -/
theorem wpList_appX (T : ElemT P t e α) (hgd : o.guard = none) (s x : Operand) (ho : o.op = .call { callee := .builtin .append, args := #[s, x], argTypes := #[t, t] }) (hX : Ext w0 H0 w H)
    (hs : a.eval s = v) (hown : Own H w0.heap.size w e v xs) {u : Value} (hx : a.eval x = u) (hu : Sl H u ys) (hlen : (xs.length + ys.length) * Enc.by_ α ≤ 140737488355328) (h63 : xs.length + ys.length ≤ 9223372036854775807)
    (h : ∀ v' w', Own H w0.heap.size w' e v' (xs ++ ys) → Ext w0 H0 w' H → Holds H w' → w.grownBy w' v.ownBlock → wpList P ops Q rest (a.put o.dst v') w') : wpList P ops Q (o :: rest) a w :=
  wpList_app T hgd s x ho hs hown hx hu hX.holds hlen h63 hX.below.size fun v' w' h1 h2 h3 _ => h v' w' h1 (hX.grown h2 (fun k hk => (hown.lt k hk).1) (fun k hk => hown.free k hk)) h3 h2
theorem wpList_app1X (T : ElemT P t e α) (hgd : o.guard = none) (s y : Operand) (ho : o.op = .call { callee := .builtin .append, args := #[s, y], argTypes := #[t, t] }) (hX : Ext w0 H0 w H)
    (hs : a.eval s = v) (hown : Own H w0.heap.size w e v xs) {x : α} {cs : List Value} {te : TypeId} {c : Nat} (hy : a.eval y = .slice (some ⟨w.heap.size, 0, none⟩) 1 c) (hx : Enc.rep H x cs) (hlen : (xs.length + 1) * Enc.by_ α ≤ 140737488355328) (h63 : xs.length + 1 ≤ 9223372036854775807)
    (h : ∀ v' w', Own H w0.heap.size w' e v' (xs ++ [x]) → Ext w0 H0 w' H → Holds H w' → wpList P ops Q rest (a.put o.dst v') w') : wpList P ops Q (o :: rest) a (w.alloc (.cells cs.toArray te)) :=
  wpList_app1 T hgd s y ho hs hown hy hx hX.holds hlen h63 hX.below.size fun v' w' h1 h2 h3 _ => h v' w' h1 ((hX.alloc _).grown h2 (fun k hk => (hown.lt k hk).1) (fun k hk => hown.free k hk)) h3
end

/-- .. one number; one list that lies in frozen blocks. -/
theorem wpList_app1I {P : Program} {H H0 : Snap} {w w0 : World} {t e : TypeId} {v : Value} {xs : List Int} {ops : Array Oper} {o : Oper} {a : Act} {Q : Exit → Act → World → Prop} {rest : List Oper} {te : TypeId} {c : Nat}
    (T : ElemT P t e Int) (s y : Operand) (hX : Ext w0 H0 w H) (hown : Own H w0.heap.size w e v xs) (x : Int) (hx : I64 x) (hlen : xs.length ≤ 1000000000)
    (hgd : o.guard = none) (ho : o.op = .call { callee := .builtin .append, args := #[s, y], argTypes := #[t, t] }) (hs : a.eval s = v) (hy : a.eval y = .slice (some ⟨w.heap.size, 0, none⟩) 1 c)
    (h : ∀ v' w', Own H w0.heap.size w' e v' (xs ++ [x]) → Ext w0 H0 w' H → Holds H w' → wpList P ops Q rest (a.put o.dst v') w') : wpList P ops Q (o :: rest) a (w.alloc (.cells #[.int .i64 x] te)) :=
  wpList_app1X (cs := [.int .i64 x]) T hgd s y ho hX hs hown hy ⟨rfl, hx⟩ (by simp [Enc.by_]; omega) (by omega) h
theorem wpList_app1L {α : Type} [Enc α] {P : Program} {H H0 : Snap} {w w0 : World} {t e : TypeId} {v u : Value} {xs : List (List α)} {ops : Array Oper} {o : Oper} {a : Act} {Q : Exit → Act → World → Prop} {rest : List Oper} {te : TypeId} {c : Nat}
    (T : ElemT P t e (List α)) (s y : Operand) (hX : Ext w0 H0 w H) (hown : Own H w0.heap.size w e v xs) (x : List α) (hx : Sl H u x) (hlen : xs.length ≤ 1000000000)
    (hgd : o.guard = none) (ho : o.op = .call { callee := .builtin .append, args := #[s, y], argTypes := #[t, t] }) (hs : a.eval s = v) (hy : a.eval y = .slice (some ⟨w.heap.size, 0, none⟩) 1 c)
    (h : ∀ v' w', Own H w0.heap.size w' e v' (xs ++ [x]) → Ext w0 H0 w' H → Holds H w' → wpList P ops Q rest (a.put o.dst v') w') : wpList P ops Q (o :: rest) a (w.alloc (.cells #[u] te)) :=
  wpList_app1X (cs := [u]) T hgd s y ho hX hs hown hy ⟨u, rfl, hx⟩ (by simp [Enc.by_]; omega) (by omega) h

/-- The beginning of a slice. -/
theorem Sl.take {α : Type} [Enc α] {H : Snap} {a : Option Addr} {n c : Nat} {xs : List α} (h : Sl H (.slice a n c) xs) {k : Nat} (hk : k ≤ xs.length) : Sl H (.slice a k c) (xs.take k) := by
  obtain ⟨a', c', e, h1, h2, h3, h4⟩ := h
  cases e
  have hlen : (xs.take k).length = k := by simp; omega
  refine ⟨a, c, by rw [hlen], by omega, h2, Nat.le_trans (Nat.mul_le_mul_right _ (by omega)) h3, ?_⟩
  rcases h4 with h4 | ⟨b, o, cur, e, fr, rfl, hb, ho, hr⟩
  · subst h4; simp
  · refine .inr ⟨b, o, cur, e, fr, rfl, hb, ?_, ?_⟩
    · rw [hlen]; exact Nat.le_trans (Nat.add_le_add_left (Nat.mul_le_mul_right _ hk) o) ho
    · rw [hlen]
      have e1 : xs = xs.take k ++ xs.drop k := (List.take_append_drop k xs).symm
      rw [e1] at hr
      obtain ⟨c1, c2, e2, hr1, _⟩ := hr.split
      have hl1 := hr1.len
      rw [hlen] at hl1
      have : (cur.toList.drop o).take (k * Enc.sz α) = c1 := by
        have h5 := congrArg (List.take (k * Enc.sz α)) e2
        rw [← hl1, List.take_left, hl1, List.take_take, Nat.min_eq_left (by rw [← e1]; exact Nat.mul_le_mul_right _ hk)] at h5
        exact h5
      rw [this]; exact hr1

end Go.Proofs.YthcfhmebikcfpaaGreatDoor

namespace Go.Proofs.YthcfhmebikcfpaaGreatDoor
open Go.RowKit

theorem Own.row_type {α : Type} [Enc α] {H : Snap} {base : Nat} {w : World} {e : TypeId} {v : Value} {xs : List α} (h : Own H base w e v xs) {k : Nat} (hk : v.ownBlock = some k) : ∃ cur, w.heap[k]? = some (.cells cur e (0, 0)) := by
  obtain ⟨cells, ⟨_, ho⟩, _⟩ := h
  rcases ho with ⟨rfl, _⟩ | ⟨g, cap, cur, rfl, _, hg, _⟩
  · simp [Value.ownBlock] at hk
  · simp [Value.ownBlock] at hk; subst hk; exact ⟨cur, hg⟩

/-- Two slices of the call's own whose elements are of different types lie apart. -/
theorem Own.apart {α β : Type} [Enc α] [Enc β] {H H' : Snap} {base base' : Nat} {w : World} {e e' : TypeId} {v u : Value} {xs : List α} {ys : List β} (h : Own H base w e v xs) (k : Own H' base' w e' u ys) (ne : e ≠ e') : v.ownBlock = none ∨ v.ownBlock ≠ u.ownBlock := by
  cases hv : v.ownBlock with
  | none => exact .inl rfl
  | some b =>
    refine .inr fun hu => ?_
    obtain ⟨c1, h1⟩ := h.row_type hv
    obtain ⟨c2, h2⟩ := k.row_type hu.symm
    rw [h1] at h2
    simp only [Option.some.injEq, Obj.cells.injEq] at h2
    exact ne h2.2.1
theorem Own.kept_other {α β : Type} [Enc α] [Enc β] {H H' : Snap} {base base' : Nat} {w w' : World} {e e' : TypeId} {v u : Value} {xs : List α} {ys : List β} (k : Own H' base' w e' u ys) (hg : w.grownBy w' u.ownBlock) (ne : e ≠ e') (h : Own H base w e v xs) : Own H base w' e v xs :=
  h.kept hg (h.apart k ne)
theorem Own.emptyG {α : Type} [Enc α] {H : Snap} {base g : Nat} {w : World} {e : TypeId} (hg : g = w.heap.size) (hw : Holds H w) (hb : base ≤ w.heap.size) : Own H base (w.alloc (.cells #[] e)) e (.slice (some ⟨g, 0, none⟩) 0 0) ([] : List α) := by
  subst hg; exact Own.empty H hw hb e

section
variable {α : Type} [Enc α] {P : Program} {H H0 : Snap} {w w0 : World} {base : Nat} {t e : TypeId} {v : Value} {ys : List α} {ops : Array Oper} {o : Oper} {a : Act} {Q : Exit → Act → World → Prop} {K : Act → World → Prop} {E : Prop}

/-- 'append([]T{}, ys...)' beside slices of other elements. -/
theorem step_appN (T : ElemT P t e α) (hgd : o.guard = none) (s x : Operand) (ho : o.op = .call { callee := .builtin .append, args := #[s, x], argTypes := #[t, t] }) (hX : Ext w0 H0 w H) (hbase : w0.heap.size ≤ base)
    (hs : a.eval s = v) (hown : Own H base w e v ([] : List α)) {u : Value} (hx : a.eval x = u) (hu : Sl H u ys) (hb : base ≤ w.heap.size)
    (h : ∀ v' w', Own H base w' e v' ys → Ext w0 H0 w' H → Holds H w' → base ≤ w'.heap.size →
      Below base w w' → (∀ (β : Type) [Enc β] (e' : TypeId) (u' : Value) (zs : List β), e' ≠ e → Own H base w e' u' zs → Own H base w' e' u' zs) → K (a.put o.dst v') w') : if Region.wanted o (yielded ops a.tmps) = true then Oper.wp P o a w K Q else E :=
  step_app T hgd s x ho hs hown hx hu hX.holds (by have := hu.bytes; simpa using this) (by have := hu.le; simpa using this) hb fun v' w' h1 h2 h3 _ =>
    h v' w' (by simpa using h1) (hX.grown h2 (fun k hk => Nat.le_trans hbase (hown.lt k hk).1) (fun k hk => hown.free k hk)) h3 (Nat.le_trans hb h2.size) ((Below.refl _ _).grown h2 hb (fun k hk => (hown.lt k hk).1))
      (fun _ _ _ _ _ ne hz => Own.kept_other hown h2 ne hz)
end

/-- A block of four cells that may be written. -/
def Rdy (rb : Nat) (t : TypeId) (w : World) : Prop := ∃ a b c d : Value, w.heap[rb]? = some (.cells #[a, b, c, d] t (0, 0))
theorem Rdy.drew {rb : Nat} {t : TypeId} {w : World} (h : Rdy rb t w) : Rdy rb t w.drew := h
theorem Rdy.lt {rb : Nat} {t : TypeId} {w : World} (h : Rdy rb t w) : rb < w.heap.size := by
  obtain ⟨a, b, c, d, e⟩ := h
  exact (Array.getElem?_eq_some_iff.1 e).1
theorem Rdy.alloc {rb : Nat} {t : TypeId} {w : World} (h : Rdy rb t w) (o : Obj) : Rdy rb t (w.alloc o) := by
  have hl := h.lt
  obtain ⟨a, b, c, d, e⟩ := h
  exact ⟨a, b, c, d, (heap_alloc_old w o hl).trans e⟩
theorem Rdy.below {rb base : Nat} {t : TypeId} {w w' : World} (h : Rdy rb t w) (hb : Below base w w') (hrb : rb < base) : Rdy rb t w' := by
  obtain ⟨a, b, c, d, e⟩ := h
  exact ⟨a, b, c, d, (hb.block rb hrb).trans e⟩
theorem Rdy.setCell {rb : Nat} {t : TypeId} {w : World} (h : Rdy rb t w) (i : Nat) (hi : i < 4) (v : Value) : Rdy rb t (w.setCell ⟨rb, i, none⟩ v) := by
  obtain ⟨a, b, c, d, e⟩ := h
  have := heap_setCell_row (i := i) e v
  match i, hi with
  | 0, _ => exact ⟨v, b, c, d, by simpa using this⟩
  | 1, _ => exact ⟨a, v, c, d, by simpa using this⟩
  | 2, _ => exact ⟨a, b, v, d, by simpa using this⟩
  | 3, _ => exact ⟨a, b, c, v, by simpa using this⟩
theorem Rdy.cell {rb : Nat} {t : TypeId} {w : World} (h : Rdy rb t w) (i : Nat) (hi : i < 4) : ∃ v, w.cell? ⟨rb, i, none⟩ = some v := by
  obtain ⟨a, b, c, d, e⟩ := h
  rw [cell_of_row w rb i _ _ _ e]
  exact ⟨_, Array.getElem?_eq_getElem (by simpa using hi)⟩
theorem Rdy.fz {rb : Nat} {t : TypeId} {w : World} (h : Rdy rb t w) (i : Nat) : w.frozen? ⟨rb, i, none⟩ = false := by
  obtain ⟨a, b, c, d, e⟩ := h
  simp [World.frozen?, e]
theorem Rdy.row {rb : Nat} {t : TypeId} {w : World} (h : Rdy rb t w) (u1 u2 u3 u4 : Value) : ((((w.setCell ⟨rb, 0, none⟩ u1).setCell ⟨rb, 1, none⟩ u2).setCell ⟨rb, 2, none⟩ u3).setCell ⟨rb, 3, none⟩ u4).heap[rb]? = some (.cells #[u1, u2, u3, u4] t (0, 0)) := by
  obtain ⟨a, b, c, d, e⟩ := h
  have h1 := heap_setCell_row (i := 0) e u1
  have h2 := heap_setCell_row (i := 1) h1 u2
  have h3 := heap_setCell_row (i := 2) h2 u3
  have h4 := heap_setCell_row (i := 3) h3 u4
  simpa using h4

end Go.Proofs.YthcfhmebikcfpaaGreatDoor

namespace Go.Proofs.YthcfhmebikcfpaaGreatDoor
open Go.RowKit

def MachRep (m : Mach) (cs : List Value) : Prop := cs = [.int .i64 m.r, .int .i64 m.p, .int .i64 m.s] ∧ (-9223372036854775808 ≤ m.r ∧ m.r ≤ 9223372036854775807) ∧ (-9223372036854775808 ≤ m.p ∧ m.p ≤ 9223372036854775807) ∧ (-9223372036854775808 ≤ m.s ∧ m.s ≤ 9223372036854775807)
def BundRep (b : Bund) (cs : List Value) : Prop := cs = [.int .i64 b.t, .int .i64 b.h, .int .i64 b.e] ∧ (-9223372036854775808 ≤ b.t ∧ b.t ≤ 9223372036854775807) ∧ (-9223372036854775808 ≤ b.h ∧ b.h ≤ 9223372036854775807) ∧ (-9223372036854775808 ≤ b.e ∧ b.e ≤ 9223372036854775807)

instance : Enc Mach where
  sz := 3
  by_ := 24
  rep := fun _ m cs => MachRep m cs
  len := fun h => by rw [h.1]; rfl
  mono := fun _ h => h
  one := fun h u hu => by rw [h.1] at hu; simp at hu; rcases hu with rfl | rfl | rfl <;> rfl

instance : Enc Bund where
  sz := 3
  by_ := 24
  rep := fun _ m cs => BundRep m cs
  len := fun h => by rw [h.1]; rfl
  mono := fun _ h => h
  one := fun h u hu => by rw [h.1] at hu; simp at hu; rcases hu with rfl | rfl | rfl <;> rfl

theorem Sl.mach {H : Snap} {v : Value} {xs : List Mach} {k : Nat} {x : Mach} (h : Sl H v xs) (hx : At xs k x) :
    ∃ b o c, v = .slice (some ⟨b, o, none⟩) xs.length c ∧ ((-9223372036854775808 ≤ x.r ∧ x.r ≤ 9223372036854775807) ∧ (-9223372036854775808 ≤ x.p ∧ x.p ≤ 9223372036854775807) ∧ (-9223372036854775808 ≤ x.s ∧ x.s ≤ 9223372036854775807)) ∧
      (∀ w, Holds H w → w.cell? ⟨b, o + k * 3, none⟩ = some (.int .i64 x.r)) ∧ (∀ w, Holds H w → w.cell? ⟨b, o + k * 3 + 1, none⟩ = some (.int .i64 x.p)) ∧ (∀ w, Holds H w → w.cell? ⟨b, o + k * 3 + 2, none⟩ = some (.int .i64 x.s)) := by
  obtain ⟨b, o, c, ds, hv, ⟨hd, hi⟩, hc⟩ := h.get hx
  refine ⟨b, o, c, hv, hi, fun w hw => ?_, fun w hw => ?_, fun w hw => ?_⟩
  · exact hc w hw 0 _ (by rw [hd]; rfl)
  · exact hc w hw 1 _ (by rw [hd]; rfl)
  · exact hc w hw 2 _ (by rw [hd]; rfl)

theorem Sl.bund {H : Snap} {v : Value} {xs : List Bund} {k : Nat} {x : Bund} (h : Sl H v xs) (hx : At xs k x) :
    ∃ b o c, v = .slice (some ⟨b, o, none⟩) xs.length c ∧ ((-9223372036854775808 ≤ x.t ∧ x.t ≤ 9223372036854775807) ∧ (-9223372036854775808 ≤ x.h ∧ x.h ≤ 9223372036854775807) ∧ (-9223372036854775808 ≤ x.e ∧ x.e ≤ 9223372036854775807)) ∧
      (∀ w, Holds H w → w.cell? ⟨b, o + k * 3, none⟩ = some (.int .i64 x.t)) ∧ (∀ w, Holds H w → w.cell? ⟨b, o + k * 3 + 1, none⟩ = some (.int .i64 x.h)) ∧ (∀ w, Holds H w → w.cell? ⟨b, o + k * 3 + 2, none⟩ = some (.int .i64 x.e)) := by
  obtain ⟨b, o, c, ds, hv, ⟨hd, hi⟩, hc⟩ := h.get hx
  refine ⟨b, o, c, hv, hi, fun w hw => ?_, fun w hw => ?_, fun w hw => ?_⟩
  · exact hc w hw 0 _ (by rw [hd]; rfl)
  · exact hc w hw 1 _ (by rw [hd]; rfl)
  · exact hc w hw 2 _ (by rw [hd]; rfl)

/-- A house value. -/
structure Hou (H : Snap) (vm vb vt : Value) (h : House) : Prop where
  m : Sl H vm h.ms
  b : Sl H vb h.bs
  t : Sl H vt h.ts
  c : -9223372036854775808 ≤ h.ch ∧ h.ch ≤ 9223372036854775807

abbrev houV (vm vb vt : Value) (h : House) : Value := .agg #[vm, vb, vt, .int .i64 h.ch]

theorem Hou.mono {H H' : Snap} (k : SLe H H') {vm vb vt : Value} {h : House} (x : Hou H vm vb vt h) : Hou H' vm vb vt h :=
  ⟨x.m.mono k, x.b.mono k, x.t.mono k, x.c⟩

/-- The four cells of a house that lies in a frozen block. -/
theorem cellsHou {H : Snap} {B : Nat} {vm vb vt : Value} {h : House} {t : TypeId} (e : H B = some (.cells (houV vm vb vt h).cells t (0, 0))) :
    (∀ w, Holds H w → w.cell? ⟨B, 0, none⟩ = some vm) ∧ (∀ w, Holds H w → w.cell? ⟨B, 1, none⟩ = some vb) ∧ (∀ w, Holds H w → w.cell? ⟨B, 2, none⟩ = some vt) ∧ (∀ w, Holds H w → w.cell? ⟨B, 3, none⟩ = some (.int .i64 h.ch)) :=
  ⟨fun _ hw => cellH e hw 0, fun _ hw => cellH e hw 1, fun _ hw => cellH e hw 2, fun _ hw => cellH e hw 3⟩

theorem eInt : ElemT Tryz.prog 92 3 Int := .mk' (.int .i64 0) Tryz.underlying92 (by kernel_rfl) rfl (by decide)
theorem eList : ElemT Tryz.prog 124 92 (List Int) := .mk' (.slice none 0 0) Tryz.underlying124 (by kernel_rfl) rfl (by decide)
end Go.Proofs.YthcfhmebikcfpaaGreatDoor
