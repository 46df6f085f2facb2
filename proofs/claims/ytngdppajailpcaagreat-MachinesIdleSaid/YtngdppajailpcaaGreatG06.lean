/- Lemmas and walks on which the claims of this seat lean: MPlain MShelf MMap MEach Cmp Open2 MData. -/
import Derived.Test.YtngdppajailpcaaGreatG01
import Derived.Test.YtngdppajailpcaaGreatG02
import Derived.Test.YtngdppajailpcaaGreatG05
import Derived.DeepKeys4
import Derived.Maps.RangeWalk
import Derived.WideKeyEntry
import Derived.Maps.Keyed
import Derived.Maps.Views
import Derived.Maps.OwnSet
import Derived.Deep.Slices
import Derived.SizedLaws
import Derived.OpenShut
import Derived.Lib.SmallJoins
import Derived.Deep.Strs

set_option linter.all false

namespace Go.Proofs.YtngdppajailpcaaGreat

structure Hall where
  hs : House
  bo : List Int
  ed : List (List Int)
  deriving DecidableEq, Inhabited
structure Plate where
  pg : Int
  br : Int
  mn : Int
  deriving DecidableEq, Inhabited

def validHall (h : Hall) : Bool :=
  valid h.hs && decide (h.bo.length = h.hs.ms.length) && decide (h.ed.length ≤ 4) && h.bo.all (fun b => within b 0 2) && h.ed.all (fun l => rising 0 3 l) && h.hs.bs.all (fun b => decide (b.e < h.ed.length))

/-- Counts: how many plates of each page and bore, in the order of sets (twelve numbers). -/
abbrev Cnt := List Int
def cntLe (a b : Cnt) : Bool := (a.zip b).all fun p => decide (p.1 ≤ p.2)
def cntMax (a b : Cnt) : Cnt := (a.zip b).map fun p => max p.1 p.2
def cntSum (a : Cnt) : Int := a.foldl (· + ·) 0
/-- What comes first of two: the fewer, of as many the one with more at the first place where they are not the same. -/
def cntLt (a b : Cnt) : Bool := decide (cntSum a < cntSum b) || (decide (cntSum a = cntSum b) && earlier b a)

def doesC (have_ : Cnt) (needs : List Cnt) : Bool := needs.any fun n => cntLe n have_
def doAllC (have_ : Cnt) (all : List (List Cnt)) : Bool := all.all (doesC have_)

/-- The least of some. -/
def leastC : List Cnt → Option Cnt
  | [] => none
  | a :: l => match leastC l with
    | none => some a
    | some b => if cntLt b a then some b else some a
/-- All that some choices come to. -/
def joinsC : List (List Cnt) → Cnt → List Cnt
  | [], c => [c]
  | l :: all, c => l.flatMap fun n => joinsC all (cntMax c n)

/-! ### The order of counts -/

theorem cntLe_refl : ∀ a : Cnt, cntLe a a = true
  | [] => rfl
  | x :: a => by
    have := cntLe_refl a
    simp only [cntLe, List.zip_cons_cons, List.all_cons, Bool.and_eq_true, decide_eq_true_eq] at this ⊢
    exact ⟨Int.le_refl _, this⟩
theorem cntLe_cons {x y : Int} {a b : Cnt} : cntLe (x :: a) (y :: b) = true ↔ x ≤ y ∧ cntLe a b = true := by
  simp [cntLe]
theorem cntLe_trans : ∀ {a b c : Cnt}, a.length = b.length → b.length = c.length → cntLe a b = true → cntLe b c = true → cntLe a c = true
  | [], [], [], _, _, _, _ => rfl
  | x :: a, y :: b, z :: c, h1, h2, h3, h4 => by
    rw [cntLe_cons] at *
    exact ⟨Int.le_trans h3.1 h4.1, cntLe_trans (by simpa using h1) (by simpa using h2) h3.2 h4.2⟩
theorem cntMax_len {a b : Cnt} (h : a.length = b.length) : (cntMax a b).length = a.length := by simp [cntMax, h]
theorem cntMax_cons (x y : Int) (a b : Cnt) : cntMax (x :: a) (y :: b) = max x y :: cntMax a b := rfl
theorem cntMax_mono : ∀ {a b c d : Cnt}, a.length = b.length → b.length = c.length → c.length = d.length → cntLe a b = true → cntLe c d = true → cntLe (cntMax a c) (cntMax b d) = true
  | [], [], [], [], _, _, _, _, _ => rfl
  | x :: a, y :: b, z :: c, u :: d, h1, h2, h3, h4, h5 => by
    rw [cntLe_cons] at h4 h5
    rw [cntMax_cons, cntMax_cons, cntLe_cons]
    exact ⟨by omega, cntMax_mono (by simpa using h1) (by simpa using h2) (by simpa using h3) h4.2 h5.2⟩
theorem foldl_add (a : Cnt) : ∀ z : Int, a.foldl (· + ·) z = z + cntSum a := by
  unfold cntSum
  induction a with
  | nil => intro z; simp
  | cons x a ih => intro z; simp only [List.foldl_cons]; rw [ih, ih (0 + x)]; omega
theorem cntSum_cons (x : Int) (a : Cnt) : cntSum (x :: a) = x + cntSum a := by
  show (x :: a).foldl (· + ·) 0 = _
  rw [List.foldl_cons, foldl_add]; omega
theorem cntLe_sum : ∀ {a b : Cnt}, a.length = b.length → cntLe a b = true → cntSum a ≤ cntSum b ∧ (cntSum a = cntSum b → a = b)
  | [], [], _, _ => ⟨Int.le_refl _, fun _ => rfl⟩
  | x :: a, y :: b, hl, h => by
    rw [cntLe_cons] at h
    have ih := cntLe_sum (a := a) (b := b) (by simpa using hl) h.2
    rw [cntSum_cons, cntSum_cons]
    exact ⟨by omega, fun e => by rw [show x = y by omega, ih.2 (by omega)]⟩
theorem earlier_irrefl : ∀ a : List Int, earlier a a = false
  | [] => rfl
  | x :: a => by simp [earlier, earlier_irrefl a]
theorem earlier_tri : ∀ {a b : List Int}, a.length = b.length → a = b ∨ earlier a b = true ∨ earlier b a = true
  | [], [], _ => .inl rfl
  | x :: a, y :: b, hl => by
    rcases Int.lt_trichotomy x y with h | h | h
    · exact .inr (.inl (by simp [earlier, show x ≠ y by omega, h]))
    · subst h
      rcases earlier_tri (a := a) (b := b) (by simpa using hl) with e | e | e
      · exact .inl (by rw [e])
      · exact .inr (.inl (by simp [earlier, e]))
      · exact .inr (.inr (by simp [earlier, e]))
    · exact .inr (.inr (by simp [earlier, show y ≠ x by omega, h]))
theorem earlier_trans : ∀ {a b c : List Int}, earlier a b = true → earlier b c = true → earlier a c = true
  | [], _, _, h, _ => by simp [earlier] at h
  | _ :: _, [], _, h, _ => by simp [earlier] at h
  | _ :: _, _ :: _, [], _, h => by simp [earlier] at h
  | x :: a, y :: b, z :: c, h1, h2 => by
    simp only [earlier] at *
    split at h1
    · rename_i e; subst e
      split at h2
      · rename_i e; subst e; rw [if_pos rfl]; exact earlier_trans h1 h2
      · rename_i e; rw [if_neg e]; exact h2
    · rename_i e
      have h1' := of_decide_eq_true h1
      split at h2
      · rename_i e2; subst e2; rw [if_neg e]; exact h1
      · have h2' := of_decide_eq_true h2
        rw [if_neg (by omega)]; exact decide_eq_true (by omega)
theorem cntLt_irrefl (a : Cnt) : cntLt a a = false := by simp [cntLt, earlier_irrefl]
theorem cntLt_iff {a b : Cnt} : cntLt a b = true ↔ cntSum a < cntSum b ∨ (cntSum a = cntSum b ∧ earlier b a = true) := by simp [cntLt]
theorem cntLt_trans {a b c : Cnt} (h1 : cntLt a b = true) (h2 : cntLt b c = true) : cntLt a c = true := by
  rw [cntLt_iff] at *
  rcases h1 with h1 | ⟨h1, e1⟩ <;> rcases h2 with h2 | ⟨h2, e2⟩
  · exact .inl (by omega)
  · exact .inl (by omega)
  · exact .inl (by omega)
  · exact .inr ⟨by omega, earlier_trans e2 e1⟩
theorem cntLt_tri {a b : Cnt} (hl : a.length = b.length) : a = b ∨ cntLt a b = true ∨ cntLt b a = true := by
  simp only [cntLt_iff]
  rcases Int.lt_trichotomy (cntSum a) (cntSum b) with h | h | h
  · exact .inr (.inl (.inl h))
  · rcases earlier_tri hl with e | e | e
    · exact .inl e
    · exact .inr (.inr (.inr ⟨h.symm, e⟩))
    · exact .inr (.inl (.inr ⟨h, e⟩))
  · exact .inr (.inr (.inl h))
theorem cntLe_lt {a b : Cnt} (hl : a.length = b.length) (h : cntLe a b = true) : a = b ∨ cntLt a b = true := by
  have := cntLe_sum hl h
  by_cases e : cntSum a = cntSum b
  · exact .inl (this.2 e)
  · exact .inr (cntLt_iff.2 (.inl (by omega)))

theorem leastC_none : ∀ {l : List Cnt}, leastC l = none ↔ l = []
  | [] => by simp [leastC]
  | a :: l => by
    simp only [leastC]
    cases leastC l with
    | none => simp
    | some b => simp only; split <;> simp
theorem leastC_some {n : Nat} : ∀ {l : List Cnt} {x : Cnt}, (∀ y ∈ l, y.length = n) → leastC l = some x → x ∈ l ∧ ∀ y ∈ l, cntLt y x = false
  | [], x, _, h => by simp [leastC] at h
  | a :: l, x, hn, h => by
    simp only [leastC] at h
    cases e : leastC l with
    | none =>
      rw [e] at h
      rw [leastC_none.1 e] at *
      simp only [Option.some.injEq] at h
      subst h
      exact ⟨by simp, fun y hy => by rw [List.mem_singleton.1 hy]; exact cntLt_irrefl _⟩
    | some b =>
      rw [e] at h
      have ih := leastC_some (fun y hy => hn y (by simp [hy])) e
      simp only at h
      split at h
      · rename_i hb
        simp only [Option.some.injEq] at h
        subst h
        refine ⟨by simp [ih.1], fun y hy => ?_⟩
        rcases List.mem_cons.1 hy with rfl | hy
        · cases hc : cntLt y b
          · rfl
          · have := cntLt_trans hb hc; rw [cntLt_irrefl] at this; cases this
        · exact ih.2 y hy
      · rename_i hb
        simp only [Option.some.injEq] at h
        subst h
        refine ⟨by simp, fun y hy => ?_⟩
        rcases List.mem_cons.1 hy with rfl | hy
        · exact cntLt_irrefl _
        · cases hc : cntLt y a
          · rfl
          · rcases cntLt_tri (a := a) (b := b) (by rw [hn a (by simp), hn b (by simp [ih.1])]) with e2 | e2 | e2
            · subst e2; rw [ih.2 y hy] at hc; cases hc
            · have := cntLt_trans hc e2; rw [ih.2 y hy] at this; cases this
            · rw [e2] at hb; simp at hb
/-- Two lists each of which lies above the other have the same least one. -/
theorem leastC_same {n : Nat} {l m : List Cnt} (hl : ∀ y ∈ l, y.length = n) (hm : ∀ y ∈ m, y.length = n) (h1 : ∀ x ∈ l, ∃ y ∈ m, cntLe y x = true) (h2 : ∀ x ∈ m, ∃ y ∈ l, cntLe y x = true) : leastC l = leastC m := by
  cases e1 : leastC l with
  | none =>
    have := leastC_none.1 e1
    subst this
    cases e2 : leastC m with
    | none => rfl
    | some y =>
      obtain ⟨x, hx, _⟩ := h2 y (leastC_some hm e2).1
      simp at hx
  | some x =>
    cases e2 : leastC m with
    | none =>
      have := leastC_none.1 e2
      subst this
      obtain ⟨y, hy, _⟩ := h1 x (leastC_some hl e1).1
      simp at hy
    | some y =>
      obtain ⟨hx, hx2⟩ := leastC_some hl e1
      obtain ⟨hy, hy2⟩ := leastC_some hm e2
      obtain ⟨y', hy', hle⟩ := h1 x hx
      obtain ⟨x', hx', hle'⟩ := h2 y hy
      have a1 := cntLe_lt (by rw [hm y' hy', hl x hx]) hle
      have a2 := cntLe_lt (by rw [hl x' hx', hm y hy]) hle'
      rcases cntLt_tri (a := x) (b := y) (by rw [hl x hx, hm y hy]) with e | e | e
      · rw [e]
      · exfalso
        rcases a1 with rfl | a1
        · rw [hy2 y' hy'] at e; cases e
        · have := cntLt_trans a1 e; rw [hy2 y' hy'] at this; cases this
      · exfalso
        rcases a2 with rfl | a2
        · rw [hx2 x' hx'] at e; cases e
        · have := cntLt_trans a2 e; rw [hx2 x' hx'] at this; cases this

/-- Each of l lies above one of m. -/
def Dom (l m : List Cnt) : Prop := ∀ x ∈ l, ∃ y ∈ m, cntLe y x = true
def Six (n : Nat) (l : List Cnt) : Prop := ∀ y ∈ l, y.length = n
inductive Doms : List (List Cnt) → List (List Cnt) → Prop
  | nil : Doms [] []
  | cons {l l' : List Cnt} {all all' : List (List Cnt)} : Dom l l' → Doms all all' → Doms (l :: all) (l' :: all')
theorem joinsC_len {n : Nat} : ∀ {all : List (List Cnt)} {c : Cnt}, (∀ l ∈ all, Six n l) → c.length = n → Six n (joinsC all c)
  | [], c, _, hc, y, hy => by rw [List.mem_singleton.1 hy]; exact hc
  | l :: all, c, h, hc, y, hy => by
    obtain ⟨x, hx, hy⟩ := List.mem_flatMap.1 hy
    exact joinsC_len (fun l' hl' => h l' (by simp [hl'])) (by rw [cntMax_len (by rw [hc, h l (by simp) x hx]), hc]) y hy
theorem joinsC_dom {n : Nat} : ∀ {all all' : List (List Cnt)} {c c' : Cnt}, (∀ l ∈ all, Six n l) → (∀ l ∈ all', Six n l) → c.length = n → c'.length = n → Doms all all' → cntLe c' c = true → Dom (joinsC all c) (joinsC all' c')
  | [], [], c, c', _, _, _, _, _, hc, x, hx => by
    rw [List.mem_singleton.1 hx]
    exact ⟨c', by simp [joinsC], hc⟩
  | l :: all, l' :: all', c, c', h, h', hc, hc', .cons hd hr, hle, x, hx => by
    obtain ⟨a, ha, hx⟩ := List.mem_flatMap.1 hx
    obtain ⟨b, hb, hba⟩ := hd a ha
    have e1 := h l (by simp) a ha
    have e2 := h' l' (by simp) b hb
    obtain ⟨y, hy, hyx⟩ := joinsC_dom (fun k hk => h k (by simp [hk])) (fun k hk => h' k (by simp [hk])) (by rw [cntMax_len (by rw [hc, e1]), hc]) (by rw [cntMax_len (by rw [hc', e2]), hc']) hr
      (cntMax_mono (by rw [hc', hc]) (by rw [hc, e2]) (by rw [e2, e1]) hle hba) x hx
    exact ⟨y, List.mem_flatMap.2 ⟨b, hb, hy⟩, hyx⟩
theorem doesC_dom {n : Nat} {h : Cnt} {l m : List Cnt} (hh : h.length = n) (hl : Six n l) (hm : Six n m) (d1 : Dom l m) (d2 : Dom m l) : doesC h l = doesC h m := by
  have key : ∀ {a b : List Cnt}, Six n a → Six n b → Dom a b → doesC h a = true → doesC h b = true := by
    intro a b ha hb d hd
    unfold doesC at *
    obtain ⟨x, hx, hle⟩ := List.any_eq_true.1 hd
    obtain ⟨y, hy, hyx⟩ := d x hx
    exact List.any_eq_true.2 ⟨y, hy, cntLe_trans (by rw [hb y hy, ha x hx]) (by rw [ha x hx, hh]) hyx hle⟩
  rw [Bool.eq_iff_iff]
  exact ⟨key hl hm d1, key hm hl d2⟩
/-- Those of some that lie above no other one serve as well. -/
theorem dom_sub {l m : List Cnt} (h : ∀ x ∈ m, x ∈ l) : Dom m l := fun x hx => ⟨x, h x hx, cntLe_refl x⟩

/-! ### Twelve numbers -/

def mk12 (f : Nat → Int) : Cnt := (List.range 12).map f
theorem mk12_len (f : Nat → Int) : (mk12 f).length = 12 := by simp [mk12]
theorem mk12_at (f : Nat → Int) {k : Nat} (h : k < 12) : (mk12 f)[k]? = some (f k) := by
  unfold mk12; rw [List.getElem?_map, List.getElem?_range h]; rfl
theorem mk12_get (f : Nat → Int) {k : Nat} (h : k < 12) : (mk12 f).getD k 0 = f k := by
  rw [List.getD_eq_getElem?_getD, mk12_at f h]; rfl
theorem eq_mk12 {c : Cnt} (h : c.length = 12) : c = mk12 (fun k => c.getD k 0) := by
  apply List.ext_getElem?
  intro k
  by_cases hk : k < 12
  · rw [mk12_at _ hk, List.getD_eq_getElem?_getD, List.getElem?_eq_getElem (by omega)]; rfl
  · rw [List.getElem?_eq_none (by omega), List.getElem?_eq_none (by rw [mk12_len]; omega)]
theorem mk12_congr {f g : Nat → Int} (h : ∀ k, k < 12 → f k = g k) : mk12 f = mk12 g := by
  unfold mk12; exact List.map_congr_left fun k hk => h k (List.mem_range.1 hk)
theorem mk12_ext {a b : Cnt} (ha : a.length = 12) (hb : b.length = 12) (h : ∀ k, k < 12 → a.getD k 0 = b.getD k 0) : a = b := by
  rw [eq_mk12 ha, eq_mk12 hb]; exact mk12_congr h
theorem mk12_set (f : Nat → Int) (i : Nat) (v : Int) : (mk12 f).set i v = mk12 (fun k => if k = i then v else f k) := by
  apply List.ext_getElem?
  intro k
  by_cases hk : k < 12
  · rw [mk12_at _ hk, List.getElem?_set]
    split
    · rename_i e; subst e; rw [if_pos (by rw [mk12_len]; exact hk), if_pos rfl]
    · rename_i e; rw [mk12_at _ hk, if_neg (fun h => e h.symm)]
  · rw [List.getElem?_eq_none (by rw [List.length_set, mk12_len]; omega), List.getElem?_eq_none (by rw [mk12_len]; omega)]
theorem getD_set12 {c : Cnt} {i k : Nat} {v : Int} (hi : i < c.length) : (c.set i v).getD k 0 = if k = i then v else c.getD k 0 := by
  rw [List.getD_eq_getElem?_getD, List.getD_eq_getElem?_getD, List.getElem?_set]
  by_cases e : k = i
  · subst e; rw [if_pos rfl, if_pos hi, if_pos rfl]; rfl
  · rw [if_neg (fun h => e h.symm), if_neg e]
theorem zip12 (g : Int → Int → Int) (a b : Cnt) (ha : a.length = 12) (hb : b.length = 12) : List.zipWith g a b = mk12 (fun k => g (a.getD k 0) (b.getD k 0)) := by
  apply List.ext_getElem?
  intro k
  by_cases hk : k < 12
  · rw [mk12_at _ hk, List.getElem?_zipWith, List.getElem?_eq_getElem (by omega), List.getElem?_eq_getElem (by omega), List.getD_eq_getElem?_getD, List.getD_eq_getElem?_getD, List.getElem?_eq_getElem (by omega), List.getElem?_eq_getElem (by omega)]; rfl
  · rw [List.getElem?_eq_none (by rw [List.length_zipWith]; omega), List.getElem?_eq_none (by rw [mk12_len]; omega)]
theorem cntMax_zip (a b : Cnt) : cntMax a b = List.zipWith max a b := by
  unfold cntMax
  rw [List.zip, List.map_zipWith]
theorem cntLe_iff {a b : Cnt} (ha : a.length = 12) (hb : b.length = 12) : cntLe a b = true ↔ ∀ k, k < 12 → a.getD k 0 ≤ b.getD k 0 := by
  unfold cntLe
  rw [List.all_eq_true]
  constructor
  · intro h k hk
    have := h (a[k], b[k]) (by
      rw [List.mem_iff_getElem]
      exact ⟨k, by simp; omega, by simp⟩)
    simp only [decide_eq_true_eq] at this
    rw [List.getD_eq_getElem?_getD, List.getD_eq_getElem?_getD, List.getElem?_eq_getElem (by omega), List.getElem?_eq_getElem (by omega)]
    exact this
  · intro h p hp
    obtain ⟨k, hk, rfl⟩ := List.mem_iff_getElem.1 hp
    simp only [List.length_zip] at hk
    have := h k (by omega)
    rw [List.getD_eq_getElem?_getD, List.getD_eq_getElem?_getD, List.getElem?_eq_getElem (by omega), List.getElem?_eq_getElem (by omega)] at this
    simpa using this

/-- Twelve small numbers. -/
structure Cn (c : Cnt) : Prop where
  len : c.length = 12
  bd : ∀ x ∈ c, 0 ≤ x ∧ x ≤ 1000
theorem Cn.at_ {c : Cnt} (h : Cn c) {k : Nat} (hk : k < 12) : c[k]? = some (c.getD k 0) ∧ 0 ≤ c.getD k 0 ∧ c.getD k 0 ≤ 1000 := by
  have e : c[k]? = some (c[k]'(by rw [h.len]; exact hk)) := List.getElem?_eq_getElem _
  have e2 : c.getD k 0 = c[k]'(by rw [h.len]; exact hk) := by rw [List.getD_eq_getElem?_getD, e]; rfl
  rw [e2]
  exact ⟨e, h.bd _ (List.getElem_mem _)⟩
theorem Cn.mk12 {f : Nat → Int} (h : ∀ k, k < 12 → 0 ≤ f k ∧ f k ≤ 1000) : Cn (mk12 f) :=
  ⟨mk12_len f, fun x hx => by
    obtain ⟨k, hk, rfl⟩ := List.mem_map.1 hx
    exact h k (List.mem_range.1 hk)⟩
theorem Cn.of {c : Cnt} (hl : c.length = 12) (h : ∀ k, k < 12 → 0 ≤ c.getD k 0 ∧ c.getD k 0 ≤ 1000) : Cn c := by rw [eq_mk12 hl]; exact Cn.mk12 h
def zero12 : Cnt := mk12 (fun _ => 0)
theorem Cn.zero : Cn zero12 := Cn.mk12 fun _ _ => ⟨by omega, by omega⟩
theorem sum_bd : ∀ {c : List Int} {M : Int}, (∀ x ∈ c, 0 ≤ x ∧ x ≤ M) → 0 ≤ cntSum c ∧ cntSum c ≤ M * c.length
  | [], M, _ => by simp [cntSum]
  | x :: c, M, h => by
    have h1 := sum_bd (c := c) (M := M) fun y hy => h y (by simp [hy])
    have h2 := h x (by simp)
    rw [cntSum_cons, List.length_cons, Int.natCast_add, Int.mul_add]
    omega
theorem Cn.sum {c : Cnt} (h : Cn c) : 0 ≤ cntSum c ∧ cntSum c ≤ 12000 := by
  have := sum_bd h.bd
  rw [h.len] at this
  omega

/-- The number at a place (a word that simp does not look through). -/
def gT (c : Cnt) (k : Nat) : Int := c.getD k 0
theorem Cn.gt {c : Cnt} (h : Cn c) {k : Nat} (hk : k < 12) : c[k]? = some (gT c k) ∧ 0 ≤ gT c k ∧ gT c k ≤ 1000 := h.at_ hk
theorem gt_mk (f : Nat → Int) {k : Nat} (h : k < 12) : gT (mk12 f) k = f k := mk12_get f h
theorem gt_set {c : Cnt} {i k : Nat} {v : Int} (hi : i < c.length) : gT (c.set i v) k = if k = i then v else gT c k := getD_set12 hi
theorem gt_ext {a b : Cnt} (ha : a.length = 12) (hb : b.length = 12) (h : ∀ k, k < 12 → gT a k = gT b k) : a = b := mk12_ext ha hb h
theorem gt_zero {k : Nat} (h : k < 12) : gT zero12 k = 0 := gt_mk _ h

/-! ### Sets of plates -/

/-- The place of a plate in the order of sets. -/
def plc (p : Plate) : Int := p.pg * 3 + p.br
def okPlate (p : Plate) : Bool := within p.pg 0 3 && within p.br 0 2 && within p.mn 1 9
def setOk (l : List Plate) : Bool := l.all okPlate && rising 0 11 (l.map plc)
theorem okPlate_iff {p : Plate} : okPlate p = true ↔ (0 ≤ p.pg ∧ p.pg ≤ 3) ∧ (0 ≤ p.br ∧ p.br ≤ 2) ∧ (1 ≤ p.mn ∧ p.mn ≤ 9) := by
  simp only [okPlate, Bool.and_eq_true, within_iff, and_assoc]
theorem okPlate_plc {p : Plate} (h : okPlate p = true) : 0 ≤ plc p ∧ plc p ≤ 11 := by
  rw [okPlate_iff] at h; unfold plc; omega
theorem setOk_iff {l : List Plate} : setOk l = true ↔ (∀ p ∈ l, okPlate p = true) ∧ (l.map plc).Pairwise (· < ·) := by
  simp only [setOk, Bool.and_eq_true, List.all_eq_true, rising_iff]
  constructor
  · rintro ⟨h1, _, h2⟩; exact ⟨h1, h2⟩
  · rintro ⟨h1, h2⟩
    refine ⟨h1, fun x hx => ?_, h2⟩
    obtain ⟨p, hp, rfl⟩ := List.mem_map.1 hx
    exact okPlate_plc (h1 p hp)
theorem setOk_pre {l r : List Plate} (h : setOk (l ++ r) = true) : setOk l = true := by
  rw [setOk_iff] at *
  refine ⟨fun p hp => h.1 p (List.mem_append_left _ hp), ?_⟩
  rw [List.map_append, List.pairwise_append] at h
  exact h.2.1
theorem setOk_nil : setOk [] = true := rfl
theorem setOk_len {l : List Plate} (h : setOk l = true) : l.length ≤ 12 := by
  rw [setOk_iff] at h
  have := nodup_len 12 (l.map plc) (fun x hx => by
    obtain ⟨p, hp, rfl⟩ := List.mem_map.1 hx
    have := okPlate_plc (h.1 p hp); omega) (h.2.imp (fun {a b} hab => by omega))
  simpa using this

/-- One plate is put to the counts; (of the program) lies there. -/
def addP (c : Cnt) (p : Plate) : Cnt := c.set (plc p).toNat (gT c (plc p).toNat + p.mn)
def setP (c : Cnt) (p : Plate) : Cnt := c.set (plc p).toNat p.mn
def countsOf (l : List Plate) : Cnt := l.foldl addP zero12
def shelvedOf (l : List Plate) : Cnt := l.foldl setP zero12
theorem countsOf_snoc (l : List Plate) (p : Plate) : countsOf (l ++ [p]) = addP (countsOf l) p := by unfold countsOf; rw [List.foldl_append]; rfl
theorem shelvedOf_snoc (l : List Plate) (p : Plate) : shelvedOf (l ++ [p]) = setP (shelvedOf l) p := by unfold shelvedOf; rw [List.foldl_append]; rfl
theorem foldl_len {f : Cnt → Plate → Cnt} (hf : ∀ c p, (f c p).length = c.length) : ∀ (l : List Plate) (c : Cnt), (l.foldl f c).length = c.length
  | [], _ => rfl
  | p :: l, c => by rw [List.foldl_cons, foldl_len hf l, hf]
theorem countsOf_len (l : List Plate) : (countsOf l).length = 12 := (foldl_len (fun c p => by simp [addP]) l zero12).trans (mk12_len _)
theorem shelvedOf_len (l : List Plate) : (shelvedOf l).length = 12 := (foldl_len (fun c p => by simp [setP]) l zero12).trans (mk12_len _)
theorem snoc_ind {α : Type} {p : List α → Prop} (h0 : p []) (h1 : ∀ l x, p l → p (l ++ [x])) : ∀ l, p l := fun l => by
  have : ∀ r : List α, p r.reverse := fun r => by
    induction r with
    | nil => exact h0
    | cons x r ih => rw [List.reverse_cons]; exact h1 _ _ ih
  have h2 := this l.reverse
  rwa [List.reverse_reverse] at h2
/-- What a set's counts are: nothing where no plate of it lies; of a plate its many. -/
theorem countsOf_spec : ∀ l : List Plate, setOk l = true → (∀ k, k < 12 → (∀ p ∈ l, (plc p).toNat ≠ k) → gT (countsOf l) k = 0) ∧ (∀ p ∈ l, gT (countsOf l) (plc p).toNat = p.mn) ∧ shelvedOf l = countsOf l := by
  refine snoc_ind ?_ ?_
  · exact fun _ => ⟨fun k hk _ => gt_zero hk, ⟨fun p hp => (by cases hp), rfl⟩⟩
  · intro l p ih h
    obtain ⟨i1, i2, i3⟩ := ih (setOk_pre h)
    have hp := (setOk_iff.1 h).1 p (by simp)
    have hpp := okPlate_plc hp
    have hlt : ∀ q ∈ l, plc q < plc p := fun q hq => by
      have := (setOk_iff.1 h).2
      rw [List.map_append, List.pairwise_append] at this
      exact this.2.2 _ (List.mem_map.2 ⟨q, hq, rfl⟩) _ (by simp)
    have hq0 : ∀ q ∈ l, 0 ≤ plc q := fun q hq => (okPlate_plc ((setOk_iff.1 h).1 q (by simp [hq]))).1
    have hz : gT (countsOf l) (plc p).toNat = 0 := i1 _ (by omega) fun q hq => by have := hlt q hq; have := hq0 q hq; omega
    have hl : (plc p).toNat < (countsOf l).length := by rw [countsOf_len]; omega
    rw [countsOf_snoc, shelvedOf_snoc, i3]
    unfold addP setP
    rw [hz, Int.zero_add]
    refine ⟨fun k hk hne => ?_, fun q hq => ?_, rfl⟩
    · rw [gt_set hl, if_neg (fun e => hne p (by simp) e.symm)]
      exact i1 k hk fun q hq => hne q (by simp [hq])
    · rw [gt_set hl]
      rcases List.mem_append.1 hq with hq | hq
      · rw [if_neg (by have := hlt q hq; have := hq0 q hq; omega)]; exact i2 q hq
      · rw [List.mem_singleton.1 hq, if_pos rfl]
theorem shelvedOf_eq {l : List Plate} (h : setOk l = true) : shelvedOf l = countsOf l := (countsOf_spec l h).2.2
theorem countsOf_bd {l : List Plate} (h : setOk l = true) {k : Nat} (hk : k < 12) : 0 ≤ gT (countsOf l) k ∧ gT (countsOf l) k ≤ 9 := by
  obtain ⟨h1, h2, _⟩ := countsOf_spec l h
  by_cases e : ∀ p ∈ l, (plc p).toNat ≠ k
  · rw [h1 k hk e]; omega
  · have : ∃ p ∈ l, (plc p).toNat = k := Classical.byContradiction fun hn => e fun p hp he => hn ⟨p, hp, he⟩
    obtain ⟨p, hp, rfl⟩ := this
    rw [h2 p hp]
    have := okPlate_iff.1 ((setOk_iff.1 h).1 p hp)
    omega
theorem countsOf_cn {l : List Plate} (h : setOk l = true) : Cn (countsOf l) := Cn.of (countsOf_len l) fun k hk => by
  have := countsOf_bd h hk
  exact ⟨this.1, Int.le_trans this.2 (by omega)⟩

/-- The set of some counts. -/
def plateAt (c : Cnt) (k : Nat) : Plate := ⟨((k / 3 : Nat) : Int), ((k % 3 : Nat) : Int), gT c k⟩
def setTo12 (c : Cnt) (n : Nat) : List Plate := (List.range n).filterMap fun k => if 0 < gT c k then some (plateAt c k) else none
def setOf (c : Cnt) : List Plate := setTo12 c 12
theorem setTo12_succ (c : Cnt) (n : Nat) : setTo12 c (n + 1) = if 0 < gT c n then setTo12 c n ++ [plateAt c n] else setTo12 c n := by
  unfold setTo12
  rw [List.range_succ, List.filterMap_append]
  by_cases h : 0 < gT c n
  · simp [h]
  · simp [h]
theorem setTo12_len (c : Cnt) (n : Nat) : (setTo12 c n).length ≤ n := by
  unfold setTo12
  exact Nat.le_trans (List.length_filterMap_le _ _) (by simp)
theorem plc_plateAt (c : Cnt) (k : Nat) : plc (plateAt c k) = (k : Int) := by
  unfold plc plateAt; simp only; omega
theorem countsOf_setTo (c : Cnt) : ∀ n, n ≤ 12 → countsOf (setTo12 c n) = mk12 fun k => if k < n then max 0 (gT c k) else 0
  | 0, _ => by
    show zero12 = _
    exact mk12_congr fun k _ => by simp
  | n + 1, hn => by
    have ih := countsOf_setTo c n (by omega)
    rw [setTo12_succ]
    split
    · rename_i h
      rw [countsOf_snoc, ih]
      unfold addP
      rw [plc_plateAt, Int.toNat_natCast, gt_mk _ (by omega), if_neg (by omega), mk12_set]
      refine mk12_congr fun k hk => ?_
      by_cases e : k = n
      · subst e; rw [if_pos rfl, if_pos (by omega)]
        show 0 + gT c k = _
        omega
      · rw [if_neg e]
        by_cases h2 : k < n
        · rw [if_pos h2, if_pos (by omega)]
        · rw [if_neg h2, if_neg (by omega)]
    · rename_i h
      rw [ih]
      refine mk12_congr fun k hk => ?_
      by_cases e : k = n
      · subst e; rw [if_neg (by omega), if_pos (by omega)]; omega
      · by_cases h2 : k < n
        · rw [if_pos h2, if_pos (by omega)]
        · rw [if_neg h2, if_neg (by omega)]
theorem countsOf_setOf {c : Cnt} (hc : Cn c) : countsOf (setOf c) = c := by
  unfold setOf
  rw [countsOf_setTo c 12 (Nat.le_refl _)]
  refine gt_ext (mk12_len _) hc.len fun k hk => ?_
  rw [gt_mk _ hk, if_pos hk]
  have := (hc.gt hk).2
  omega
theorem setTo12_ok {c : Cnt} (h : ∀ k, k < 12 → gT c k ≤ 9) : ∀ n, n ≤ 12 → (∀ p ∈ setTo12 c n, okPlate p = true ∧ plc p < n) ∧ ((setTo12 c n).map plc).Pairwise (· < ·)
  | 0, _ => ⟨fun p hp => by simp [setTo12] at hp, by simp [setTo12]⟩
  | n + 1, hn => by
    obtain ⟨i1, i2⟩ := setTo12_ok h n (by omega)
    have hb := h n (by omega)
    rw [setTo12_succ]
    split
    · rename_i hg
      refine ⟨fun p hp => ?_, ?_⟩
      · rcases List.mem_append.1 hp with hp | hp
        · have := i1 p hp; exact ⟨this.1, by omega⟩
        · rw [List.mem_singleton.1 hp, plc_plateAt]
          refine ⟨?_, by omega⟩
          rw [okPlate_iff]
          unfold plateAt
          simp only
          omega
      · rw [List.map_append, List.pairwise_append]
        refine ⟨i2, by simp, fun x hx y hy => ?_⟩
        obtain ⟨p, hp, rfl⟩ := List.mem_map.1 hx
        simp only [List.map_cons, List.map_nil, List.mem_singleton] at hy
        rw [hy, plc_plateAt]
        exact (i1 p hp).2
    · exact ⟨fun p hp => by have := i1 p hp; exact ⟨this.1, by omega⟩, i2⟩
theorem setOf_ok {c : Cnt} (h : ∀ k, k < 12 → gT c k ≤ 9) : setOk (setOf c) = true := by
  have := setTo12_ok h 12 (Nat.le_refl _)
  exact setOk_iff.2 ⟨fun p hp => (this.1 p hp).1, this.2⟩

/-- How many plates a set has. -/
def platesOf (l : List Plate) : Int := l.foldl (fun n p => n + p.mn) 0
theorem platesOf_snoc (l : List Plate) (p : Plate) : platesOf (l ++ [p]) = platesOf l + p.mn := by unfold platesOf; rw [List.foldl_append]; rfl
theorem cntSum_append (a b : Cnt) : cntSum (a ++ b) = cntSum a + cntSum b := by
  unfold cntSum; rw [List.foldl_append, foldl_add b]; rfl
theorem cntSum_set {c : Cnt} {i : Nat} {v : Int} (hi : i < c.length) : cntSum (c.set i v) = cntSum c - gT c i + v := by
  have h1 : c = c.take i ++ c[i] :: c.drop (i + 1) := by rw [← List.drop_eq_getElem_cons hi, List.take_append_drop]
  have h2 : gT c i = c[i] := by unfold gT; rw [List.getD_eq_getElem?_getD, List.getElem?_eq_getElem hi]; rfl
  have h3 : cntSum c = cntSum (c.take i) + (c[i] + cntSum (c.drop (i + 1))) := by
    have := congrArg cntSum h1
    rw [cntSum_append, cntSum_cons] at this; exact this
  rw [List.set_eq_take_append_cons_drop, if_pos hi, cntSum_append, cntSum_cons, h3, h2]
  omega
theorem platesOf_sum : ∀ l : List Plate, (∀ p ∈ l, okPlate p = true) → platesOf l = cntSum (countsOf l) := by
  refine snoc_ind (fun _ => rfl) ?_
  intro l p ih h
  have hp := okPlate_plc (h p (by simp))
  rw [platesOf_snoc, ih (fun q hq => h q (by simp [hq])), countsOf_snoc]
  unfold addP
  rw [cntSum_set (by rw [countsOf_len]; omega)]
  omega
theorem platesOf_bd {l : List Plate} (h : setOk l = true) : 0 ≤ platesOf l ∧ platesOf l ≤ 12000 := by
  rw [platesOf_sum l (setOk_iff.1 h).1]; exact (countsOf_cn h).sum

/-! ### What is valid; what a plan needs -/

structure ValidH (h : Hall) : Prop where
  hs : Valid h.hs
  bo : h.bo.length = h.hs.ms.length
  e4 : h.ed.length ≤ 4
  bos : h.bo.all (fun b => within b 0 2) = true
  eds : h.ed.all (fun l => rising 0 3 l) = true
  bes : h.hs.bs.all (fun b => decide (b.e < h.ed.length)) = true
theorem validHall_iff {h : Hall} : validHall h = true ↔ ValidH h := by
  unfold validHall
  simp only [Bool.and_eq_true, decide_eq_true_eq, valid_iff]
  constructor
  · rintro ⟨⟨⟨⟨⟨a, b⟩, c⟩, d⟩, e⟩, f⟩; exact ⟨a, b, c, d, e, f⟩
  · rintro ⟨a, b, c, d, e, f⟩; exact ⟨⟨⟨⟨⟨a, b⟩, c⟩, d⟩, e⟩, f⟩
theorem validHall_no {h : Hall} (k : ¬ ValidH h) : validHall h = false := by
  cases hv : validHall h with
  | false => rfl
  | true => exact absurd (validHall_iff.1 hv) k

def bore (h : Hall) (m : Nat) : Int := h.bo.getD m 0
def edn (h : Hall) (b : Int) : List Int := h.ed.getD (bund h.hs b).e.toNat []
theorem At.bore {h : Hall} {m : Nat} {x : Int} (k : At h.bo m x) : bore h m = x := by
  unfold Go.Proofs.YtngdppajailpcaaGreat.bore; rw [List.getD_eq_getElem?_getD, show h.bo[m]? = some x from k]; rfl
theorem bore_bd {h : Hall} (hv : ValidH h) {m : Nat} (hm : m < h.hs.ms.length) : ∃ b : Nat, b < 3 ∧ bore h m = (b : Int) ∧ At h.bo m (bore h m) := by
  obtain ⟨x, hx⟩ := At.mk (xs := h.bo) (k := m) (by rw [hv.bo]; exact hm)
  have h1 := within_iff.1 (List.all_eq_true.1 hv.bos x hx.mem)
  rw [hx.bore]
  exact ⟨x.toNat, by omega, by omega, hx⟩
theorem edn_at {h : Hall} (hv : ValidH h) {b : Nat} {x : Bund} (hx : At h.hs.bs b x) : ∃ e : Nat, x.e = (e : Int) ∧ e < h.ed.length ∧ At h.ed e (edn h (b : Int)) ∧ rising 0 3 (edn h (b : Int)) = true := by
  have h1 := List.all_eq_true.1 hv.hs.bs x hx.mem
  have h2 := of_decide_eq_true (List.all_eq_true.1 hv.bes x hx.mem)
  simp only [okBund, Bool.and_eq_true, within_iff] at h1
  obtain ⟨l, hl⟩ := At.mk (xs := h.ed) (k := x.e.toNat) (by omega)
  have e : edn h (b : Int) = l := by
    unfold edn; rw [hx.bund]; exact hl.getD _
  rw [e]
  exact ⟨x.e.toNat, by omega, by omega, hl, List.all_eq_true.1 hv.eds l hl.mem⟩

/-- A machine with these bundles needs a plate of the page. -/
def needP (h : Hall) (l : List Int) (pg : Nat) : Bool := l.any fun b => decide ((pg : Int) ∈ edn h b)
def needM (h : Hall) (plan : List (List Int)) (k m : Nat) : Bool := decide (bore h m = ((k % 3 : Nat) : Int)) && needP h (plan.getD m []) (k / 3)
/-- How many of the first n machines need a plate of the place k. -/
def countM (h : Hall) (plan : List (List Int)) (k n : Nat) : Nat := ((List.range n).filter (needM h plan k)).length
def needOf (h : Hall) (plan : List (List Int)) : Cnt := mk12 fun k => (countM h plan k plan.length : Int)
theorem countM_succ (h : Hall) (plan : List (List Int)) (k n : Nat) : countM h plan k (n + 1) = countM h plan k n + if needM h plan k n then 1 else 0 := by
  unfold countM
  rw [List.range_succ, List.filter_append, List.length_append]
  cases e : needM h plan k n <;> simp [e]
theorem countM_le (h : Hall) (plan : List (List Int)) (k n : Nat) : countM h plan k n ≤ n := by
  unfold countM; exact Nat.le_trans (List.length_filter_le _ _) (by simp)
theorem needOf_cn {h : Hall} {plan : List (List Int)} (hl : plan.length ≤ 3) : Cn (needOf h plan) := Cn.mk12 fun k _ => by
  have := countM_le h plan k plan.length; omega
theorem needOf_bd {h : Hall} {plan : List (List Int)} (hl : plan.length ≤ 3) {k : Nat} (hk : k < 12) : 0 ≤ gT (needOf h plan) k ∧ gT (needOf h plan) k ≤ 3 := by
  unfold needOf; rw [gt_mk _ hk]
  have := countM_le h plan k plan.length; omega

/-- The counts after the first m machines, and of the next one the first pages. -/
def needTo (h : Hall) (plan : List (List Int)) (m pg : Nat) : Cnt := mk12 fun k => (countM h plan k m : Int) + if decide (k / 3 < pg) && needM h plan k m then 1 else 0
theorem needTo_zero (h : Hall) (plan : List (List Int)) : needTo h plan 0 0 = zero12 := mk12_congr fun k _ => by simp [countM]
theorem needTo_next (h : Hall) (plan : List (List Int)) (m : Nat) : needTo h plan m 4 = needTo h plan (m + 1) 0 := mk12_congr fun k hk => by
  rw [countM_succ, decide_eq_true (by omega : k / 3 < 4), decide_eq_false (by omega : ¬ k / 3 < 0)]
  cases needM h plan k m <;> simp
theorem needTo_end (h : Hall) (plan : List (List Int)) : needTo h plan plan.length 0 = needOf h plan := mk12_congr fun k _ => by simp
theorem needTo_step {h : Hall} {plan : List (List Int)} {m pg b : Nat} (hpg : pg < 4) (hb : bore h m = (b : Int)) (hb3 : b < 3) :
    needTo h plan m (pg + 1) = if needP h (plan.getD m []) pg then (needTo h plan m pg).set (pg * 3 + b) (gT (needTo h plan m pg) (pg * 3 + b) + 1) else needTo h plan m pg := by
  have hM : ∀ k, k < 12 → needM h plan k m = (decide (k % 3 = b) && needP h (plan.getD m []) (k / 3)) := fun k _ => by
    unfold needM; rw [hb]
    congr 1
    exact decide_eq_decide.2 (by omega)
  split
  · rename_i hn
    have hg : gT (needTo h plan m pg) (pg * 3 + b) = (countM h plan (pg * 3 + b) m : Int) := by
      unfold needTo
      rw [gt_mk _ (by omega), decide_eq_false (by omega : ¬ (pg * 3 + b) / 3 < pg)]; simp
    rw [hg]
    unfold needTo
    rw [mk12_set]
    refine mk12_congr fun k hk => ?_
    rw [hM k hk]
    by_cases e : k = pg * 3 + b
    · subst e
      rw [if_pos rfl, decide_eq_true (by omega : (pg * 3 + b) / 3 < pg + 1), decide_eq_true (by omega : (pg * 3 + b) % 3 = b), show (pg * 3 + b) / 3 = pg by omega, hn]; rfl
    · rw [if_neg e]
      by_cases e2 : k % 3 = b
      · have : (decide (k / 3 < pg + 1)) = decide (k / 3 < pg) := decide_eq_decide.2 (by omega)
        rw [this]
      · rw [decide_eq_false e2]; simp
  · rename_i hn
    refine mk12_congr fun k hk => ?_
    rw [hM k hk]
    by_cases e : k / 3 = pg
    · rw [e]
      have : needP h (plan.getD m []) pg = false := by simpa using hn
      rw [this]; simp
    · have : (decide (k / 3 < pg + 1)) = decide (k / 3 < pg) := decide_eq_decide.2 (by omega)
      rw [this]
theorem needTo_bd (h : Hall) (plan : List (List Int)) (m pg : Nat) {k : Nat} (hk : k < 12) : 0 ≤ gT (needTo h plan m pg) k ∧ gT (needTo h plan m pg) k ≤ m + 1 := by
  unfold needTo
  rw [gt_mk _ hk]
  have := countM_le h plan k m
  split <;> omega
theorem needTo_len (h : Hall) (plan : List (List Int)) (m pg : Nat) : (needTo h plan m pg).length = 12 := mk12_len _

end Go.Proofs.YtngdppajailpcaaGreat

namespace Go.Proofs.YtngdppajailpcaaGreat
open Go.RowKit

/-- The cells of a shelf. -/
def shC (c : Cnt) : Array Value := (c.map (Value.int .i64)).toArray
theorem shC_size (c : Cnt) : (shC c).size = c.length := by simp [shC]
theorem shC_get {c : Cnt} {k : Nat} {x : Int} (h : c[k]? = some x) : (shC c)[k]? = some (.int .i64 x) := by simp [shC, h]
theorem shC_set (c : Cnt) (k : Nat) (v : Int) : (shC c).setIfInBounds k (.int .i64 v) = shC (c.set k v) := by simp [shC]
theorem shC_inj {a b : Cnt} (h : shC a = shC b) : a = b := by
  have h1 : a.map (Value.int .i64) = b.map (Value.int .i64) := by
    have := congrArg Array.toList h
    simpa [shC] using this
  exact (List.map_inj_right (fun x y e => by injection e)).1 h1
theorem shC_zero : shC zero12 = #[.int .i64 0, .int .i64 0, .int .i64 0, .int .i64 0, .int .i64 0, .int .i64 0, .int .i64 0, .int .i64 0, .int .i64 0, .int .i64 0, .int .i64 0, .int .i64 0] := rfl
theorem shC_one (c : Cnt) : ∀ v ∈ (shC c).toList, v.oneCell' = true := by
  intro v hv
  simp only [shC, List.mem_map] at hv
  obtain ⟨x, _, rfl⟩ := hv; rfl

theorem size_sh : (Tryz.prog.info? 84).map (·.size) = some 12 := by kernel_rfl
theorem cells_sh : Tryz.prog.cellsOf 84 = 12 := by kernel_rfl
theorem cells_row3 : Tryz.prog.cellsOf 82 = 3 := by kernel_rfl
theorem cells_i : Tryz.prog.cellsOf 3 = 1 := by kernel_rfl

/-! ### A shelf as a map's key -/

theorem list12 {α : Type} {l : List α} (h : l.length = 12) : ∃ a b c d e f g i j k m n, l = [a, b, c, d, e, f, g, i, j, k, m, n] := by
  match l, h with
  | [a, b, c, d, e, f, g, i, j, k, m, n], _ => exact ⟨a, b, c, d, e, f, g, i, j, k, m, n, rfl⟩
theorem wf_small {x : Int} (h : 0 ≤ x ∧ x ≤ 1000) : (Lit.int .i64 x).wf = true := by
  simp [Lit.wf, IntKind.min, IntKind.max, IntKind.signed, IntKind.bits]; omega

def klOf (c : Cnt) : Lit := .string (keyBytes (c.map (Lit.int .i64)))
theorem keyLits_int (D : Nat) {x : Int} (h : 0 ≤ x ∧ x ≤ 1000) : Tryz.prog.keyLits (D + 1) 3 [.int .i64 x] = some [.int .i64 x] := by
  unfold Program.keyLits
  simp [Tryz.underlying3, wf_small h]
theorem keyLits_row (D : Nat) {x y z : Int} (hx : 0 ≤ x ∧ x ≤ 1000) (hy : 0 ≤ y ∧ y ≤ 1000) (hz : 0 ≤ z ∧ z ≤ 1000) : Tryz.prog.keyLits (D + 2) 82 [.int .i64 x, .int .i64 y, .int .i64 z] = some [.int .i64 x, .int .i64 y, .int .i64 z] := by
  unfold Program.keyLits
  simp [Tryz.underlying82, cells_row3, cells_i, List.range_succ, keyLits_int D hx, keyLits_int D hy, keyLits_int D hz]
set_option maxRecDepth 100000 in
theorem keyLits_sh (D : Nat) {c : Cnt} (h : Cn c) : Tryz.prog.keyLits (D + 3) 84 (shC c).toList = some (c.map (Lit.int .i64)) := by
  obtain ⟨hl, hb⟩ := h
  obtain ⟨x0, x1, x2, x3, x4, x5, x6, x7, x8, x9, x10, x11, rfl⟩ := list12 hl
  have h0 := keyLits_row D (hb x0 (by simp)) (hb x1 (by simp)) (hb x2 (by simp))
  have h1 := keyLits_row D (hb x3 (by simp)) (hb x4 (by simp)) (hb x5 (by simp))
  have h2 := keyLits_row D (hb x6 (by simp)) (hb x7 (by simp)) (hb x8 (by simp))
  have h3 := keyLits_row D (hb x9 (by simp)) (hb x10 (by simp)) (hb x11 (by simp))
  unfold Program.keyLits
  simp [Tryz.underlying84, shC, cells_sh, cells_row3, List.range_succ, h0, h1, h2, h3]
theorem keyOf_sh {c : Cnt} (h : Cn c) : Go.keyOf Tryz.prog 84 (.agg (shC c)) = some (klOf c) := by
  unfold Go.keyOf
  have hk : Tryz.prog.keyType 84 = true := by kernel_rfl
  have hf : Value.formed Tryz.prog 84 (.agg (shC c)) = true := by
    unfold Value.formed
    simp [Tryz.underlying84, cells_sh, shC_size, h.len]
  obtain ⟨D, hD⟩ : ∃ D, Tryz.prog.types.size + 1 = D + 3 := ⟨Tryz.prog.types.size - 2, by
    have h2 : decide (2 ≤ Tryz.prog.types.size) = true := by kernel_rfl
    have h3 := of_decide_eq_true h2
    generalize Tryz.prog.types.size = s at *
    omega⟩
  simp only [Tryz.underlying84, hk, hf, Bool.and_self, if_true, hD]
  rw [show (Value.agg (shC c)).cells.toList = (shC c).toList from rfl, keyLits_sh D h]
  rfl
theorem laid_sh : laidOutB Tryz.prog = true := by kernel_rfl
theorem row_sh : 84 < Tryz.prog.types.size := by
  have h2 : decide (84 < Tryz.prog.types.size) = true := by kernel_rfl
  exact of_decide_eq_true h2
theorem kt_sh : Tryz.prog.keyTypeAt 4 84 = true := by kernel_rfl
theorem law_sh : WideMaps.KeyLaw Tryz.prog 84 :=
  deep_law_laid laid_sh (m := 4) (by omega) row_sh kt_sh (by simp only [Tryz.underlying84])
theorem keyed_sh : Maps.Keyed Tryz.prog 84 := Maps.Keyed.of_law law_sh
theorem klOf_inj {a b : Cnt} (ha : Cn a) (hb : Cn b) (h : klOf a = klOf b) : a = b := by
  have := keyed_sh.inj (keyOf_sh ha) (by rw [h]; exact keyOf_sh hb)
  injection this with h
  exact shC_inj h

/-- '==' of two shelves. -/
theorem run_eql_sh (w : World) {a b : Cnt} (ha : Cn a) (hb : Cn b) : (binOp .eql 84 (.agg (shC a)) (.agg (shC b))).run Tryz.prog w = .ok (.bool (decide (a = b))) w := by
  obtain ⟨r, hr, hiff⟩ := run_equal_deep (P := Tryz.prog) w (m := 4) (k := 84) (by omega) kt_sh (by simp only [Tryz.underlying84]) (keyOf_sh ha) (keyOf_sh hb)
  have : r = decide (a = b) := by
    rw [Bool.eq_iff_iff, hiff, decide_eq_true_eq]
    exact ⟨klOf_inj ha hb, fun e => by rw [e]⟩
  subst this
  rw [run_eql_struct]
  unfold Op.equal Op.maxDepth at hr
  rw [hr]; rfl

/-! ### Whole shelves: read, written -/

/-- The twelve cells from an offset on. -/
def World.mid (w : World) (b o : Nat) : Array Value := match w.heap[b]? with
  | some (.cells cs _ _) => cs.extract o (o + 12)
  | _ => #[]
/-- A load of a shelf. -/
def loadShV (x : Value) : Sem Value := Instr.loadAt 84 x
theorem loadAt_sh (x : Value) : Instr.loadAt 84 x = loadShV x := rfl
theorem run_loadShV {w : World} {b o : Nat} (h : (World.mid w b o).size = 12) : (loadShV (.pointer (some ⟨b, o, none⟩))).run Tryz.prog w = .ok (.agg (World.mid w b o)) w := by
  unfold World.mid at h ⊢
  cases hb : w.heap[b]? with
  | none => rw [hb] at h; simp at h
  | some ob =>
    rw [hb] at h
    cases ob with
    | cells cs t fr =>
      simp only at h ⊢
      have h1 : (loadCells ⟨b, o, none⟩ (cs.extract o (o + 12)).toList.length).run Tryz.prog w = .ok (cs.extract o (o + 12)).toList.toArray w :=
        run_loadCells_list (P := Tryz.prog) w ⟨b, o, none⟩ (cs.extract o (o + 12)).toList (fun j v hv => by
          have hadd : (⟨b, o, none⟩ : Addr).add j = ⟨b, o + j, none⟩ := by unfold Addr.add; split <;> simp_all
          rw [hadd, cell_of_row w b (o + j) cs t fr hb]
          rw [Array.getElem?_toList, Array.getElem?_extract] at hv
          split at hv
          · exact hv
          · cases hv)
      have hu := Tryz.underlying84
      have hagg : (isAgg 84).run Tryz.prog w = .ok true w := by
        unfold isAgg
        rw [Sem.run_bind, run_underlying hu w]
        simp
      have hs := size_sh
      cases hq : Tryz.prog.info? 84 with
      | none => rw [hq] at hs; simp at hs
      | some i =>
        rw [hq] at hs
        simp only [Option.map_some, Option.some.injEq] at hs
        simp only [Array.length_toList, Array.toArray_toList, h] at h1
        unfold loadShV Instr.loadAt Instr.sureAddr
        simp [loadVar, Sem.run_bind, hagg, sizeOf, typeInfo, hq, hs, h1]
    | _ => simp at h
theorem mid_row {w : World} {b : Nat} {c : Cnt} {t : TypeId} {fr : Nat × Nat} (h : w.heap[b]? = some (.cells (shC c) t fr)) (hl : c.length = 12) : World.mid w b 0 = shC c := by
  unfold World.mid; rw [h]
  simp only [Nat.zero_add]
  rw [← hl, ← shC_size, Array.extract_size]
theorem mid_drew (w : World) (b o : Nat) : World.mid w.drew b o = World.mid w b o := rfl
theorem midH {H : Snap} {b : Nat} {c : Cnt} {t : TypeId} (h : H b = some (.cells (shC c) t (0, 0))) (hl : c.length = 12) : ∀ w, Holds H w → World.mid w b 0 = shC c := fun w hw => mid_row (hw.at_ _ _ h) hl
theorem cellSh {H : Snap} {b : Nat} {c : Cnt} {t : TypeId} (h : H b = some (.cells (shC c) t (0, 0))) (hc : Cn c) {k : Nat} (hk : k < 12) : ∀ w, Holds H w → w.cell? ⟨b, k, none⟩ = some (.int .i64 (gT c k)) := fun w hw => by
  rw [cellH h hw k]; exact shC_get (hc.at_ hk).1

/-- A shelf of the call's own. -/
abbrev ShV (H : Snap) (base : Nat) (w : World) (b : Nat) (c : Cnt) : Prop := Row H base w 84 b c

theorem setCells_row {t : TypeId} (b : Nat) : ∀ (vs : List Value) (o : Nat) (w : World) (cur : List Value), w.heap[b]? = some (.cells cur.toArray t (0, 0)) → o + vs.length ≤ cur.length →
    (w.setCells b o vs).heap[b]? = some (.cells (cur.take o ++ vs ++ cur.drop (o + vs.length)).toArray t (0, 0))
  | [], o, w, cur, h, _ => by
    rw [show w.setCells b o [] = w from rfl, h]
    simp
  | v :: vs, o, w, cur, h, hl => by
    rw [show w.setCells b o (v :: vs) = (w.setCell ⟨b, o, none⟩ v).setCells b (o + 1) vs from rfl]
    simp only [List.length_cons] at hl ⊢
    have h1 := heap_setCell_row (i := o) h v
    rw [show (cur.toArray.setIfInBounds o v) = (cur.set o v).toArray by simp] at h1
    rw [setCells_row b vs (o + 1) _ (cur.set o v) h1 (by rw [List.length_set]; omega)]
    have e1 : (cur.set o v).take (o + 1) = cur.take o ++ [v] := by
      rw [List.take_succ_eq_append_getElem (by rw [List.length_set]; omega), List.take_set_of_le (Nat.le_refl _), List.getElem_set_self]
    have e2 : (cur.set o v).drop (o + 1 + vs.length) = cur.drop (o + (vs.length + 1)) := by
      rw [List.drop_set_of_lt (by omega), show o + 1 + vs.length = o + (vs.length + 1) by omega]
    rw [e1, e2]
    simp
theorem setCells_other (b : Nat) : ∀ (vs : List Value) (o : Nat) (w : World) (k : Nat), k ≠ b → (w.setCells b o vs).heap[k]? = w.heap[k]?
  | [], _, _, _, _ => rfl
  | v :: vs, o, w, k, h => by
    rw [show w.setCells b o (v :: vs) = (w.setCell ⟨b, o, none⟩ v).setCells b (o + 1) vs from rfl, setCells_other b vs (o + 1) _ k h]
    exact Below.heap_setCell _ _ _ _ h
theorem setCells_below (b : Nat) : ∀ (vs : List Value) (o : Nat) (w : World), Below b w (w.setCells b o vs)
  | [], _, _ => Below.refl _ _
  | v :: vs, o, w => ((Below.refl b w).setCell (show b ≤ (⟨b, o, none⟩ : Addr).block from Nat.le_refl _) v).trans (setCells_below b vs (o + 1) _)
theorem setCells_size (b : Nat) : ∀ (vs : List Value) (o : Nat) (w : World), (w.setCells b o vs).heap.size = w.heap.size
  | [], _, _ => rfl
  | v :: vs, o, w => by
    rw [show w.setCells b o (v :: vs) = (w.setCell ⟨b, o, none⟩ v).setCells b (o + 1) vs from rfl, setCells_size b vs (o + 1)]; simp

theorem ShV.new {H : Snap} {base : Nat} {w : World} (hw : Holds H w) (hb : base ≤ w.heap.size) : ShV H base (w.alloc (.cells #[.int .i64 0, .int .i64 0, .int .i64 0, .int .i64 0, .int .i64 0, .int .i64 0, .int .i64 0, .int .i64 0, .int .i64 0, .int .i64 0, .int .i64 0, .int .i64 0] 84)) w.heap.size zero12 :=
  ⟨heap_alloc_new w _, hb, hw.none_of_ge (Nat.le_refl _)⟩
/-- A shelf is written whole. -/
theorem run_storeSh {H : Snap} {base b : Nat} {w : World} {c c' : Cnt} (h : ShV H base w b c) (hl : c.length = 12) (hl' : c'.length = 12) :
    ∃ w', (Instr.storeAt 84 (.pointer (some ⟨b, 0, none⟩)) (.agg (shC c'))).run Tryz.prog w = .ok () w' ∧ ShV H base w' b c' ∧ Below b w w' ∧ (∀ k, k ≠ b → w'.heap[k]? = w.heap[k]?) ∧ w'.heap.size = w.heap.size := by
  have hat : w.heap[b]? = some (.cells (shC c) 84 (0, 0)) := h.at_
  have hth : w.there b 0 (shC c').size := fun j hj => by
    rw [shC_size, hl'] at hj
    rw [Nat.zero_add, cell_of_row w b j _ _ _ hat]
    refine ⟨?_, by simp [World.frozen?, hat]⟩
    rw [Array.getElem?_eq_getElem (by rw [shC_size, hl]; exact hj)]; rfl
  have hr := run_storeAt_mid (P := Tryz.prog) w b 0 84 (shC c') hth (by rw [shC_size, hl']; exact size_sh) (by rw [← Array.toArray_toList (xs := shC c')]; exact all_oneCell_toArray (shC_one c'))
  refine ⟨_, hr, ⟨?_, h.base, h.free⟩, setCells_below b _ _ _, fun k hk => setCells_other b _ _ _ k hk, setCells_size b _ _ _⟩
  have := setCells_row (t := 84) b (shC c').toList 0 w (c.map (Value.int .i64)) hat (by simp [shC, hl, hl'])
  rw [this]
  simp [shC, hl, hl']

theorem wpList_storeSh {ops : Array Oper} {rest : List Oper} {o : Oper} {a : Act} {w w0 : World} {H H0 : Snap} {base b : Nat} {c c' : Cnt} {Q : Exit → Act → World → Prop} (hgd : o.guard = none) (x y : Operand) (ho : o.op = .store 84 x y)
    (hx : a.eval x = .pointer (some ⟨b, 0, none⟩)) (hy : a.eval y = .agg (shC c')) (h : ShV H base w b c) (hl : c.length = 12) (hl' : c'.length = 12) (hX : Ext w0 H0 w H) (hb : w0.heap.size ≤ base)
    (hk : ∀ w', ShV H base w' b c' → Ext w0 H0 w' H → (∀ k, k ≠ b → w'.heap[k]? = w.heap[k]?) → w'.heap.size = w.heap.size → wpList Tryz.prog ops Q rest (a.put o.dst (.tuple #[])) w') : wpList Tryz.prog ops Q (o :: rest) a w := by
  obtain ⟨w', hr, h1, h2, h3, h4⟩ := run_storeSh h hl hl'
  refine wpList_plain hgd fun K hK => ?_
  unfold Oper.wp execOp
  simp only [ho, hx, hy, Sem.run_bind, Sem.run_pure, Result.andThen_ok, hr]
  have hbb := h.base
  exact hK _ _ (hk w' h1 (hX.step (h2.mono (by omega)) ⟨fun k o e => by
    have hne : k ≠ b := by
      rintro rfl; rw [h.free] at e; cases e
    rw [h3 k hne]; exact hX.holds.at_ k o e⟩) h3 h4)

theorem row_extract {c : Cnt} {k : Nat} (hl : c.length = 12) (hk : k < 4) : (shC c).extract (k * 3) (k * 3 + 3) = #[.int .i64 (gT c (3 * k)), .int .i64 (gT c (3 * k + 1)), .int .i64 (gT c (3 * k + 2))] := by
  obtain ⟨x0, x1, x2, x3, x4, x5, x6, x7, x8, x9, x10, x11, rfl⟩ := list12 hl
  match k, hk with
  | 0, _ => simp [shC, gT]
  | 1, _ => simp [shC, gT]
  | 2, _ => simp [shC, gT]
  | 3, _ => simp [shC, gT]
/-- A row of a shelf. -/
def indexShV (x i : Value) : Sem Value := Instr.index 84 x i
theorem index_sh (x i : Value) : Instr.index 84 x i = indexShV x i := rfl
theorem run_indexShV {w : World} {c : Cnt} {k : Nat} (hl : c.length = 12) (hk : k < 4) : (indexShV (.agg (shC c)) (.int .i64 (k : Int))).run Tryz.prog w = .ok (.agg #[.int .i64 (gT c (3 * k)), .int .i64 (gT c (3 * k + 1)), .int .i64 (gT c (3 * k + 2))]) w := by
  obtain ⟨i, hi⟩ : ∃ i, Tryz.prog.info? 82 = some i := info_of_underlying Tryz.underlying82
  have hpart : (part 82 (shC c) (k * 3)).run Tryz.prog w = .ok (.agg ((shC c).extract (k * 3) (k * 3 + 3))) w := by
    have hagg : (isAgg 82).run Tryz.prog w = .ok true w := by
      unfold isAgg
      rw [Sem.run_bind, run_underlying Tryz.underlying82 w]
      simp
    unfold part
    simp [Sem.run_bind, hagg, run_sizeOf w hi, cells_row3]
  rw [row_extract hl hk] at hpart
  unfold indexShV Instr.index
  simp only [asIntOf, Sem.run_bind, Sem.run_pure, Result.andThen_ok, run_underlying Tryz.underlying84 w]
  rw [if_pos ⟨by omega, by omega⟩]
  simp only [Sem.run_bind, run_sizeOf w hi, Result.andThen_ok, cells_row3, Int.toNat_natCast, hpart]

/-- One of three. -/
def sel3 (a b c : Int) (j : Nat) : Int := if j = 0 then a else if j = 1 then b else c
def indexRow (x i : Value) : Sem Value := Instr.index 82 x i
theorem index_row (x i : Value) : Instr.index 82 x i = indexRow x i := rfl
theorem run_indexRow {w : World} {a b c : Int} {j : Nat} (hj : j < 3) : (indexRow (.agg #[.int .i64 a, .int .i64 b, .int .i64 c]) (.int .i64 (j : Int))).run Tryz.prog w = .ok (.int .i64 (sel3 a b c j)) w := by
  obtain ⟨i, hi⟩ : ∃ i, Tryz.prog.info? 3 = some i := info_of_underlying Tryz.underlying3
  have hpart : (part 3 #[.int .i64 a, .int .i64 b, .int .i64 c] (j * 1)).run Tryz.prog w = .ok (.int .i64 (sel3 a b c j)) w := by
    have hagg : (isAgg 3).run Tryz.prog w = .ok false w := by
      unfold isAgg
      rw [Sem.run_bind, run_underlying Tryz.underlying3 w]
      simp
    unfold part
    match j, hj with
    | 0, _ => simp [Sem.run_bind, hagg, sel3]
    | 1, _ => simp [Sem.run_bind, hagg, sel3]
    | 2, _ => simp [Sem.run_bind, hagg, sel3]
  unfold indexRow Instr.index
  simp only [asIntOf, Sem.run_bind, Sem.run_pure, Result.andThen_ok, run_underlying Tryz.underlying82 w]
  rw [if_pos ⟨by omega, by omega⟩]
  simp only [Sem.run_bind, run_sizeOf w hi, Result.andThen_ok, cells_i, Int.toNat_natCast, hpart]
theorem sel3_gt {c : Cnt} {k j : Nat} (hj : j < 3) : sel3 (gT c (3 * k)) (gT c (3 * k + 1)) (gT c (3 * k + 2)) j = gT c (3 * k + j) := by
  match j, hj with
  | 0, _ => rfl
  | 1, _ => rfl
  | 2, _ => rfl

/-! ### The walks of shelf.many, shelf.each -/

attribute [local go_sem] Holds.drew Holds.alloc Holds.drewN WB.holds Oper.semAt_some FW_fn FW_dep FW_round run_loadShV run_indexShV run_indexRow
attribute [local go_sem ↓] loadAt_sh index_sh index_row

theorem sum_take {c : Cnt} {k : Nat} {x : Int} (h : c[k]? = some x) : cntSum (c.take (k + 1)) = cntSum (c.take k) + x := by
  rw [show c.take (k + 1) = c.take k ++ [x] from At.take h]
  unfold cntSum
  rw [List.foldl_append]; rfl

set_option maxRecDepth 100000 in
set_option maxHeartbeats 4000000 in
theorem many_any (c : Cnt) (hc : Cn c) (H : Snap) (w : World) (hw : Holds H w) :
    Calls Tryz.prog 73 #[.agg (shC c)] w (PostV w (.int .i64 (cntSum c))) := by
  go_enter Tryz.func73, Tryz.ntmps73
  go_upto_region 1 with (refine wpList_boxF rfl _ rfl (Ext.refl hw) ?_; intro B w1 H1 hle hx hB hBw)
  have hld := midH hB hc.len
  have hsz : (shC c).size = 12 := by rw [shC_size, hc.len]
  have hw1 := hx.holds
  have hl := hc.len
  go_wp2
  go_loopw [3, 9] (fun n i wr => ∃ k : Nat, k ≤ 4 ∧ i = .int .i64 k ∧ n = .int .i64 (cntSum (c.take (3 * k))) ∧ Ext w H wr H1) (fun _ i _ => 4 - (intOf i).toNat)
  case atStart => exact ⟨0, by omega, rfl, rfl, hx⟩
  case round =>
    obtain ⟨k, hk, rfl, rfl, hxr⟩ := hrel
    have hwr := hxr.holds
    by_cases hlk : k < 4
    · have hb : ∀ j, 0 ≤ cntSum (c.take j) ∧ cntSum (c.take j) ≤ 12000 := fun j => by
        have := sum_bd (c := c.take j) (M := 1000) fun x hx => hc.bd x (List.mem_of_mem_take hx)
        have h2 : (c.take j).length ≤ 12 := by rw [List.length_take]; omega
        have h3 : (0 : Int) ≤ (c.take j).length := Int.natCast_nonneg _
        omega
      go_wp2
      have hxa := hxr.alloc (.cells #[.int .i64 (gT c (3 * k)), .int .i64 (gT c (3 * k + 1)), .int .i64 (gT c (3 * k + 2))] 82)
      go_loopw [3, 13] (fun n i wq => ∃ j : Nat, j ≤ 3 ∧ i = .int .i64 j ∧ n = .int .i64 (cntSum (c.take (3 * k + j))) ∧ Ext w H wq H1) (fun _ i _ => 3 - (intOf i).toNat)
      case atStart => exact ⟨0, by omega, rfl, rfl, hxa⟩
      case round =>
        clear hxa hxr hwr
        obtain ⟨j, hj, rfl, rfl, hxq⟩ := hrel
        have hbj := hb (3 * k + j)
        by_cases hlj : j < 3
        · obtain ⟨e0, b0, d0⟩ := hc.gt (k := 3 * k + j) (by omega)
          have s0 := Lib.hid (sum_take e0)
          rw [← sel3_gt hlj] at b0 d0
          have hsel := Lib.hid (sel3_gt (c := c) (k := k) hlj)
          clear e0
          go_wp2
          go_roundw
          case rel => exact ⟨j + 1, by omega, by go_num, by rw [show 3 * k + (j + 1) = 3 * k + j + 1 by omega, s0.out, hsel.out], hxq⟩
          case measure => simp [intOf]; omega
        · obtain rfl : j = 3 := by omega
          go_wp2
          go_roundw
          case rel => exact ⟨k + 1, by omega, by go_num, by rw [show 3 * (k + 1) = 3 * k + 3 by omega], hxq⟩
          case measure => simp [intOf]; omega
    · obtain rfl : k = 4 := by omega
      go_wp2
      go_ret
      exact ⟨ret_int (by rw [List.take_of_length_le (by omega)]), hxr.below⟩

end Go.Proofs.YtngdppajailpcaaGreat

namespace Go.Proofs.YtngdppajailpcaaGreat
open Go.RowKit
open Go.ChangeMaps (setBlock putKey notKey heap_setBlock_same heap_setBlock_other)
open Go.MapKept (stamped_empty stamped_push)
open Go.WideElems (Fit rg)

/-- How a count of the map reads. -/
noncomputable def R0 : Value → Option (DataW Unit × List MemPlace) := plainElem Tryz.prog 3
theorem z_int (w : World) : (zeroValue 3).run Tryz.prog w = .ok (.int .i64 0) w := by kernel_rfl

/-- A map's block: its keys are these shelves. -/
structure KMap (o : Obj) (ks : List Cnt) : Prop where
  ex : ∃ es clock, o = .map es clock ∧ Fit Tryz.prog 84 R0 es clock ∧ es.size ≤ ks.length ∧
    (∀ kl, Maps.has (.map ((es.toList.map (rg Tryz.prog 84 R0)).foldr DataW.insert [])) kl = true ↔ ∃ c ∈ ks, kl = klOf c) ∧
    ∀ kl a, DataW.atKey (.map ((es.toList.map (rg Tryz.prog 84 R0)).foldr DataW.insert [])) kl (.lit (.int .i64 0)) = .lit (.int .i64 a) → 0 ≤ a ∧ a ≤ ks.length
  cn : ∀ c ∈ ks, Cn c

theorem klOf_key (c : Cnt) : WideAt.IsKeyLit (klOf c) := by trivial
theorem KMap.start : KMap (.map #[] 0) [] := ⟨⟨#[], 0, rfl, ⟨by simp, stamped_empty 0, by simp⟩, by simp, fun kl => by simp [Maps.has], fun kl a e => by
  have : a = 0 := by
    simp [DataW.atKey] at e
    exact e.symm
  subst this; simp⟩, by simp⟩

theorem KMap.owns {o : Obj} {ks : List Cnt} (k : KMap o ks) {W : World} {b : Nat} (hb : W.heap[b]? = some o) : ∃ D, W.ownsMap Tryz.prog 84 R0 b ks.length D ∧ (∀ kl, Maps.has D kl = true ↔ ∃ c ∈ ks, kl = klOf c) := by
  obtain ⟨es, clock, rfl, F, hs, hh, _⟩ := k.ex
  exact ⟨_, ⟨es, clock, hb, F, hs, rfl⟩, hh⟩

/-- What 'm[k]' reads behind 'mapEntry': what it read before. -/
theorem look_behind {es : Array MapEntry} {clock : Nat} {W : World} {b : Nat} (hb : W.heap[b]? = some (.map es clock)) (F : Fit Tryz.prog 84 R0 es clock) (hsz : es.size < 2000000000) {c : Cnt} (hc : Cn c) {a : Int}
    (hrun : (Instr.lookup 126 (.map (some b)) (.agg (shC c)) false).run Tryz.prog W = .ok (.int .i64 a) W) {v0 : Value} {st : Nat} {es1 : Array MapEntry} {clock1 : Nat}
    (h1 : (Instr.mapEntry 126 (.map (some b)) (.agg (shC c))).run Tryz.prog W = .ok (.tuple #[v0, .int .i64 (st : Int)]) (setBlock W b (.map es1 clock1))) :
    (Instr.lookup 126 (.map (some b)) (.agg (shC c)) false).run Tryz.prog (setBlock W b (.map es1 clock1)) = .ok (.int .i64 a) (setBlock W b (.map es1 clock1)) := by
  have hkey := keyOf_sh hc
  have hb1 : (setBlock W b (.map es1 clock1)).heap[b]? = some (.map es1 clock1) := heap_setBlock_same hb _
  have hz : ∀ u : World, (zeroValue 3).run Tryz.prog u = .ok (.int .i64 0) u := z_int
  have ht := Tryz.underlying126
  rcases keyed_sh.find W hkey es.toList F.keys with ⟨f1, f2⟩ | ⟨j, e0, f1, f2, f3⟩
  · have hm : (Instr.mapEntry 126 (.map (some b)) (.agg (shC c))).run Tryz.prog W = .ok (.tuple #[.int .i64 0, goInt clock]) (setBlock W b (.map (es.push ⟨.agg (shC c), .int .i64 0, clock⟩) (clock + 1))) := by
      simp [Instr.mapEntry, run_underlying ht, MapKept.run_getObj_map hb, law_sh.check W false hkey, f1, hz, MapKept.run_setObj_map _ hb, Result.andThen, setBlock]
    rw [h1] at hm
    have e1 : (setBlock W b (.map (es.push ⟨.agg (shC c), .int .i64 0, clock⟩) (clock + 1))).heap[b]? = some (.map (es.push ⟨.agg (shC c), .int .i64 0, clock⟩) (clock + 1)) := heap_setBlock_same hb _
    have e2 : setBlock W b (.map es1 clock1) = setBlock W b (.map (es.push ⟨.agg (shC c), .int .i64 0, clock⟩) (clock + 1)) := by
      simp only [Result.ok.injEq] at hm; exact hm.2
    rw [← e2, hb1] at e1
    simp only [Option.some.injEq, Obj.map.injEq] at e1
    obtain ⟨rfl, rfl⟩ := e1
    have ha : a = 0 := by
      have : (Instr.lookup 126 (.map (some b)) (.agg (shC c)) false).run Tryz.prog W = .ok (.int .i64 0) W := by
        simp [Instr.lookup, run_underlying ht, MapKept.run_getObj_map hb, law_sh.check W _ hkey, f1, hz, Result.andThen]
      rw [hrun] at this
      simp only [Result.ok.injEq, Value.int.injEq, true_and] at this
      simpa using this
    subst ha
    have hplain : R0 (.int .i64 0) = some (.lit (.int .i64 0), []) := plainElem_int Tryz.underlying3 (by decide)
    have F1 : Fit Tryz.prog 84 R0 (es.push ⟨.agg (shC c), .int .i64 0, clock⟩) (clock + 1) := ⟨by simp [maxLen]; omega, stamped_push F.stamped f2, fun x hx => by
      simp only [Array.toList_push, List.mem_append, List.mem_singleton] at hx
      rcases hx with hx | rfl
      · exact F.reads x hx
      · exact ⟨_, Go.WideElems.rd_mk hkey hplain⟩⟩
    rcases Maps.fit_look (H := Unit) (R := R0) false keyed_sh ht (hz _) hb1 F1 hkey with ⟨hr, _, _⟩ | ⟨e0, y, he0, hk0, hr, _⟩
    · simpa using hr
    · simp only [Array.toList_push, List.mem_append, List.mem_singleton] at he0
      rcases he0 with he0 | rfl
      · exact absurd hk0 (f2 e0 he0)
      · simpa using hr
  · have hj : es[j]? = some e0 := by simpa using f2
    have hsame : es.modify j (fun e => { e with key := .agg (shC c) }) = es := by
      apply Array.ext'
      rw [Array.toList_modify, Go.ChangeMaps.modify_eq_set _ _ _ _ f2]
      have : ({ e0 with key := .agg (shC c) } : MapEntry) = e0 := by rw [← f3]
      rw [this]
      exact Go.WideElems.set_self _ _ _ f2
    have hm : (Instr.mapEntry 126 (.map (some b)) (.agg (shC c))).run Tryz.prog W = .ok (.tuple #[e0.val, goInt e0.born]) (setBlock W b (.map es clock)) := by
      simp [Instr.mapEntry, run_underlying ht, MapKept.run_getObj_map hb, law_sh.check W false hkey, f1, hj, f3, law_sh.stays W hkey, hsame, MapKept.run_setObj_map _ hb, Result.andThen, setBlock]
    rw [h1] at hm
    have e1 : (setBlock W b (.map es clock)).heap[b]? = some (.map es clock) := heap_setBlock_same hb _
    have e2 : setBlock W b (.map es1 clock1) = setBlock W b (.map es clock) := by
      simp only [Result.ok.injEq] at hm; exact hm.2
    rw [← e2, hb1] at e1
    simp only [Option.some.injEq, Obj.map.injEq] at e1
    obtain ⟨rfl, rfl⟩ := e1
    have o1 : W.ownsMap Tryz.prog 84 (plainElem Tryz.prog 3) b es1.size (.map ((es1.toList.map (rg Tryz.prog 84 R0)).foldr DataW.insert [])) := ⟨es1, clock1, hb, F, Nat.le_refl _, rfl⟩
    have o2 : (setBlock W b (.map es1 clock1)).ownsMap Tryz.prog 84 (plainElem Tryz.prog 3) b es1.size (.map ((es1.toList.map (rg Tryz.prog 84 R0)).foldr DataW.insert [])) := ⟨es1, clock1, hb1, F, Nat.le_refl _, rfl⟩
    obtain ⟨a1, r1, t1, _⟩ := o1.lookup_int (H := Unit) keyed_sh ht Tryz.underlying3 (hz _) hkey
    obtain ⟨a2, r2, t2, _⟩ := o2.lookup_int (H := Unit) keyed_sh ht Tryz.underlying3 (hz _) hkey
    rw [t1] at t2
    simp only [DataW.lit.injEq, Lit.int.injEq, true_and] at t2
    rw [r1] at hrun
    simp only [Result.ok.injEq, Value.int.injEq, true_and, and_true] at hrun
    rw [r2, ← t2, hrun]

theorem below_setBlock {w : World} {b B : Nat} (hB : B ≤ b) (o : Obj) : Below B w (setBlock w b o) :=
  ⟨rfl, rfl, rfl, by simp [setBlock], fun k hk => by
    unfold setBlock
    show (w.heap.setIfInBounds b o)[k]? = _
    rw [Array.getElem?_setIfInBounds_ne (by omega)]⟩

/-- 'found[s]++'. -/
theorem KMap.bump {o : Obj} {ks : List Cnt} (k : KMap o ks) {W : World} {b : Nat} (hb : W.heap[b]? = some o) {c : Cnt} (hc : Cn c) (hlen : ks.length ≤ 1000000000) :
    ∃ (a : Int) (v0 : Value) (st : Nat) (o1 o2 : Obj), 0 ≤ a ∧ a ≤ 1000000000 ∧
      (Instr.lookup 126 (.map (some b)) (.agg (shC c)) false).run Tryz.prog W = .ok (.int .i64 a) W ∧
      (Instr.mapEntry 126 (.map (some b)) (.agg (shC c))).run Tryz.prog W = .ok (.tuple #[v0, .int .i64 (st : Int)]) (setBlock W b o1) ∧
      (Instr.entryStore 126 (.map (some b)) (.int .i64 (st : Int)) (.int .i64 (a + 1))).run Tryz.prog (setBlock W b o1) = .ok () (setBlock (setBlock W b o1) b o2) ∧
      (Instr.lookup 126 (.map (some b)) (.agg (shC c)) false).run Tryz.prog (setBlock W b o1) = .ok (.int .i64 a) (setBlock W b o1) ∧ KMap o2 (ks ++ [c]) ∧ (setBlock (setBlock W b o1) b o2).heap[b]? = some o2 ∧ ∀ k, k ≠ b → (setBlock (setBlock W b o1) b o2).heap[k]? = W.heap[k]? := by
  obtain ⟨es, clock, rfl, F, hs, hh, hv⟩ := k.ex
  have hkey := keyOf_sh hc
  have hown : W.ownsMap Tryz.prog 84 (plainElem Tryz.prog 3) b ks.length (.map ((es.toList.map (rg Tryz.prog 84 R0)).foldr DataW.insert [])) := ⟨es, clock, hb, F, hs, rfl⟩
  obtain ⟨a, hrun, hat, hwf⟩ := hown.lookup_int (H := Unit) keyed_sh Tryz.underlying126 Tryz.underlying3 (z_int W) hkey
  obtain ⟨ha0, ha1⟩ := hv _ _ hat
  obtain ⟨v0, st, es1, clock1, h1, _, h3⟩ := Go.WideElems.entry_then_store (H := Unit) (R := R0) law_sh Tryz.underlying126 (z := .int .i64 0) (fun u => z_int u) hb F hkey
  have hb1 : (setBlock W b (.map es1 clock1)).heap[b]? = some (.map es1 clock1) := heap_setBlock_same hb _
  obtain ⟨es', clock', h4, h5⟩ := h3 (setBlock W b (.map es1 clock1)) (.int .i64 (a + 1)) hb1
  have hwf1 : (Lit.int .i64 (a + 1)).wf = true := by
    simp [Lit.wf, IntKind.min, IntKind.max, IntKind.signed, IntKind.bits]; omega
  have hplain : R0 (.int .i64 (a + 1)) = some (.lit (.int .i64 (a + 1)), []) := plainElem_int Tryz.underlying3 hwf1
  obtain ⟨es2, clock2, h6, F2, hput, _⟩ := Maps.fit_store (H := Unit) (R := R0) (R' := R0) keyed_sh Tryz.underlying126 hb F (by unfold maxLen; omega) (fun _ _ _ _ hz => hz) hkey hplain
  have he : es' = es2 ∧ clock' = clock2 := by
    rw [h5] at h6
    simp only [Result.ok.injEq, true_and] at h6
    have e1 : (setBlock W b (.map es' clock')).heap[b]? = some (.map es' clock') := heap_setBlock_same hb _
    have e2 : (setBlock W b (.map es2 clock2)).heap[b]? = some (.map es2 clock2) := heap_setBlock_same hb _
    rw [h6, e2] at e1
    simp only [Option.some.injEq, Obj.map.injEq] at e1
    exact ⟨e1.1.symm, e1.2.symm⟩
  obtain ⟨rfl, rfl⟩ := he
  have hput' : (DataW.map ((es'.toList.map (rg Tryz.prog 84 R0)).foldr DataW.insert [])) = DataW.put (.map ((es.toList.map (rg Tryz.prog 84 R0)).foldr DataW.insert [])) (klOf c) (.lit (.int .i64 (a + 1))) := by
    rw [DataW.put_eq, hput]
  refine ⟨a, v0, st, _, _, ha0, by omega, hrun, h1, h4, look_behind hb F (by omega) hc hrun h1, ⟨⟨es', clock', rfl, F2, ?_, fun kl => ?_, fun kl x hx => ?_⟩, fun x hx => ?_⟩, heap_setBlock_same hb1 _, fun k hk => (heap_setBlock_other hb1 _ hk).trans (heap_setBlock_other hb _ hk)⟩
  · have e1 : es'.size = ((es'.toList.map (rg Tryz.prog 84 R0)).foldr DataW.insert []).length := by rw [length_sorted]; simp
    rw [e1, hput]
    unfold putKey
    rw [length_insert]
    have e2 := List.length_filter_le (notKey (klOf c)) ((es.toList.map (rg Tryz.prog 84 R0)).foldr DataW.insert [])
    rw [length_sorted] at e2
    simp at e2 ⊢
    omega
  · rw [hput']
    by_cases e : kl = klOf c
    · subst e
      rw [Maps.has_put_same ⟨_, rfl⟩ (klOf_key c)]
      exact ⟨fun _ => ⟨c, by simp, rfl⟩, fun _ => rfl⟩
    · rw [Maps.has_put_other e, hh]
      constructor
      · rintro ⟨c', hc', rfl⟩; exact ⟨c', by simp [hc'], rfl⟩
      · rintro ⟨c', hc', rfl⟩
        rcases List.mem_append.1 hc' with h | h
        · exact ⟨c', h, rfl⟩
        · rw [List.mem_singleton.1 h] at e; exact absurd rfl e
  · rw [hput'] at hx
    by_cases e : kl = klOf c
    · subst e
      rw [Maps.atKey_put_same ⟨_, rfl⟩ (klOf_key c)] at hx
      simp only [DataW.lit.injEq, Lit.int.injEq, true_and] at hx
      simp; omega
    · rw [Maps.atKey_put_other e] at hx
      have := hv _ _ hx
      simp; omega
  · rcases List.mem_append.1 hx with h | h
    · exact k.cn x h
    · rw [List.mem_singleton.1 h]; exact hc

section
variable {w : World} {ops : Array Oper} {rest : List Oper} {o : Oper} {a : Act} {Q : Exit → Act → World → Prop}
/-- One round of a range over the map: nothing is left, or one of the keys comes. -/
theorem wpList_nextSh (hg : o.guard = none) (it : Operand) (hop : o.op = Op.next it false) {b r n : Nat} {D : DataW Unit} {left : Lit → Bool} {cnt : Nat} {ks : List Cnt} (hcn : ∀ c ∈ ks, Cn c)
    (hD : ∀ kl, left kl = true → ∃ c ∈ ks, kl = klOf c)
    (hit : a.eval it = .pointer (some ⟨r, 0, none⟩)) (h : w.ranges Tryz.prog 84 R0 b r n D left cnt)
    (hDone : cnt = 0 → (∀ kl, left kl = false) → wpList Tryz.prog ops Q rest (a.put o.dst (.tuple #[.bool false])) w)
    (hMore : ∀ (c : Cnt) (v : Value) (w' : World) (cnt' : Nat), c ∈ ks → Cn c → left (klOf c) = true → w'.ranges Tryz.prog 84 R0 b r n D (fun z => left z && !z.sameKey (klOf c)) cnt' → cnt' < cnt →
      w.grownBy w' (some r) → w'.heap.size = w.heap.size → (Instr.entry (.pointer (some ⟨r, 0, none⟩))).run Tryz.prog w' = .ok (.tuple #[.agg (shC c), v]) w' → wpList Tryz.prog ops Q rest (a.put o.dst (.tuple #[.bool true, .agg (shC c), v])) w') :
    wpList Tryz.prog ops Q (o :: rest) a w := by
  refine wpList_plain hg fun K' hK' => ?_
  unfold Oper.wp
  rcases h.next keyed_sh o.type with ⟨h0, hl, hrun⟩ | ⟨key, v, kl, y, w', cnt', hkey, hlk, hv, hat, hrun, hrg, hlt, hgr, hsz, hen⟩
  · simp [execOp, hop, hit, hrun, Result.andThen]
    exact hK' _ _ (hDone h0 hl)
  · obtain ⟨c, hc, rfl⟩ := hD kl hlk
    have hcn' := hcn c hc
    obtain rfl : key = .agg (shC c) := keyed_sh.inj hkey (keyOf_sh hcn')
    simp [execOp, hop, hit, hrun, Result.andThen]
    exact hK' _ _ (hMore c v w' cnt' hc hcn' hlk hrg hlt hgr hsz hen)
end

end Go.Proofs.YtngdppajailpcaaGreat

namespace Go.Proofs.YtngdppajailpcaaGreat
open Go.RowKit

attribute [local go_sem] Holds.drew Holds.alloc Holds.drewN WB.holds Oper.semAt_some FW_fn FW_dep FW_round run_loadShV run_indexShV run_indexRow
attribute [local go_sem ↓] loadAt_sh index_sh index_row

/-- The shelf that 'each' has made of the first n numbers. -/
def eachTo (f : Int → Int → Int) (c d : Cnt) (n : Nat) : Cnt := mk12 fun k => if k < n then f (gT c k) (gT d k) else 0
theorem eachTo_zero (f : Int → Int → Int) (c d : Cnt) : eachTo f c d 0 = zero12 := mk12_congr fun k _ => by simp
theorem eachTo_succ (f : Int → Int → Int) (c d : Cnt) (n : Nat) : (eachTo f c d n).set n (f (gT c n) (gT d n)) = eachTo f c d (n + 1) := by
  unfold eachTo
  rw [mk12_set]
  refine mk12_congr fun k _ => ?_
  by_cases e : k = n
  · subst e; simp
  · rw [if_neg e]
    by_cases h : k < n
    · rw [if_pos h, if_pos (by omega)]
    · rw [if_neg h, if_neg (by omega)]
theorem eachTo_all (f : Int → Int → Int) {c d : Cnt} (hc : c.length = 12) (hd : d.length = 12) : eachTo f c d 12 = List.zipWith f c d := by
  rw [zip12 f c d hc hd]
  exact mk12_congr fun k hk => by rw [if_pos hk]; rfl
theorem eachTo_len (f : Int → Int → Int) (c d : Cnt) (n : Nat) : (eachTo f c d n).length = 12 := mk12_len _
theorem eachTo_at (f : Int → Int → Int) (c d : Cnt) {n : Nat} (hn : n < 12) : At (eachTo f c d n) n 0 := by
  show _ = _
  unfold eachTo
  rw [mk12_at _ hn, if_neg (by omega)]

def addF (a b : Int) : Int := a + b
def maxF (a b : Int) : Int := max a b
def lackF (a b : Int) : Int := max 0 (b - a)

theorem add1_any (a b : Int) (ha : 0 ≤ a ∧ a ≤ 1000) (hb : 0 ≤ b ∧ b ≤ 1000) (w : World) :
    Calls Tryz.prog 131 #[.int .i64 a, .int .i64 b] w fun e w' => e = .returned (.int .i64 (addF a b)) ∧ w = w' := by
  obtain ⟨a1, a2⟩ := ha
  obtain ⟨b1, b2⟩ := hb
  go_enter Tryz.func131, Tryz.ntmps131
  go_wp2
  all_goals
    go_ret
    exact ⟨ret_int (by simp only [addF]), rfl⟩

set_option maxRecDepth 100000 in
set_option maxHeartbeats 4000000 in
theorem add_each (c d : Cnt) (hc : Cn c) (hd : Cn d) (H : Snap) (w : World) (hw : Holds H w) :
    Calls Tryz.prog 121 #[.agg (shC c), .agg (shC d), .func (.func 131) #[] #[]] w (PostV w (.agg (shC (List.zipWith addF c d)))) := by
  go_enter Tryz.func121, Tryz.ntmps121
  go_upto_region 1 with (first
    | (refine wpList_boxF rfl _ rfl (Ext.refl hw) ?_; intro B1 w1 H1 hle1 hx1 hB1 hBw1; clear hw)
    | (refine wpList_boxF rfl _ rfl hx1 ?_; intro B2 w2 H2 hle2 hx2 hB2 hBw2; replace hB1 := hle2 _ _ hB1; clear hx1 hle1 hle2))
  have hw2 := hx2.holds
  have hl := hc.len
  have hl' := hd.len
  have hcB1 : ∀ k, k < 12 → ∀ w, Holds H2 w → w.cell? ⟨B1, k, none⟩ = some (.int .i64 (gT c k)) := fun k hk => cellSh hB1 hc hk
  have hcB2 : ∀ k, k < 12 → ∀ w, Holds H2 w → w.cell? ⟨B2, k, none⟩ = some (.int .i64 (gT d k)) := fun k hk => cellSh hB2 hd hk
  have hrow : ShV H2 w.heap.size (w2.alloc (.cells #[.int .i64 0, .int .i64 0, .int .i64 0, .int .i64 0, .int .i64 0, .int .i64 0, .int .i64 0, .int .i64 0, .int .i64 0, .int .i64 0, .int .i64 0, .int .i64 0] 84)) w2.heap.size (eachTo addF c d 0) := by
    rw [eachTo_zero]; exact ShV.new hw2 hx2.below.size
  have hxa := hx2.alloc (.cells #[.int .i64 0, .int .i64 0, .int .i64 0, .int .i64 0, .int .i64 0, .int .i64 0, .int .i64 0, .int .i64 0, .int .i64 0, .int .i64 0, .int .i64 0, .int .i64 0] 84)
  generalize w2.alloc (.cells #[.int .i64 0, .int .i64 0, .int .i64 0, .int .i64 0, .int .i64 0, .int .i64 0, .int .i64 0, .int .i64 0, .int .i64 0, .int .i64 0, .int .i64 0, .int .i64 0] 84) = w3 at *
  generalize w2.heap.size = R at *
  clear hx2 hw2 hB1 hB2
  have hRn := hrow.free
  have hRb := hrow.base
  go_wp2
  go_loopw [9] (fun i wr => ∃ k : Nat, k ≤ 4 ∧ i = .int .i64 k ∧ ShV H2 w.heap.size wr R (eachTo addF c d (k * 3)) ∧ Ext w H wr H2) (fun i _ => 4 - (intOf i).toNat)
  case atStart => exact ⟨0, by omega, rfl, hrow, hxa⟩
  case round =>
    clear hrow hxa
    obtain ⟨k, hk, rfl, hrow, hxr⟩ := hrel
    by_cases hlk : k < 4
    · go_wp2
      go_loopw [12] (fun i wr => ∃ j : Nat, j ≤ 3 ∧ i = .int .i64 j ∧ ShV H2 w.heap.size wr R (eachTo addF c d (k * 3 + j)) ∧ Ext w H wr H2) (fun i _ => 3 - (intOf i).toNat)
      case atStart => exact ⟨0, by omega, rfl, hrow, hxr⟩
      case round =>
        clear hrow hxr
        obtain ⟨j, hj, rfl, hrow, hxr⟩ := hrel
        have hwr := hxr.holds
        by_cases hlj : j < 3
        · have hn : k * 3 + j < 12 := by omega
          have e1 := hcB1 (k * 3 + j) hn
          have e2 := hcB2 (k * 3 + j) hn
          have g1 := (hc.gt hn).2
          have g2 := (hd.gt hn).2
          have hz := hrow.cell (eachTo_at addF c d hn)
          have hzf := hrow.fz (k * 3 + j)
          have hlt := hrow.lt
          have hk0 : (0 : Int) ≤ (k : Int) := by omega
          have hk1 : (k : Int) < 4 := by omega
          have hj0 : (0 : Int) ≤ (j : Int) := by omega
          have hj1 : (j : Int) < 3 := by omega
          go_wp2
          refine (wpIn_wide (n := 3)).1 ?_
          show Code.wpIn (FW none) 3 _ _ _ _ _
          have hnq : Nonempty (WB H2 wr) := ⟨⟨wr, hwr, Below.refl _ _⟩⟩
          refine wpIn_region_qtail (C := fun w' => ∃ x : WB H2 wr, w' = x.w) 16 (by kernel_rfl) (by kernel_rfl) (by kernel_rfl) ⟨⟨World.drew wr, Holds.drew hwr, (Below.refl _ _).drew⟩, rfl⟩ ?_
          simp only [List.take_succ_cons, List.take_zero, List.drop_succ_cons, List.drop_zero]
          repeat go_big_quiet_step ((first | (go_at_call 131; exact Calls.quietS (add1_any _ _ g1 g2 _))))
          refine wpQuiet_nil ?_
          clear hnq
          rintro w2 ⟨⟨_, hw2, hb2⟩, rfl⟩
          have hrow2 := hrow.ext ⟨hb2, hw2, fun _ _ => rfl⟩
          have hzf2 := hrow2.fz (k * 3 + j)
          have hz2 := hrow2.cell (eachTo_at addF c d hn)
          have hrow3 := hrow2.set (k * 3 + j) (addF (gT c (k * 3 + j)) (gT d (k * 3 + j)))
          rw [eachTo_succ] at hrow3
          have hx3 : Ext w H (World.setCell w2 ⟨R, k * 3 + j, none⟩ (.int .i64 (addF (gT c (k * 3 + j)) (gT d (k * 3 + j))))) H2 := (hxr.step (hb2.mono hxr.below.size) hw2).setCell hRb hRn _
          gi_wp2
          go_wp2
          go_roundw
          case rel => exact ⟨j + 1, by omega, by go_num, hrow3, hx3⟩
          case measure => simp [intOf]; omega
        · obtain rfl : j = 3 := by omega
          go_wp2
          go_roundw
          case rel => exact ⟨k + 1, by omega, by go_num, by rw [show (k + 1) * 3 = k * 3 + 3 by omega]; exact hrow, hxr⟩
          case measure => simp [intOf]; omega
    · obtain rfl : k = 4 := by omega
      rw [show 4 * 3 = 12 from rfl] at hrow
      have hml := mid_row (show wr.heap[R]? = some (.cells (shC (eachTo addF c d 12)) 84 (0, 0)) from hrow.at_) (eachTo_len _ _ _ _)
      have hms : (shC (eachTo addF c d 12)).size = 12 := by rw [shC_size, eachTo_len]
      go_wp2_with (first | (refine wpList_storeSh rfl _ _ rfl rfl rfl hrow (eachTo_len _ _ _ _) (eachTo_len _ _ _ _) hxr (Nat.le_refl _) ?_; intro w5 hrow5 hx5 hO5 hz5))
      refine bodyPost_ret (results_cell_row rfl _ _ R _ (shC (eachTo addF c d 12)) (0, 0) _ rfl hrow5.at_ Tryz.underlying84 rfl (by rw [hms]; exact size_sh)) rfl ?_
      exact ⟨by rw [eachTo_all _ hl hl'], hx5.below⟩

theorem joined1_any (a b : Int) (ha : 0 ≤ a ∧ a ≤ 1000) (hb : 0 ≤ b ∧ b ≤ 1000) (w : World) :
    Calls Tryz.prog 122 #[.int .i64 a, .int .i64 b] w fun e w' => e = .returned (.int .i64 (maxF a b)) ∧ w = w' := by
  obtain ⟨a1, a2⟩ := ha
  obtain ⟨b1, b2⟩ := hb
  go_enter Tryz.func122, Tryz.ntmps122
  go_wp2
  all_goals
    go_ret
    exact ⟨ret_int (by simp only [maxF]; omega), rfl⟩

set_option maxRecDepth 100000 in
set_option maxHeartbeats 4000000 in
theorem joined_each (c d : Cnt) (hc : Cn c) (hd : Cn d) (H : Snap) (w : World) (hw : Holds H w) :
    Calls Tryz.prog 121 #[.agg (shC c), .agg (shC d), .func (.func 122) #[] #[]] w (PostV w (.agg (shC (List.zipWith maxF c d)))) := by
  go_enter Tryz.func121, Tryz.ntmps121
  go_upto_region 1 with (first
    | (refine wpList_boxF rfl _ rfl (Ext.refl hw) ?_; intro B1 w1 H1 hle1 hx1 hB1 hBw1; clear hw)
    | (refine wpList_boxF rfl _ rfl hx1 ?_; intro B2 w2 H2 hle2 hx2 hB2 hBw2; replace hB1 := hle2 _ _ hB1; clear hx1 hle1 hle2))
  have hw2 := hx2.holds
  have hl := hc.len
  have hl' := hd.len
  have hcB1 : ∀ k, k < 12 → ∀ w, Holds H2 w → w.cell? ⟨B1, k, none⟩ = some (.int .i64 (gT c k)) := fun k hk => cellSh hB1 hc hk
  have hcB2 : ∀ k, k < 12 → ∀ w, Holds H2 w → w.cell? ⟨B2, k, none⟩ = some (.int .i64 (gT d k)) := fun k hk => cellSh hB2 hd hk
  have hrow : ShV H2 w.heap.size (w2.alloc (.cells #[.int .i64 0, .int .i64 0, .int .i64 0, .int .i64 0, .int .i64 0, .int .i64 0, .int .i64 0, .int .i64 0, .int .i64 0, .int .i64 0, .int .i64 0, .int .i64 0] 84)) w2.heap.size (eachTo maxF c d 0) := by
    rw [eachTo_zero]; exact ShV.new hw2 hx2.below.size
  have hxa := hx2.alloc (.cells #[.int .i64 0, .int .i64 0, .int .i64 0, .int .i64 0, .int .i64 0, .int .i64 0, .int .i64 0, .int .i64 0, .int .i64 0, .int .i64 0, .int .i64 0, .int .i64 0] 84)
  generalize w2.alloc (.cells #[.int .i64 0, .int .i64 0, .int .i64 0, .int .i64 0, .int .i64 0, .int .i64 0, .int .i64 0, .int .i64 0, .int .i64 0, .int .i64 0, .int .i64 0, .int .i64 0] 84) = w3 at *
  generalize w2.heap.size = R at *
  clear hx2 hw2 hB1 hB2
  have hRn := hrow.free
  have hRb := hrow.base
  go_wp2
  go_loopw [9] (fun i wr => ∃ k : Nat, k ≤ 4 ∧ i = .int .i64 k ∧ ShV H2 w.heap.size wr R (eachTo maxF c d (k * 3)) ∧ Ext w H wr H2) (fun i _ => 4 - (intOf i).toNat)
  case atStart => exact ⟨0, by omega, rfl, hrow, hxa⟩
  case round =>
    clear hrow hxa
    obtain ⟨k, hk, rfl, hrow, hxr⟩ := hrel
    by_cases hlk : k < 4
    · go_wp2
      go_loopw [12] (fun i wr => ∃ j : Nat, j ≤ 3 ∧ i = .int .i64 j ∧ ShV H2 w.heap.size wr R (eachTo maxF c d (k * 3 + j)) ∧ Ext w H wr H2) (fun i _ => 3 - (intOf i).toNat)
      case atStart => exact ⟨0, by omega, rfl, hrow, hxr⟩
      case round =>
        clear hrow hxr
        obtain ⟨j, hj, rfl, hrow, hxr⟩ := hrel
        have hwr := hxr.holds
        by_cases hlj : j < 3
        · have hn : k * 3 + j < 12 := by omega
          have e1 := hcB1 (k * 3 + j) hn
          have e2 := hcB2 (k * 3 + j) hn
          have g1 := (hc.gt hn).2
          have g2 := (hd.gt hn).2
          have hz := hrow.cell (eachTo_at maxF c d hn)
          have hzf := hrow.fz (k * 3 + j)
          have hlt := hrow.lt
          have hk0 : (0 : Int) ≤ (k : Int) := by omega
          have hk1 : (k : Int) < 4 := by omega
          have hj0 : (0 : Int) ≤ (j : Int) := by omega
          have hj1 : (j : Int) < 3 := by omega
          go_wp2
          refine (wpIn_wide (n := 3)).1 ?_
          show Code.wpIn (FW none) 3 _ _ _ _ _
          have hnq : Nonempty (WB H2 wr) := ⟨⟨wr, hwr, Below.refl _ _⟩⟩
          refine wpIn_region_qtail (C := fun w' => ∃ x : WB H2 wr, w' = x.w) 16 (by kernel_rfl) (by kernel_rfl) (by kernel_rfl) ⟨⟨World.drew wr, Holds.drew hwr, (Below.refl _ _).drew⟩, rfl⟩ ?_
          simp only [List.take_succ_cons, List.take_zero, List.drop_succ_cons, List.drop_zero]
          repeat go_big_quiet_step ((first | (go_at_call 122; exact Calls.quietS (joined1_any _ _ g1 g2 _))))
          refine wpQuiet_nil ?_
          clear hnq
          rintro w2 ⟨⟨_, hw2, hb2⟩, rfl⟩
          have hrow2 := hrow.ext ⟨hb2, hw2, fun _ _ => rfl⟩
          have hzf2 := hrow2.fz (k * 3 + j)
          have hz2 := hrow2.cell (eachTo_at maxF c d hn)
          have hrow3 := hrow2.set (k * 3 + j) (maxF (gT c (k * 3 + j)) (gT d (k * 3 + j)))
          rw [eachTo_succ] at hrow3
          have hx3 : Ext w H (World.setCell w2 ⟨R, k * 3 + j, none⟩ (.int .i64 (maxF (gT c (k * 3 + j)) (gT d (k * 3 + j))))) H2 := (hxr.step (hb2.mono hxr.below.size) hw2).setCell hRb hRn _
          gi_wp2
          go_wp2
          go_roundw
          case rel => exact ⟨j + 1, by omega, by go_num, hrow3, hx3⟩
          case measure => simp [intOf]; omega
        · obtain rfl : j = 3 := by omega
          go_wp2
          go_roundw
          case rel => exact ⟨k + 1, by omega, by go_num, by rw [show (k + 1) * 3 = k * 3 + 3 by omega]; exact hrow, hxr⟩
          case measure => simp [intOf]; omega
    · obtain rfl : k = 4 := by omega
      rw [show 4 * 3 = 12 from rfl] at hrow
      have hml := mid_row (show wr.heap[R]? = some (.cells (shC (eachTo maxF c d 12)) 84 (0, 0)) from hrow.at_) (eachTo_len _ _ _ _)
      have hms : (shC (eachTo maxF c d 12)).size = 12 := by rw [shC_size, eachTo_len]
      go_wp2_with (first | (refine wpList_storeSh rfl _ _ rfl rfl rfl hrow (eachTo_len _ _ _ _) (eachTo_len _ _ _ _) hxr (Nat.le_refl _) ?_; intro w5 hrow5 hx5 hO5 hz5))
      refine bodyPost_ret (results_cell_row rfl _ _ R _ (shC (eachTo maxF c d 12)) (0, 0) _ rfl hrow5.at_ Tryz.underlying84 rfl (by rw [hms]; exact size_sh)) rfl ?_
      exact ⟨by rw [eachTo_all _ hl hl'], hx5.below⟩

theorem missing1_any (a b : Int) (ha : 0 ≤ a ∧ a ≤ 1000) (hb : 0 ≤ b ∧ b ≤ 1000) (w : World) :
    Calls Tryz.prog 141 #[.int .i64 a, .int .i64 b] w fun e w' => e = .returned (.int .i64 (lackF a b)) ∧ w = w' := by
  obtain ⟨a1, a2⟩ := ha
  obtain ⟨b1, b2⟩ := hb
  go_enter Tryz.func141, Tryz.ntmps141
  go_wp2
  all_goals
    go_ret
    exact ⟨ret_int (by simp only [lackF]; omega), rfl⟩

set_option maxRecDepth 100000 in
set_option maxHeartbeats 4000000 in
theorem missing_each (c d : Cnt) (hc : Cn c) (hd : Cn d) (H : Snap) (w : World) (hw : Holds H w) :
    Calls Tryz.prog 121 #[.agg (shC c), .agg (shC d), .func (.func 141) #[] #[]] w (PostV w (.agg (shC (List.zipWith lackF c d)))) := by
  go_enter Tryz.func121, Tryz.ntmps121
  go_upto_region 1 with (first
    | (refine wpList_boxF rfl _ rfl (Ext.refl hw) ?_; intro B1 w1 H1 hle1 hx1 hB1 hBw1; clear hw)
    | (refine wpList_boxF rfl _ rfl hx1 ?_; intro B2 w2 H2 hle2 hx2 hB2 hBw2; replace hB1 := hle2 _ _ hB1; clear hx1 hle1 hle2))
  have hw2 := hx2.holds
  have hl := hc.len
  have hl' := hd.len
  have hcB1 : ∀ k, k < 12 → ∀ w, Holds H2 w → w.cell? ⟨B1, k, none⟩ = some (.int .i64 (gT c k)) := fun k hk => cellSh hB1 hc hk
  have hcB2 : ∀ k, k < 12 → ∀ w, Holds H2 w → w.cell? ⟨B2, k, none⟩ = some (.int .i64 (gT d k)) := fun k hk => cellSh hB2 hd hk
  have hrow : ShV H2 w.heap.size (w2.alloc (.cells #[.int .i64 0, .int .i64 0, .int .i64 0, .int .i64 0, .int .i64 0, .int .i64 0, .int .i64 0, .int .i64 0, .int .i64 0, .int .i64 0, .int .i64 0, .int .i64 0] 84)) w2.heap.size (eachTo lackF c d 0) := by
    rw [eachTo_zero]; exact ShV.new hw2 hx2.below.size
  have hxa := hx2.alloc (.cells #[.int .i64 0, .int .i64 0, .int .i64 0, .int .i64 0, .int .i64 0, .int .i64 0, .int .i64 0, .int .i64 0, .int .i64 0, .int .i64 0, .int .i64 0, .int .i64 0] 84)
  generalize w2.alloc (.cells #[.int .i64 0, .int .i64 0, .int .i64 0, .int .i64 0, .int .i64 0, .int .i64 0, .int .i64 0, .int .i64 0, .int .i64 0, .int .i64 0, .int .i64 0, .int .i64 0] 84) = w3 at *
  generalize w2.heap.size = R at *
  clear hx2 hw2 hB1 hB2
  have hRn := hrow.free
  have hRb := hrow.base
  go_wp2
  go_loopw [9] (fun i wr => ∃ k : Nat, k ≤ 4 ∧ i = .int .i64 k ∧ ShV H2 w.heap.size wr R (eachTo lackF c d (k * 3)) ∧ Ext w H wr H2) (fun i _ => 4 - (intOf i).toNat)
  case atStart => exact ⟨0, by omega, rfl, hrow, hxa⟩
  case round =>
    clear hrow hxa
    obtain ⟨k, hk, rfl, hrow, hxr⟩ := hrel
    by_cases hlk : k < 4
    · go_wp2
      go_loopw [12] (fun i wr => ∃ j : Nat, j ≤ 3 ∧ i = .int .i64 j ∧ ShV H2 w.heap.size wr R (eachTo lackF c d (k * 3 + j)) ∧ Ext w H wr H2) (fun i _ => 3 - (intOf i).toNat)
      case atStart => exact ⟨0, by omega, rfl, hrow, hxr⟩
      case round =>
        clear hrow hxr
        obtain ⟨j, hj, rfl, hrow, hxr⟩ := hrel
        have hwr := hxr.holds
        by_cases hlj : j < 3
        · have hn : k * 3 + j < 12 := by omega
          have e1 := hcB1 (k * 3 + j) hn
          have e2 := hcB2 (k * 3 + j) hn
          have g1 := (hc.gt hn).2
          have g2 := (hd.gt hn).2
          have hz := hrow.cell (eachTo_at lackF c d hn)
          have hzf := hrow.fz (k * 3 + j)
          have hlt := hrow.lt
          have hk0 : (0 : Int) ≤ (k : Int) := by omega
          have hk1 : (k : Int) < 4 := by omega
          have hj0 : (0 : Int) ≤ (j : Int) := by omega
          have hj1 : (j : Int) < 3 := by omega
          go_wp2
          refine (wpIn_wide (n := 3)).1 ?_
          show Code.wpIn (FW none) 3 _ _ _ _ _
          have hnq : Nonempty (WB H2 wr) := ⟨⟨wr, hwr, Below.refl _ _⟩⟩
          refine wpIn_region_qtail (C := fun w' => ∃ x : WB H2 wr, w' = x.w) 16 (by kernel_rfl) (by kernel_rfl) (by kernel_rfl) ⟨⟨World.drew wr, Holds.drew hwr, (Below.refl _ _).drew⟩, rfl⟩ ?_
          simp only [List.take_succ_cons, List.take_zero, List.drop_succ_cons, List.drop_zero]
          repeat go_big_quiet_step ((first | (go_at_call 141; exact Calls.quietS (missing1_any _ _ g1 g2 _))))
          refine wpQuiet_nil ?_
          clear hnq
          rintro w2 ⟨⟨_, hw2, hb2⟩, rfl⟩
          have hrow2 := hrow.ext ⟨hb2, hw2, fun _ _ => rfl⟩
          have hzf2 := hrow2.fz (k * 3 + j)
          have hz2 := hrow2.cell (eachTo_at lackF c d hn)
          have hrow3 := hrow2.set (k * 3 + j) (lackF (gT c (k * 3 + j)) (gT d (k * 3 + j)))
          rw [eachTo_succ] at hrow3
          have hx3 : Ext w H (World.setCell w2 ⟨R, k * 3 + j, none⟩ (.int .i64 (lackF (gT c (k * 3 + j)) (gT d (k * 3 + j))))) H2 := (hxr.step (hb2.mono hxr.below.size) hw2).setCell hRb hRn _
          gi_wp2
          go_wp2
          go_roundw
          case rel => exact ⟨j + 1, by omega, by go_num, hrow3, hx3⟩
          case measure => simp [intOf]; omega
        · obtain rfl : j = 3 := by omega
          go_wp2
          go_roundw
          case rel => exact ⟨k + 1, by omega, by go_num, by rw [show (k + 1) * 3 = k * 3 + 3 by omega]; exact hrow, hxr⟩
          case measure => simp [intOf]; omega
    · obtain rfl : k = 4 := by omega
      rw [show 4 * 3 = 12 from rfl] at hrow
      have hml := mid_row (show wr.heap[R]? = some (.cells (shC (eachTo lackF c d 12)) 84 (0, 0)) from hrow.at_) (eachTo_len _ _ _ _)
      have hms : (shC (eachTo lackF c d 12)).size = 12 := by rw [shC_size, eachTo_len]
      go_wp2_with (first | (refine wpList_storeSh rfl _ _ rfl rfl rfl hrow (eachTo_len _ _ _ _) (eachTo_len _ _ _ _) hxr (Nat.le_refl _) ?_; intro w5 hrow5 hx5 hO5 hz5))
      refine bodyPost_ret (results_cell_row rfl _ _ R _ (shC (eachTo lackF c d 12)) (0, 0) _ rfl hrow5.at_ Tryz.underlying84 rfl (by rw [hms]; exact size_sh)) rfl ?_
      exact ⟨by rw [eachTo_all _ hl hl'], hx5.below⟩

theorem lack_zero {a b : Cnt} (ha : Cn a) (hb : Cn b) : decide (List.zipWith lackF a b = zero12) = cntLe b a := by
  rw [Bool.eq_iff_iff, decide_eq_true_eq, cntLe_iff hb.len ha.len, zip12 _ _ _ ha.len hb.len]
  constructor
  · intro h k hk
    have := congrArg (fun l : List Int => l.getD k 0) h
    simp only [zero12] at this
    rw [mk12_get _ hk, mk12_get _ hk] at this
    unfold lackF at this; omega
  · intro h
    exact mk12_congr fun k hk => by have := h k hk; unfold lackF; omega
theorem lack_cn {a b : Cnt} (ha : Cn a) (hb : Cn b) : Cn (List.zipWith lackF a b) := by
  rw [zip12 _ _ _ ha.len hb.len]
  refine Cn.mk12 fun k hk => ?_
  have h1 := (ha.at_ hk).2
  have h2 := (hb.at_ hk).2
  unfold lackF; omega
theorem max_zip (a b : Cnt) : List.zipWith maxF a b = cntMax a b := (cntMax_zip a b).symm
theorem max_cn {a b : Cnt} (ha : Cn a) (hb : Cn b) : Cn (cntMax a b) := by
  rw [cntMax_zip, zip12 _ _ _ ha.len hb.len]
  refine Cn.mk12 fun k hk => ?_
  have h1 := (ha.at_ hk).2
  have h2 := (hb.at_ hk).2
  omega

set_option maxRecDepth 100000 in
theorem missing_any (c d : Cnt) (hc : Cn c) (hd : Cn d) (H : Snap) (w : World) (hw : Holds H w) :
    Calls Tryz.prog 126 #[.agg (shC c), .agg (shC d)] w (PostV w (.agg (shC (List.zipWith lackF c d)))) := by
  have hl := hc.len
  have hl' := hd.len
  have hz := (lack_cn hc hd).len
  go_enter Tryz.func126, Tryz.ntmps126
  go_upto_region 1 with (first
    | (refine wpList_boxF rfl _ rfl (Ext.refl hw) ?_; intro B1 w1 H1 hle1 hx1 hB1 hBw1; clear hw)
    | (refine wpList_boxF rfl _ rfl hx1 ?_; intro B2 w2 H2 hle2 hx2 hB2 hBw2; replace hB1 := hle2 _ _ hB1; clear hx1 hle1 hle2))
  have hw2 := hx2.holds
  have h1 := midH hB1 hl
  have h2 := midH hB2 hl'
  have s1 : (shC c).size = 12 := by rw [shC_size, hl]
  have s2 : (shC d).size = 12 := by rw [shC_size, hl']
  have hrow := ShV.new hw2 hx2.below.size
  have hxa := hx2.alloc (.cells #[.int .i64 0, .int .i64 0, .int .i64 0, .int .i64 0, .int .i64 0, .int .i64 0, .int .i64 0, .int .i64 0, .int .i64 0, .int .i64 0, .int .i64 0, .int .i64 0] 84)
  generalize w2.alloc (.cells #[.int .i64 0, .int .i64 0, .int .i64 0, .int .i64 0, .int .i64 0, .int .i64 0, .int .i64 0, .int .i64 0, .int .i64 0, .int .i64 0, .int .i64 0, .int .i64 0] 84) = w3 at *
  generalize w2.heap.size = R at *
  have hw3 := hxa.holds
  clear hx2 hw2 hB1 hB2
  go_wp2_with (first | (have hgd := x4; clear hgd; refine wpList_storeSh rfl _ _ rfl rfl rfl r4 Cn.zero.len hz x4 (Nat.le_refl _) ?_; intro w5 r5 x5 hO5 hz5) | (go_at_call 121; refine (missing_each c d hc hd H2 _ hw3).mono ?_; rintro e w4 ⟨rfl, hb4⟩; have hw4 := hw3.below hb4; have x4 := hxa.step (hb4.mono hxa.below.size) hw4; have r4 := hrow.ext ⟨hb4, hw4, fun _ _ => rfl⟩))
  refine bodyPost_ret (results_cell_row rfl _ _ R _ (shC (List.zipWith lackF c d)) (0, 0) _ rfl r5.at_ Tryz.underlying84 rfl (by rw [shC_size, hz]; exact size_sh)) rfl ?_
  exact ⟨rfl, x5.below⟩
set_option maxRecDepth 100000 in
theorem joined_any (c d : Cnt) (hc : Cn c) (hd : Cn d) (H : Snap) (w : World) (hw : Holds H w) :
    Calls Tryz.prog 89 #[.agg (shC c), .agg (shC d)] w (PostV w (.agg (shC (cntMax c d)))) := by
  have hl := hc.len
  have hl' := hd.len
  have hz := (max_cn hc hd).len
  rw [← max_zip] at hz ⊢
  go_enter Tryz.func89, Tryz.ntmps89
  go_upto_region 1 with (first
    | (refine wpList_boxF rfl _ rfl (Ext.refl hw) ?_; intro B1 w1 H1 hle1 hx1 hB1 hBw1; clear hw)
    | (refine wpList_boxF rfl _ rfl hx1 ?_; intro B2 w2 H2 hle2 hx2 hB2 hBw2; replace hB1 := hle2 _ _ hB1; clear hx1 hle1 hle2))
  have hw2 := hx2.holds
  have h1 := midH hB1 hl
  have h2 := midH hB2 hl'
  have s1 : (shC c).size = 12 := by rw [shC_size, hl]
  have s2 : (shC d).size = 12 := by rw [shC_size, hl']
  have hrow := ShV.new hw2 hx2.below.size
  have hxa := hx2.alloc (.cells #[.int .i64 0, .int .i64 0, .int .i64 0, .int .i64 0, .int .i64 0, .int .i64 0, .int .i64 0, .int .i64 0, .int .i64 0, .int .i64 0, .int .i64 0, .int .i64 0] 84)
  generalize w2.alloc (.cells #[.int .i64 0, .int .i64 0, .int .i64 0, .int .i64 0, .int .i64 0, .int .i64 0, .int .i64 0, .int .i64 0, .int .i64 0, .int .i64 0, .int .i64 0, .int .i64 0] 84) = w3 at *
  generalize w2.heap.size = R at *
  have hw3 := hxa.holds
  clear hx2 hw2 hB1 hB2
  go_wp2_with (first | (have hgd := x4; clear hgd; refine wpList_storeSh rfl _ _ rfl rfl rfl r4 Cn.zero.len hz x4 (Nat.le_refl _) ?_; intro w5 r5 x5 hO5 hz5) | (go_at_call 121; refine (joined_each c d hc hd H2 _ hw3).mono ?_; rintro e w4 ⟨rfl, hb4⟩; have hw4 := hw3.below hb4; have x4 := hxa.step (hb4.mono hxa.below.size) hw4; have r4 := hrow.ext ⟨hb4, hw4, fun _ _ => rfl⟩))
  refine bodyPost_ret (results_cell_row rfl _ _ R _ (shC (List.zipWith maxF c d)) (0, 0) _ rfl r5.at_ Tryz.underlying84 rfl (by rw [shC_size, hz]; exact size_sh)) rfl ?_
  exact ⟨rfl, x5.below⟩

set_option maxRecDepth 100000 in
theorem has_any (c d : Cnt) (hc : Cn c) (hd : Cn d) (H : Snap) (w : World) (hw : Holds H w) :
    Calls Tryz.prog 96 #[.agg (shC c), .agg (shC d)] w (PostV w (.bool (cntLe d c))) := by
  have hl := hc.len
  have hl' := hd.len
  have hz := lack_cn hc hd
  have he := fun w => run_eql_sh w hz Cn.zero
  rw [lack_zero hc hd, shC_zero] at he
  go_enter Tryz.func96, Tryz.ntmps96
  go_upto_region 1 with (first
    | (refine wpList_boxF rfl _ rfl (Ext.refl hw) ?_; intro B1 w1 H1 hle1 hx1 hB1 hBw1; clear hw)
    | (refine wpList_boxF rfl _ rfl hx1 ?_; intro B2 w2 H2 hle2 hx2 hB2 hBw2; replace hB1 := hle2 _ _ hB1; clear hx1 hle1 hle2))
  have hw2 := hx2.holds
  have h1 := midH hB1 hl
  have h2 := midH hB2 hl'
  have s1 : (shC c).size = 12 := by rw [shC_size, hl]
  have s2 : (shC d).size = 12 := by rw [shC_size, hl']
  go_wp2_with (first | (go_at_call 126; refine (missing_any c d hc hd H2 _ hw2).mono ?_; rintro e w4 ⟨rfl, hb4⟩))
  go_ret
  exact ⟨rfl, hx2.below.trans (hb4.mono hx2.below.size)⟩

end Go.Proofs.YtngdppajailpcaaGreat

namespace Go.Proofs.YtngdppajailpcaaGreat
open Go.RowKit

attribute [local go_sem] Holds.drew Holds.alloc Holds.drewN WB.holds

theorem isNaN_any (n : Int) (w : World) : Calls Tryz.prog 124 #[.int .i64 n] w fun e w' => e = .returned (.bool false) ∧ w = w' := by
  go_enter Tryz.func124, Tryz.ntmps124
  go_wp2
  go_ret
  exact ⟨by simp, rfl⟩

def cmp3 (a b : Int) : Int := if a < b then -1 else if b < a then 1 else 0

theorem cmpInt_any (a b : Int) (w : World) : Calls Tryz.prog 94 #[.int .i64 a, .int .i64 b] w fun e w' => e = .returned (.int .i64 (cmp3 a b)) ∧ w = w' := by
  cases h1 : decide (a < b)
  · cases h2 : decide (b < a)
    · have hc : cmp3 a b = 0 := by unfold cmp3; simp at h1 h2; rw [if_neg (by omega), if_neg (by omega)]
      go_enter Tryz.func94, Tryz.ntmps94
      go_wp2_with (first | (go_at_call 124; refine (isNaN_any _ _).mono ?_; rintro e w' ⟨rfl, rfl⟩))
      go_ret
      exact ⟨by rw [hc]; rfl, rfl⟩
    · have hc : cmp3 a b = 1 := by unfold cmp3; simp at h1 h2; rw [if_neg (by omega), if_pos (by omega)]
      go_enter Tryz.func94, Tryz.ntmps94
      go_wp2_with (first | (go_at_call 124; refine (isNaN_any _ _).mono ?_; rintro e w' ⟨rfl, rfl⟩))
      go_ret
      exact ⟨by rw [hc]; rfl, rfl⟩
  · have hc : cmp3 a b = -1 := by unfold cmp3; simp at h1; rw [if_pos (by omega)]
    go_enter Tryz.func94, Tryz.ntmps94
    go_wp2_with (first | (go_at_call 124; refine (isNaN_any _ _).mono ?_; rintro e w' ⟨rfl, rfl⟩))
    go_ret
    exact ⟨by rw [hc]; rfl, rfl⟩

/-- The order of lists, as -1, 0 or 1. -/
def cmpL : List Int → List Int → Int
  | [], [] => 0
  | [], _ :: _ => -1
  | _ :: _, [] => 1
  | a :: l, b :: m => if cmp3 a b = 0 then cmpL l m else cmp3 a b

theorem cmp3_eq {a b : Int} : cmp3 a b = 0 ↔ a = b := by
  unfold cmp3
  split
  · omega
  · split <;> omega
theorem cmp3_bd (a b : Int) : -1 ≤ cmp3 a b ∧ cmp3 a b ≤ 1 := by
  unfold cmp3
  split
  · omega
  · split <;> omega
theorem cmpL_step {xs ys : List Int} {k : Nat} {x y : Int} (hx : At xs k x) (hy : At ys k y) : cmpL (xs.drop k) (ys.drop k) = if cmp3 x y = 0 then cmpL (xs.drop (k+1)) (ys.drop (k+1)) else cmp3 x y := by
  rw [show xs.drop k = x :: xs.drop (k + 1) by obtain ⟨h1, h2⟩ := hx.get; rw [← h2]; exact List.drop_eq_getElem_cons h1, show ys.drop k = y :: ys.drop (k + 1) by obtain ⟨h1, h2⟩ := hy.get; rw [← h2]; exact List.drop_eq_getElem_cons h1]; rfl

set_option maxRecDepth 100000 in
theorem compare_any (va vb : Value) (xs ys : List Int) (H : Snap) (w : World) (hw : Holds H w) (ha : Sl H va xs) (hb : Sl H vb ys) :
    Calls Tryz.prog 123 #[va, vb] w (PostV w (.int .i64 (cmpL xs ys))) := by
  obtain ⟨aa, ca, rfl, ha1, ha2⟩ := ha.form
  obtain ⟨ab, cb, rfl, hb1, hb2⟩ := hb.form
  obtain ⟨C, hC⟩ : ∃ C, Hid (C = cmpL xs ys) := ⟨_, rfl⟩
  rw [← hC.out]
  go_enter Tryz.func123, Tryz.ntmps123
  go_wp2
  go_loopw [5, 6, 7, 8, 11] (fun _ _ _ _ i wr => ∃ k : Nat, k ≤ xs.length ∧ k ≤ ys.length ∧ i = .int .i64 k ∧ Hid (C = cmpL (xs.drop k) (ys.drop k)) ∧ Ext w H wr H) (fun _ _ _ _ i _ => xs.length - (intOf i).toNat)
  case atStart => exact ⟨0, Nat.zero_le _, Nat.zero_le _, rfl, hC, Ext.refl hw⟩
  case round =>
    obtain ⟨k, hk, hk2, rfl, hok, hxr⟩ := hrel
    have hwr := hxr.holds
    by_cases hlt : k < xs.length
    · obtain ⟨x, hxk⟩ := At.mk hlt
      obtain ⟨b, o, c, he, hi, hr⟩ := ha.int hxk
      cases he
      by_cases hlt2 : k < ys.length
      · obtain ⟨y, hyk⟩ := At.mk hlt2
        obtain ⟨b', o', c', he, hi', hr'⟩ := hb.int hyk
        cases he
        have hst := cmpL_step hxk hyk
        have hbd := cmp3_bd x y
        replace hok := hok.out
        rw [hst] at hok
        obtain ⟨D, hD⟩ : ∃ D, Hid (D = cmp3 x y) := ⟨_, rfl⟩
        rw [← hD.out] at hok hbd
        have hcc : ∀ w : World, Calls Tryz.prog 94 #[.int .i64 x, .int .i64 y] w fun e w' => e = .returned (.int .i64 D) ∧ w = w' := fun w => by rw [hD.out]; exact cmpInt_any x y w
        replace hcc := Lib.hid hcc
        cases hne : (D == 0)
        · rw [if_neg (by simpa using hne)] at hok
          have hne' := hne
          rw [← hok] at *
          replace hok := Lib.hid hok
          have hnz : (C != 0) = true := by simp only [bne, hne]; rfl
          clear hne' hst
          go_wp2_with (first | (go_at_call 94; refine (hcc.out _).mono ?_; rintro e w' ⟨rfl, rfl⟩))
          go_ret
          exact ⟨rfl, hxr.below⟩
        · rw [if_pos (by simpa using hne)] at hok
          replace hok := Lib.hid hok
          have hD0 : D = 0 := by simpa using hne
          subst hD0
          go_wp2_with (first | (go_at_call 94; refine (hcc.out _).mono ?_; rintro e w' ⟨rfl, rfl⟩))
          go_roundw
          case rel => exact ⟨k + 1, by omega, by omega, by go_num, hok, hxr⟩
          case measure => simp [intOf]; omega
      · have : C = 1 := by
          rw [hok.out, List.drop_eq_nil_of_le (by omega : ys.length ≤ k), show xs.drop k = xs[k] :: xs.drop (k+1) from List.drop_eq_getElem_cons hlt]; rfl
        subst this
        go_wp2
        go_ret
        exact ⟨rfl, hxr.below⟩
    · by_cases hlt2 : xs.length < ys.length
      · have : C = -1 := by
          rw [hok.out, List.drop_eq_nil_of_le (by omega : xs.length ≤ k), show ys.drop k = ys[k] :: ys.drop (k+1) from List.drop_eq_getElem_cons (by omega)]; rfl
        subst this
        go_wp2
        go_ret
        exact ⟨rfl, hxr.below⟩
      · have : C = 0 := by
          rw [hok.out, List.drop_eq_nil_of_le (by omega : xs.length ≤ k), List.drop_eq_nil_of_le (by omega : ys.length ≤ k)]; rfl
        subst this
        go_wp2
        go_ret
        exact ⟨rfl, hxr.below⟩

end Go.Proofs.YtngdppajailpcaaGreat

namespace Go.Proofs.YtngdppajailpcaaGreat
open Go.RowKit Go.ChangeShapes Go.WideShapes Go.Deep

/-- The whole heap, as it is. -/
def snapOf (w : World) : Snap := fun b => w.heap[b]?
theorem snapOf_holds (w : World) : Holds (snapOf w) w := ⟨fun _ _ e => e⟩

theorem reps_chunks {α : Type} [Enc α] {H : Snap} (L : List Value) (f : Nat → α) : ∀ (n : Nat), (∀ i, i < n → ∃ cs, Enc.rep H (f i) cs ∧ ∀ j, j < Enc.sz α → L[i * Enc.sz α + j]? = cs[j]?) → reps H ((List.range n).map f) (L.take (n * Enc.sz α))
  | 0, _ => by simp [reps]
  | n + 1, h => by
    obtain ⟨cs, hr, hj⟩ := h n (by omega)
    have hl := Enc.len hr
    have e : L.take ((n + 1) * Enc.sz α) = L.take (n * Enc.sz α) ++ cs := by
      rw [Nat.add_mul, Nat.one_mul, List.take_add]
      congr 1
      apply List.ext_getElem?
      intro j
      rw [List.getElem?_take]
      by_cases hjs : j < Enc.sz α
      · rw [if_pos hjs, List.getElem?_drop]
        exact hj j hjs
      · rw [if_neg hjs, List.getElem?_eq_none (by omega)]
    rw [List.range_succ, List.map_append, e]
    exact reps.append (reps_chunks L f n fun i hi => h i (by omega)) (reps.single hr)

theorem weightsAll_get {H : Type} {P : Program} {e : TypeId} : ∀ {l : List (DataW H)} {i : Nat} {d : DataW H}, l[i]? = some d → ∀ n ∈ d.weights P e, n ∈ DataW.weightsAll P e l
  | d0 :: l, 0, d, h, n, hn => by
    simp only [List.getElem?_cons_zero, Option.some.injEq] at h
    subst h
    simp only [DataW.weightsAll, List.mem_append]
    exact Or.inl hn
  | d0 :: l, i + 1, d, h, n, hn => by
    simp only [List.getElem?_cons_succ] at h
    simp only [DataW.weightsAll, List.mem_append]
    exact Or.inr (weightsAll_get h n hn)
  | [], _, _, h, _, _ => by simp at h

theorem row_of_cell {w : World} {a : Addr} {v : Value} (h : w.cell? a = some v) : ∃ b o cur t fr, a = ⟨b, o, none⟩ ∧ w.heap[b]? = some (.cells cur t fr) := by
  obtain ⟨b, o, s⟩ := a
  unfold World.cell? at h
  split at h
  · next c t fr hb =>
    split at h
    · cases h
    · next hs =>
      cases s with
      | none => exact ⟨b, o, _, _, _, rfl, hb⟩
      | some _ => simp at hs
  · cases h

/-- A slice that reads as data. -/
theorem Sl.opened {α : Type} [Enc α] [Inhabited α] {H : Type} {enc : TypeId × Value → H} {P : Program} {w : World} {sp : Nat → Bool} {hd : Bool} {t e : TypeId} {n : Nat} {v : Value} {y : DataW H × List MemPlace}
    (ht : P.underlying t = some (.slice e)) (hc : P.cellsOf e = Enc.sz α) (hp : 0 < Enc.sz α) (hb : P.bytesOf e = Enc.by_ α)
    (el : ∀ (n : Nat) (cs : List Value) (y : DataW H × List MemPlace), DataW.trod enc P w 0 sp hd n e cs = some y → (∀ k ∈ y.1.weights P e, k ≤ reachBytes) → ∃ x : α, Enc.rep (snapOf w) x cs)
    (h : DataW.trod enc P w 0 sp hd n t [v] = some y) (hw : ∀ k ∈ y.1.weights P t, k ≤ reachBytes) : ∃ xs : List α, Sl (snapOf w) v xs := by
  rcases open_slice ht h with ⟨hcs, _⟩ | ⟨a, len, cap, m, n', D, Pl, hcs, _, hl, hm, hmm, rfl, hx⟩
  · simp at hcs
    subst hcs
    exact ⟨[], Sl.nil0 _⟩
  · simp at hcs
    subst hcs
    have hlm : len ≤ m := by rw [hmm]; split <;> omega
    simp only [DataW.weights, ht, List.mem_cons, List.mem_append] at hw
    have h0 := hw _ (Or.inl rfl)
    simp only [List.length_map, List.length_range, hb] at h0
    have hby : len * Enc.by_ α ≤ 140737488355328 := by
      have h1 : len * Enc.by_ α ≤ (len + (m - len)) * Enc.by_ α := Nat.mul_le_mul_right _ (by omega)
      have h2 : reachBytes ≤ 140737488355328 := by decide
      omega
    have hcap : cap ≤ 9223372036854775807 := by simp only [maxLen] at hm; omega
    by_cases hz : len = 0
    · subst hz
      exact ⟨[], Sl.nil _ _ hcap⟩
    · obtain ⟨cs0, hc0, _⟩ := hx 0 (by omega)
      obtain ⟨_, hl0, hg0⟩ := World.cells?_some hc0
      have hcell0 := hg0 0 (by omega)
      rw [List.getElem?_eq_getElem (by omega)] at hcell0
      obtain ⟨b, o, cur, tt, fr, ha, hrow⟩ := row_of_cell hcell0
      have ha' : a = ⟨b, o, none⟩ := by simpa [Addr.add] using ha
      subst ha'
      have hat : ∀ i, i < len → ∃ cs, (∃ x : α, Enc.rep (snapOf w) x cs) ∧ cs.length = Enc.sz α ∧ ∀ j, j < Enc.sz α → cur[o + i * Enc.sz α + j]? = cs[j]? := fun i hi => by
        obtain ⟨cs, hc1, ht1⟩ := hx i (by omega)
        obtain ⟨_, hl1, hg1⟩ := World.cells?_some hc1
        rw [hc] at hl1 hg1
        refine ⟨cs, el _ _ _ ht1 (fun k hk => hw k (Or.inr (Or.inl (weightsAll_get (i := i) (by simp [hi]) k hk)))), hl1, fun j hj => ?_⟩
        have := hg1 j hj
        rw [Addr.add_lit, Addr.add_lit, cell_of_row w b _ cur tt fr hrow] at this
        exact this
      obtain ⟨f, hf⟩ := choose_lt (α := α) (p := fun i x => ∃ cs, Enc.rep (snapOf w) x cs ∧ cs.length = Enc.sz α ∧ ∀ j, j < Enc.sz α → cur[o + i * Enc.sz α + j]? = cs[j]?) (fun i hi => by
        obtain ⟨cs, ⟨x, hx⟩, hl, hj⟩ := hat i hi
        exact ⟨x, cs, hx, hl, hj⟩)
      have hsz : o + len * Enc.sz α ≤ cur.size := by
        obtain ⟨cs, _, hl1, hj1⟩ := hf (len - 1) (by omega)
        have h1 := hj1 (Enc.sz α - 1) (by omega)
        rw [List.getElem?_eq_getElem (by omega)] at h1
        have h2 := (Array.getElem?_eq_some_iff.1 h1).1
        have h3 : (len - 1) * Enc.sz α + Enc.sz α = len * Enc.sz α := by
          rw [show len * Enc.sz α = (len - 1 + 1) * Enc.sz α by rw [Nat.sub_add_cancel (by omega)], Nat.add_mul, Nat.one_mul]
        omega
      refine ⟨(List.range len).map f, some ⟨b, o, none⟩, cap, by simp, by simpa using hl, hcap, by simpa using hby, .inr ⟨b, o, cur, tt, fr, rfl, hrow, by simpa using hsz, ?_⟩⟩
      rw [List.length_map, List.length_range]
      refine reps_chunks _ f len fun i hi => ?_
      obtain ⟨cs, hr, _, hj⟩ := hf i hi
      refine ⟨cs, hr, fun j hjj => ?_⟩
      rw [List.getElem?_drop, ← hj j hjj, Array.getElem?_toList, ← Nat.add_assoc]

end Go.Proofs.YtngdppajailpcaaGreat

namespace Go.Proofs.YtngdppajailpcaaGreat
open Go.RowKit Go.ChangeShapes Go.WideShapes Go.Deep Go.Joins

section
variable {H : Type} {enc : TypeId × Value → H} {W : World} {sp : Nat → Bool} {hd : Bool}

instance : Inhabited Mach := ⟨⟨0, 0, 0⟩⟩
instance : Inhabited Bund := ⟨⟨0, 0, 0⟩⟩

theorem cells_int : Tryz.prog.cellsOf 3 = 1 := by kernel_rfl
theorem i64_of_wf {n : Int} (h : (Lit.int .i64 n).wf = true) : I64 n := by
  have : -9223372036854775808 ≤ n ∧ n ≤ 9223372036854775807 := by simpa [Lit.wf, IntKind.min, IntKind.max, IntKind.signed, IntKind.bits] using h
  exact this

theorem el_int (n : Nat) (cs : List Value) (y : DataW H × List MemPlace) (h : DataW.trod enc Tryz.prog W 0 sp hd n 3 cs = some y) : ∃ x : Int, Enc.rep (snapOf W) x cs := by
  obtain ⟨k, rfl, _, hk⟩ := DataW.trod_int Tryz.underlying3 h
  exact ⟨k, rfl, i64_of_wf hk⟩

theorem three {α : Type} {l : List α} (h : l.length = 3) : ∃ a b c, l = [a, b, c] := by
  match l, h with
  | [a, b, c], _ => exact ⟨a, b, c, rfl⟩

theorem el_mach (n : Nat) (cs : List Value) (y : DataW H × List MemPlace) (h : DataW.trod enc Tryz.prog W 0 sp hd n 97 cs = some y) : ∃ x : Mach, Enc.rep (snapOf W) x cs := by
  obtain ⟨y0, y1, y2, m, _, hl, h0, h1, h2⟩ := trod_struct3 Tryz.underlying97 h
  obtain ⟨a, b, c, rfl⟩ := three (hl.trans (by kernel_rfl))
  simp only [cells_int, List.drop_zero, List.drop_succ_cons, List.take_succ_cons, List.take_zero] at h0 h1 h2
  obtain ⟨k0, e0, _, w0⟩ := DataW.trod_int Tryz.underlying3 h0
  obtain ⟨k1, e1, _, w1⟩ := DataW.trod_int Tryz.underlying3 h1
  obtain ⟨k2, e2, _, w2⟩ := DataW.trod_int Tryz.underlying3 h2
  simp at e0 e1 e2
  subst e0; subst e1; subst e2
  exact ⟨⟨k0, k1, k2⟩, show MachRep _ _ from ⟨rfl, i64_of_wf w0, i64_of_wf w1, i64_of_wf w2⟩⟩
theorem el_bund (n : Nat) (cs : List Value) (y : DataW H × List MemPlace) (h : DataW.trod enc Tryz.prog W 0 sp hd n 120 cs = some y) : ∃ x : Bund, Enc.rep (snapOf W) x cs := by
  obtain ⟨y0, y1, y2, m, _, hl, h0, h1, h2⟩ := trod_struct3 Tryz.underlying120 h
  obtain ⟨a, b, c, rfl⟩ := three (hl.trans (by kernel_rfl))
  simp only [cells_int, List.drop_zero, List.drop_succ_cons, List.take_succ_cons, List.take_zero] at h0 h1 h2
  obtain ⟨k0, e0, _, w0⟩ := DataW.trod_int Tryz.underlying3 h0
  obtain ⟨k1, e1, _, w1⟩ := DataW.trod_int Tryz.underlying3 h1
  obtain ⟨k2, e2, _, w2⟩ := DataW.trod_int Tryz.underlying3 h2
  simp at e0 e1 e2
  subst e0; subst e1; subst e2
  exact ⟨⟨k0, k1, k2⟩, show BundRep _ _ from ⟨rfl, i64_of_wf w0, i64_of_wf w1, i64_of_wf w2⟩⟩

theorem ints_opened {n : Nat} {v : Value} {y : DataW H × List MemPlace} (h : DataW.trod enc Tryz.prog W 0 sp hd n 24 [v] = some y) (hw : ∀ k ∈ y.1.weights Tryz.prog 24, k ≤ reachBytes) : ∃ xs : List Int, Sl (snapOf W) v xs :=
  Sl.opened Tryz.underlying24 (by kernel_rfl) (by decide) (by kernel_rfl) (fun n cs y h _ => el_int n cs y h) h hw
theorem machs_opened {n : Nat} {v : Value} {y : DataW H × List MemPlace} (h : DataW.trod enc Tryz.prog W 0 sp hd n 22 [v] = some y) (hw : ∀ k ∈ y.1.weights Tryz.prog 22, k ≤ reachBytes) : ∃ xs : List Mach, Sl (snapOf W) v xs :=
  Sl.opened Tryz.underlying22 (by kernel_rfl) (by decide) (by kernel_rfl) (fun n cs y h _ => el_mach n cs y h) h hw
theorem bunds_opened {n : Nat} {v : Value} {y : DataW H × List MemPlace} (h : DataW.trod enc Tryz.prog W 0 sp hd n 23 [v] = some y) (hw : ∀ k ∈ y.1.weights Tryz.prog 23, k ≤ reachBytes) : ∃ xs : List Bund, Sl (snapOf W) v xs :=
  Sl.opened Tryz.underlying23 (by kernel_rfl) (by decide) (by kernel_rfl) (fun n cs y h _ => el_bund n cs y h) h hw
theorem el_ints (n : Nat) (cs : List Value) (y : DataW H × List MemPlace) (h : DataW.trod enc Tryz.prog W 0 sp hd n 24 cs = some y) (hw : ∀ k ∈ y.1.weights Tryz.prog 24, k ≤ reachBytes) : ∃ x : List Int, Enc.rep (snapOf W) x cs := by
  obtain ⟨a, l, c, rfl⟩ := slice_form Tryz.underlying24 h
  obtain ⟨xs, hx⟩ := ints_opened h hw
  exact ⟨xs, _, rfl, hx⟩
theorem lists_opened {n : Nat} {v : Value} {y : DataW H × List MemPlace} (h : DataW.trod enc Tryz.prog W 0 sp hd n 27 [v] = some y) (hw : ∀ k ∈ y.1.weights Tryz.prog 27, k ≤ reachBytes) : ∃ xs : List (List Int), Sl (snapOf W) v xs :=
  Sl.opened Tryz.underlying27 (by kernel_rfl) (by decide) (by kernel_rfl) (fun n cs y h hw => el_ints n cs y h hw) h hw

set_option maxRecDepth 100000 in
/-- A house that is handed in. -/
theorem house_opened {r : Reach} {b0 : Nat} {v : Value} {d : DataW H} {p : List MemPlace} (hv : Value.okWide Tryz.prog W r b0 26 v) (h : DataW.Trod enc Tryz.prog W 0 sp hd 26 v d p)
    (hw : ∀ k ∈ d.weights Tryz.prog 26, k ≤ reachBytes) : ∃ vm vb vt hs, v = houV vm vb vt hs ∧ Hou (snapOf W) vm vb vt hs := by
  obtain ⟨v0, v1, v2, v3, y0, y1, y2, y3, n, rfl, rfl, _, h0, h1, h2, h3⟩ := open_agg4 Tryz.underlying26 (by kernel_rfl) (by kernel_rfl) hv h
  simp only [DataW.weights, Tryz.underlying26, List.map_cons, List.map_nil, DataW.weightsEach, List.mem_append, List.append_nil] at hw
  obtain ⟨ms, h0⟩ := machs_opened h0 (fun k hk => hw k (by simp [hk]))
  obtain ⟨bs, h1⟩ := bunds_opened h1 (fun k hk => hw k (by simp [hk]))
  obtain ⟨ts, h2⟩ := ints_opened h2 (fun k hk => hw k (by simp [hk]))
  obtain ⟨c, e, _, hc⟩ := DataW.trod_int Tryz.underlying3 h3
  simp at e
  subst e
  exact ⟨v0, v1, v2, ⟨ms, bs, ts, c⟩, rfl, ⟨h0, h1, h2, i64_of_wf hc⟩⟩
end

end Go.Proofs.YtngdppajailpcaaGreat

namespace Go.Proofs.YtngdppajailpcaaGreat
open Go.RowKit

instance : Enc Plate where
  sz := 3
  by_ := 24
  rep := fun _ m cs => cs = [.int .i64 m.pg, .int .i64 m.br, .int .i64 m.mn] ∧ I64 m.pg ∧ I64 m.br ∧ I64 m.mn
  len := fun h => by rw [h.1]; rfl
  mono := fun _ h => h
  one := fun h u hu => by rw [h.1] at hu; simp at hu; rcases hu with rfl | rfl | rfl <;> rfl

/-- A shelf as an element of a slice. -/
structure Shf where
  c : Cnt
  deriving DecidableEq, Inhabited
instance : Enc Shf where
  sz := 12
  by_ := 96
  rep := fun _ m cs => cs = (shC m.c).toList ∧ Cn m.c
  len := fun h => by rw [h.1, Array.length_toList, shC_size]; exact h.2.len
  mono := fun _ h => h
  one := fun h u hu => by rw [h.1] at hu; exact shC_one _ u hu

theorem ePlate : ElemT Tryz.prog 39 62 Plate := .mk' (.agg #[.int .i64 0, .int .i64 0, .int .i64 0]) Tryz.underlying39 (by kernel_rfl) rfl (by decide)
theorem eShf : ElemT Tryz.prog 100 84 Shf := .mk' (.agg (shC zero12)) Tryz.underlying100 (by kernel_rfl) rfl (by decide)
theorem eShfs : ElemT Tryz.prog 87 100 (List Shf) := .mk' (.slice none 0 0) Tryz.underlying87 (by kernel_rfl) rfl (by decide)

theorem Sl.plate {H : Snap} {v : Value} {xs : List Plate} {k : Nat} {x : Plate} (h : Sl H v xs) (hx : At xs k x) :
    ∃ b o c, v = .slice (some ⟨b, o, none⟩) xs.length c ∧ ((-9223372036854775808 ≤ x.pg ∧ x.pg ≤ 9223372036854775807) ∧ (-9223372036854775808 ≤ x.br ∧ x.br ≤ 9223372036854775807) ∧ (-9223372036854775808 ≤ x.mn ∧ x.mn ≤ 9223372036854775807)) ∧
      (∀ w, Holds H w → w.cell? ⟨b, o + k * 3, none⟩ = some (.int .i64 x.pg)) ∧ (∀ w, Holds H w → w.cell? ⟨b, o + k * 3 + 1, none⟩ = some (.int .i64 x.br)) ∧ (∀ w, Holds H w → w.cell? ⟨b, o + k * 3 + 2, none⟩ = some (.int .i64 x.mn)) := by
  obtain ⟨b, o, c, ds, hv, ⟨hd, hi⟩, hc⟩ := h.get hx
  refine ⟨b, o, c, hv, hi, fun w hw => ?_, fun w hw => ?_, fun w hw => ?_⟩
  · exact hc w hw 0 _ (by rw [hd]; rfl)
  · exact hc w hw 1 _ (by rw [hd]; rfl)
  · exact hc w hw 2 _ (by rw [hd]; rfl)

theorem mid_cells {w : World} {b o : Nat} {c : Cnt} (hl : c.length = 12) (h : ∀ (j : Nat) (u : Value), (shC c).toList[j]? = some u → w.cell? ⟨b, o + j, none⟩ = some u) : World.mid w b o = shC c := by
  have h0 := h 0 (.int .i64 (c[0]'(by omega))) (by simp [shC])
  rw [Nat.add_zero] at h0
  obtain ⟨b', o', cur, t, fr, e, hb⟩ := row_of_cell h0
  cases e
  unfold World.mid; rw [hb]
  simp only
  apply Array.ext_getElem?
  intro j
  rw [Array.getElem?_extract]
  by_cases hj : j < 12
  · have h1 := h j _ (by rw [Array.getElem?_toList]; exact shC_get (List.getElem?_eq_getElem (by omega)))
    rw [cell_of_row w b _ cur t fr hb] at h1
    have h2 : o + j < cur.size := (Array.getElem?_eq_some_iff.1 h1).1
    rw [if_pos (by omega), h1]
    exact (shC_get (List.getElem?_eq_getElem (by omega))).symm
  · have h11 := h 11 _ (by rw [Array.getElem?_toList]; exact shC_get (List.getElem?_eq_getElem (by omega)))
    rw [cell_of_row w b _ cur t fr hb] at h11
    have h2 : o + 11 < cur.size := (Array.getElem?_eq_some_iff.1 h11).1
    rw [if_neg (by omega)]
    symm; rw [Array.getElem?_eq_none]; rw [shC_size]; omega
theorem Sl.shf {H : Snap} {v : Value} {xs : List Shf} {k : Nat} {x : Shf} (h : Sl H v xs) (hx : At xs k x) :
    ∃ b o c, v = .slice (some ⟨b, o, none⟩) xs.length c ∧ Cn x.c ∧ ∀ w, Holds H w → World.mid w b (o + k * 12) = shC x.c := by
  obtain ⟨b, o, c, ds, hv, ⟨hd, hi⟩, hc⟩ := h.get hx
  refine ⟨b, o, c, hv, hi, fun w hw => mid_cells hi.len fun j u hu => ?_⟩
  exact hc w hw j u (by rw [hd]; exact hu)

/-- A hall value. -/
structure Hal (H : Snap) (vm vb vt vo ve : Value) (h : Hall) : Prop where
  hs : Hou H vm vb vt h.hs
  bo : Sl H vo h.bo
  ed : Sl H ve h.ed
abbrev halV (vm vb vt vo ve : Value) (h : Hall) : Value := .agg #[vm, vb, vt, .int .i64 h.hs.ch, vo, ve]
theorem Hal.mono {H H' : Snap} (k : SLe H H') {vm vb vt vo ve : Value} {h : Hall} (x : Hal H vm vb vt vo ve h) : Hal H' vm vb vt vo ve h := ⟨x.hs.mono k, x.bo.mono k, x.ed.mono k⟩
/-- The six cells of a hall that lies in a frozen block. -/
theorem cellsHal {H : Snap} {B : Nat} {vm vb vt vo ve : Value} {h : Hall} {t : TypeId} (e : H B = some (.cells (halV vm vb vt vo ve h).cells t (0, 0))) :
    (∀ w, Holds H w → w.cell? ⟨B, 0, none⟩ = some vm) ∧ (∀ w, Holds H w → w.cell? ⟨B, 1, none⟩ = some vb) ∧ (∀ w, Holds H w → w.cell? ⟨B, 2, none⟩ = some vt) ∧ (∀ w, Holds H w → w.cell? ⟨B, 3, none⟩ = some (.int .i64 h.hs.ch)) ∧
      (∀ w, Holds H w → w.cell? ⟨B, 4, none⟩ = some vo) ∧ (∀ w, Holds H w → w.cell? ⟨B, 5, none⟩ = some ve) :=
  ⟨fun _ hw => cellH e hw 0, fun _ hw => cellH e hw 1, fun _ hw => cellH e hw 2, fun _ hw => cellH e hw 3, fun _ hw => cellH e hw 4, fun _ hw => cellH e hw 5⟩

/-- 'append(v, x)' of one element that has just been laid. -/
theorem wpList_app1R {α : Type} [Enc α] {P : Program} {H H0 : Snap} {w w0 : World} {t e : TypeId} {v : Value} {xs : List α} {ops : Array Oper} {o : Oper} {a : Act} {Q : Exit → Act → World → Prop} {rest : List Oper} {te : TypeId} {c : Nat}
    (T : ElemT P t e α) (s y : Operand) (hX : Ext w0 H0 w H) (hown : Own H w0.heap.size w e v xs) {x : α} (cs : List Value) (hx : Enc.rep H x cs) (hlen : (xs.length + 1) * Enc.by_ α ≤ 140737488355328) (h63 : xs.length + 1 ≤ 9223372036854775807)
    (hgd : o.guard = none) (ho : o.op = .call { callee := .builtin .append, args := #[s, y], argTypes := #[t, t] }) (hs : a.eval s = v) (hy : a.eval y = .slice (some ⟨w.heap.size, 0, none⟩) 1 c)
    (h : ∀ v' w', Own H w0.heap.size w' e v' (xs ++ [x]) → Ext w0 H0 w' H → Holds H w' → wpList P ops Q rest (a.put o.dst v') w') : wpList P ops Q (o :: rest) a (w.alloc (.cells cs.toArray te)) :=
  wpList_app1X T hgd s y ho hX hs hown hy hx hlen h63 h

/-! ### The errors -/

def errM (b : Bool) : Int := if b then 0 else 90
def askM (v is : Bool) : Int := if v then (if is then 0 else 1) else 90

end Go.Proofs.YtngdppajailpcaaGreat
