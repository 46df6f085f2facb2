/- Lemmas and walks on which the claims of this seat lean: NHuf NData. -/
import Derived.Test.YthcfhmebikcfpaaGreatDoorG01
import Derived.Test.YthcfhmebikcfpaaGreatDoorRows

set_option linter.all false

namespace Go.Proofs.YthcfhmebikcfpaaGreatDoor

/-! ### Sums over a list -/

def sumOn {α : Type} (f : α → Nat) (s : List α) : Nat := (s.map f).sum
@[simp] theorem sumOn_nil {α : Type} (f : α → Nat) : sumOn f [] = 0 := rfl
@[simp] theorem sumOn_cons {α : Type} (f : α → Nat) (x : α) (s : List α) : sumOn f (x :: s) = f x + sumOn f s := by simp [sumOn]
@[simp] theorem sumOn_append {α : Type} (f : α → Nat) (s t : List α) : sumOn f (s ++ t) = sumOn f s + sumOn f t := by simp [sumOn]
theorem sumOn_perm {α : Type} {f : α → Nat} {s t : List α} (h : s.Perm t) : sumOn f s = sumOn f t := by
  induction h with
  | nil => rfl
  | cons x _ ih => simp [ih]
  | swap x y l => simp; omega
  | trans _ _ ih1 ih2 => rw [ih1, ih2]
theorem sumOn_congr {α : Type} {f g : α → Nat} {s : List α} (h : ∀ x ∈ s, f x = g x) : sumOn f s = sumOn g s := by
  unfold sumOn
  congr 1
  exact List.map_congr_left h
theorem sumOn_add {α : Type} (f g : α → Nat) (s : List α) : sumOn (fun x => f x + g x) s = sumOn f s + sumOn g s := by
  induction s with
  | nil => rfl
  | cons x s ih => simp [ih]; omega
theorem sumOn_mul {α : Type} (c : Nat) (f : α → Nat) (s : List α) : sumOn (fun x => c * f x) s = c * sumOn f s := by
  induction s with
  | nil => simp
  | cons x s ih => simp [ih, Nat.mul_add]
theorem sumOn_le {α : Type} {f g : α → Nat} {s : List α} (h : ∀ x ∈ s, f x ≤ g x) : sumOn f s ≤ sumOn g s := by
  induction s with
  | nil => simp
  | cons x s ih =>
    have h1 := h x (by simp)
    have h2 := ih fun y hy => h y (by simp [hy])
    simp; omega
theorem sumOn_mem {α : Type} {f : α → Nat} {s : List α} {x : α} (h : x ∈ s) : f x ≤ sumOn f s := by
  induction s with
  | nil => cases h
  | cons y s ih =>
    rcases List.mem_cons.1 h with rfl | h
    · simp
    · have := ih h; simp; omega
theorem sumOn_map {α β : Type} (f : β → Nat) (g : α → β) (s : List α) : sumOn f (s.map g) = sumOn (fun x => f (g x)) s := by simp [sumOn, List.map_map, Function.comp_def]

/-! ### Nodes -/

structure Nod where
  w : Nat
  s : List Nat
  deriving DecidableEq, Inhabited
/-- The first of those that weigh least, among the first k. -/
def lightTo (l : List Nod) : Nat → Nat
  | 0 => 0
  | k + 1 => if (l.getD k default).w < (l.getD (lightTo l k) default).w then k else lightTo l k
def lightest (l : List Nod) : Nat := lightTo l l.length
theorem lightTo_lt {l : List Nod} (hl : l ≠ []) : ∀ k, k ≤ l.length → lightTo l k < l.length
  | 0, _ => by cases l with | nil => exact absurd rfl hl | cons a l => simp [lightTo]
  | k + 1, hk => by
    unfold lightTo
    split
    · omega
    · exact lightTo_lt hl k (by omega)
theorem lightTo_le {l : List Nod} : ∀ k, k ≤ l.length → ∀ i, i < k → (l.getD (lightTo l k) default).w ≤ (l.getD i default).w
  | 0, _, i, hi => by omega
  | k + 1, hk, i, hi => by
    have ih := lightTo_le (l := l) k (by omega)
    unfold lightTo
    split
    · rename_i h
      by_cases e : i = k
      · subst e; omega
      · have := ih i (by omega); omega
    · rename_i h
      by_cases e : i = k
      · subst e; omega
      · exact ih i (by omega)
def lightN (l : List Nod) : Nod := l.getD (lightest l) default
def lightR (l : List Nod) : List Nod := l.eraseIdx (lightest l)
theorem light_perm {l : List Nod} (hl : l ≠ []) : l.Perm (lightN l :: lightR l) := by
  have h := lightTo_lt hl l.length (Nat.le_refl _)
  unfold lightN lightR lightest
  rw [List.getD_eq_getElem?_getD, List.getElem?_eq_getElem h]
  simp only [Option.getD_some]
  generalize lightTo l l.length = k at *
  clear hl
  induction l generalizing k with
  | nil => simp at h
  | cons a l ih =>
    cases k with
    | zero => simp
    | succ k =>
      simp only [List.getElem_cons_succ, List.eraseIdx_cons_succ]
      exact ((ih k (by simpa using h)).cons a).trans (List.Perm.swap _ _ _)
theorem light_len {l : List Nod} (hl : l ≠ []) : (lightR l).length + 1 = l.length := by
  have := (light_perm hl).length_eq
  simp at this; omega
theorem light_le {l : List Nod} {x : Nod} (h : x ∈ l) : (lightN l).w ≤ x.w := by
  obtain ⟨i, hi, rfl⟩ := List.getElem_of_mem h
  have := lightTo_le (l := l) l.length (Nat.le_refl _) i hi
  unfold lightN lightest
  rw [List.getD_eq_getElem?_getD (i := i), List.getElem?_eq_getElem hi] at this
  exact this
def joinX (l : List Nod) : Nod := ⟨(lightN l).w + (lightN (lightR l)).w, (lightN l).s ++ (lightN (lightR l)).s⟩
def joinR (l : List Nod) : List Nod := lightR (lightR l)
/-- Two nodes at least: they are the two lightest and the rest. -/
theorem join_perm {l : List Nod} (h : 2 ≤ l.length) : l.Perm (lightN l :: lightN (lightR l) :: joinR l) ∧ (joinR l).length + 2 = l.length := by
  have h1 : l ≠ [] := by intro e; subst e; simp at h
  have h2 := light_len h1
  have h3 : lightR l ≠ [] := by intro e; rw [e] at h2; simp at h2; omega
  have h4 := light_len h3
  exact ⟨(light_perm h1).trans ((light_perm h3).cons _), by unfold joinR; omega⟩
theorem join_le {l : List Nod} (h : 2 ≤ l.length) {y : Nod} (hy : y ∈ joinR l) : (lightN l).w ≤ y.w ∧ (lightN (lightR l)).w ≤ y.w := by
  have h1 : l ≠ [] := by intro e; subst e; simp at h
  have h2 := light_len h1
  have h3 : lightR l ≠ [] := by intro e; rw [e] at h2; simp at h2; omega
  have hy2 : y ∈ lightR l := (light_perm h3).mem_iff.2 (by simp [show y ∈ lightR (lightR l) from hy])
  exact ⟨light_le ((light_perm h1).mem_iff.2 (by simp [hy2])), light_le hy2⟩
theorem join_ab {l : List Nod} (h : 2 ≤ l.length) : (lightN l).w ≤ (lightN (lightR l)).w := by
  have h1 : l ≠ [] := by intro e; subst e; simp at h
  have h2 := light_len h1
  have h3 : lightR l ≠ [] := by intro e; rw [e] at h2; simp at h2; omega
  have hm : lightN (lightR l) ∈ lightR l := (light_perm h3).mem_iff.2 (by simp)
  exact light_le ((light_perm h1).mem_iff.2 (by simp [hm]))

def bitAt (bits : List Nat) (i : Nat) : Nat := bits.getD i 0
def incr (bits : List Nat) (s : List Nat) : List Nat := s.foldl (fun b i => b.set i (bitAt b i + 1)) bits
theorem incr_len : ∀ (s : List Nat) (bits : List Nat), (incr bits s).length = bits.length
  | [], _ => rfl
  | i :: s, bits => by show (incr (bits.set i (bitAt bits i + 1)) s).length = _; rw [incr_len s]; simp
theorem bitAt_set {bits : List Nat} {i k v : Nat} (h : i < bits.length) : bitAt (bits.set i v) k = if k = i then v else bitAt bits k := by
  unfold bitAt
  rw [List.getD_eq_getElem?_getD, List.getD_eq_getElem?_getD]
  by_cases e : k = i
  · subst e; rw [if_pos rfl, List.getElem?_set_self h]; rfl
  · rw [if_neg e, List.getElem?_set_ne (fun h => e h.symm)]
theorem incr_at : ∀ {s : List Nat} {bits : List Nat}, s.Nodup → (∀ i ∈ s, i < bits.length) → ∀ k, bitAt (incr bits s) k = bitAt bits k + if k ∈ s then 1 else 0
  | [], bits, _, _, k => by simp [incr]
  | i :: s, bits, hn, hb, k => by
    rw [List.nodup_cons] at hn
    show bitAt (incr (bits.set i (bitAt bits i + 1)) s) k = _
    rw [incr_at hn.2 (fun j hj => by rw [List.length_set]; exact hb j (by simp [hj])), bitAt_set (hb i (by simp))]
    by_cases e : k = i
    · subst e
      rw [if_pos rfl, if_neg hn.1, if_pos (by simp)]
    · rw [if_neg e]
      simp [e]

/-- The lengths, from some nodes and what has been counted so far on. -/
def huffGo : Nat → List Nod → List Nat → List Nat
  | 0, _, bits => bits
  | n + 1, l, bits => if l.length ≤ 1 then bits else huffGo n (joinR l ++ [joinX l]) (incr bits (joinX l).s)
def startN (ws : List Nat) : List Nod := ws.mapIdx fun i w => ⟨w, [i]⟩
def huff (ws : List Nat) : List Nat := huffGo ws.length (startN ws) (if ws.length = 1 then [1] else List.replicate ws.length 0)

/-! ### What stays while nodes are joined -/

structure Forest (ws : List Nat) (l : List Nod) (bits : List Nat) : Prop where
  len : bits.length = ws.length
  part : (l.flatMap Nod.s).Perm (List.range ws.length)
  weigh : ∀ x ∈ l, x.w = sumOn (bitAt ws) x.s
theorem flat_perm {l m : List Nod} (h : l.Perm m) : (l.flatMap Nod.s).Perm (m.flatMap Nod.s) := List.Perm.flatMap_right _ h
theorem Forest.join {ws : List Nat} {l : List Nod} {bits : List Nat} (F : Forest ws l bits) (h : 2 ≤ l.length) :
    Forest ws (joinR l ++ [joinX l]) (incr bits (joinX l).s) ∧ (joinX l).s.Nodup ∧ (∀ i ∈ (joinX l).s, i < bits.length) ∧ ∀ y ∈ joinR l, ∀ i ∈ y.s, i ∉ (joinX l).s := by
  obtain ⟨hp, _⟩ := join_perm h
  have hf := flat_perm hp
  simp only [List.flatMap_cons] at hf
  have hall : ((lightN l).s ++ ((lightN (lightR l)).s ++ (joinR l).flatMap Nod.s)).Perm (List.range ws.length) := hf.symm.trans F.part
  have hnd := hall.nodup_iff.2 List.nodup_range
  rw [← List.append_assoc] at hnd
  have hnd2 := (List.nodup_append.1 hnd)
  have hlt : ∀ i ∈ (joinX l).s, i < bits.length := fun i hi => by
    rw [F.len]
    have : i ∈ List.range ws.length := hall.mem_iff.1 (by rw [← List.append_assoc]; exact List.mem_append.2 (.inl hi))
    exact List.mem_range.1 this
  refine ⟨⟨by rw [incr_len, F.len], ?_, fun x hx => ?_⟩, hnd2.1, hlt, fun y hy i hi hc => ?_⟩
  · rw [List.flatMap_append]
    simp only [List.flatMap_cons, List.flatMap_nil, List.append_nil]
    refine (List.perm_append_comm).trans ?_
    show ((lightN l).s ++ (lightN (lightR l)).s ++ _).Perm _
    rw [List.append_assoc]; exact hall
  · rcases List.mem_append.1 hx with hx | hx
    · exact F.weigh x (hp.mem_iff.2 (by simp [hx]))
    · rw [List.mem_singleton.1 hx]
      show (lightN l).w + (lightN (lightR l)).w = sumOn _ ((lightN l).s ++ (lightN (lightR l)).s)
      rw [sumOn_append, ← F.weigh _ (hp.mem_iff.2 (by simp)), ← F.weigh _ (hp.mem_iff.2 (by simp))]
  · exact hnd2.2.2 i hc i (List.mem_flatMap.2 ⟨y, hy, hi⟩) rfl
theorem Forest.start {ws : List Nat} {bits : List Nat} (h : bits.length = ws.length) : Forest ws (startN ws) bits := by
  refine ⟨h, ?_, fun x hx => ?_⟩
  · have e : (startN ws).flatMap Nod.s = List.range ws.length := by
      unfold startN
      apply List.ext_getElem?
      intro i
      have h1 : (ws.mapIdx fun i w => (⟨w, [i]⟩ : Nod)).flatMap Nod.s = ws.mapIdx fun i _ => i := by
        clear h bits
        have key : ∀ (l : List Nat) (g : Nat → Nat), ((l.mapIdx fun i w => (⟨w, [g i]⟩ : Nod)).flatMap Nod.s) = l.mapIdx fun i _ => g i := by
          intro l
          induction l with
          | nil => intro g; rfl
          | cons a l ih => intro g; rw [List.mapIdx_cons, List.mapIdx_cons, List.flatMap_cons]; rw [ih fun i => g (i + 1)]; rfl
        exact key ws id
      rw [h1, List.getElem?_mapIdx]
      by_cases hi : i < ws.length
      · rw [List.getElem?_eq_getElem hi, List.getElem?_range hi]; rfl
      · rw [List.getElem?_eq_none (by omega), List.getElem?_eq_none (by simp; omega)]; rfl
    rw [e]
  · obtain ⟨i, hi, rfl⟩ := List.mem_mapIdx.1 hx
    show ws[i] = sumOn _ [i]
    simp [bitAt, List.getD_eq_getElem?_getD, List.getElem?_eq_getElem hi]
theorem startN_len (ws : List Nat) : (startN ws).length = ws.length := by unfold startN; simp

/-! ### The sum of 2^-bits -/

def kr (D b : Nat) : Nat := 2 ^ (D - b)
structure Full (D t : Nat) (l : List Nod) (bits : List Nat) : Prop where
  sum : ∀ x ∈ l, sumOn (fun i => kr D (bitAt bits i)) x.s = 2 ^ D
  low : ∀ x ∈ l, ∀ i ∈ x.s, bitAt bits i ≤ t
theorem kr_succ {D b : Nat} (h : b < D) : kr D b = 2 * kr D (b + 1) := by
  unfold kr
  rw [show D - b = (D - (b + 1)) + 1 by omega, Nat.pow_succ]; omega
theorem Full.join {ws : List Nat} {D t : Nat} {l : List Nod} {bits : List Nat} (F : Forest ws l bits) (K : Full D t l bits) (h : 2 ≤ l.length) (ht : t < D) : Full D (t + 1) (joinR l ++ [joinX l]) (incr bits (joinX l).s) := by
  obtain ⟨_, hnd, hlt, hout⟩ := F.join h
  obtain ⟨hp, _⟩ := join_perm h
  have hat := incr_at hnd hlt
  have hold : ∀ y ∈ joinR l, ∀ i ∈ y.s, bitAt (incr bits (joinX l).s) i = bitAt bits i := fun y hy i hi => by rw [hat, if_neg (hout y hy i hi)]; rfl
  have hnew : ∀ i ∈ (joinX l).s, bitAt (incr bits (joinX l).s) i = bitAt bits i + 1 := fun i hi => by rw [hat, if_pos hi]
  have hmem : ∀ i ∈ (joinX l).s, bitAt bits i ≤ t := fun i hi => by
    rcases List.mem_append.1 (show i ∈ (lightN l).s ++ (lightN (lightR l)).s from hi) with hi | hi
    · exact K.low _ (hp.mem_iff.2 (by simp)) i hi
    · exact K.low _ (hp.mem_iff.2 (by simp)) i hi
  constructor
  · intro x hx
    rcases List.mem_append.1 hx with hx | hx
    · rw [sumOn_congr fun i hi => by rw [hold x hx i hi]]
      exact K.sum x (hp.mem_iff.2 (by simp [hx]))
    · rw [List.mem_singleton.1 hx]
      have e : 2 * sumOn (fun i => kr D (bitAt (incr bits (joinX l).s) i)) (joinX l).s = sumOn (fun i => kr D (bitAt bits i)) (joinX l).s := by
        rw [← sumOn_mul]
        exact sumOn_congr fun i hi => by rw [hnew i hi, ← kr_succ (by have := hmem i hi; omega)]
      have e2 : sumOn (fun i => kr D (bitAt bits i)) (joinX l).s = 2 ^ D + 2 ^ D := by
        show sumOn _ ((lightN l).s ++ (lightN (lightR l)).s) = _
        rw [sumOn_append, K.sum _ (hp.mem_iff.2 (by simp)), K.sum _ (hp.mem_iff.2 (by simp))]
      omega
  · intro x hx i hi
    rcases List.mem_append.1 hx with hx | hx
    · rw [hold x hx i hi]
      have := K.low x (hp.mem_iff.2 (by simp [hx])) i hi
      omega
    · rw [List.mem_singleton.1 hx] at hi
      rw [hnew i hi]
      have := hmem i hi
      omega

/-! ### How deep -/

def fibG : Nat → Nat
  | 0 => 1
  | 1 => 2
  | n + 2 => fibG (n + 1) + fibG n
theorem fibG_mono1 : ∀ n, fibG n ≤ fibG (n + 1)
  | 0 => by decide
  | 1 => by decide
  | n + 2 => by show fibG (n + 1) + fibG n ≤ fibG (n + 2) + fibG (n + 1); have : fibG (n + 2) = fibG (n + 1) + fibG n := rfl; omega
theorem fibG_mono {m n : Nat} (h : m ≤ n) : fibG m ≤ fibG n := by
  induction h with
  | refl => exact Nat.le_refl _
  | step _ ih => exact Nat.le_trans ih (fibG_mono1 _)
def DeepAt (l : List Nod) (bits : List Nat) (x : Nod) (h : Nat) : Prop := (∀ i ∈ x.s, bitAt bits i ≤ h) ∧ fibG h ≤ x.w ∧ ∀ y ∈ l, fibG (h - 1) ≤ y.w
def Deep (l : List Nod) (bits : List Nat) : Prop := ∀ x ∈ l, ∃ h, DeepAt l bits x h
theorem Deep.join {ws : List Nat} {l : List Nod} {bits : List Nat} (F : Forest ws l bits) (K : Deep l bits) (h : 2 ≤ l.length) : Deep (joinR l ++ [joinX l]) (incr bits (joinX l).s) := by
  obtain ⟨_, hnd, hlt, hout⟩ := F.join h
  obtain ⟨hp, _⟩ := join_perm h
  have hat := incr_at hnd hlt
  have hma : lightN l ∈ l := hp.mem_iff.2 (by simp)
  have hmb : lightN (lightR l) ∈ l := hp.mem_iff.2 (by simp)
  have hab := join_ab h
  have hX : (joinX l).w = (lightN l).w + (lightN (lightR l)).w := rfl
  have hlow : ∀ v, (∀ y ∈ l, v ≤ y.w) → ∀ y ∈ joinR l ++ [joinX l], v ≤ y.w := fun v hv y hy => by
    rcases List.mem_append.1 hy with hy | hy
    · exact hv y (hp.mem_iff.2 (by simp [hy]))
    · rw [List.mem_singleton.1 hy, hX]
      have := hv _ hma; omega
  intro x hx
  rcases List.mem_append.1 hx with hx | hx
  · obtain ⟨k, h1, h2, h3⟩ := K x (hp.mem_iff.2 (by simp [hx]))
    refine ⟨k, fun i hi => ?_, h2, hlow _ h3⟩
    rw [hat, if_neg (hout x hx i hi)]; exact h1 i hi
  · rw [List.mem_singleton.1 hx]
    obtain ⟨ka, a1, a2, a3⟩ := K _ hma
    obtain ⟨kb, b1, b2, b3⟩ := K _ hmb
    have hmax : fibG (max ka kb + 1) ≤ (joinX l).w ∧ fibG (max ka kb) ≤ (lightN (lightR l)).w := by
      rw [hX]
      rcases Nat.le_total ka kb with hk | hk
      · rw [Nat.max_eq_right hk]
        refine ⟨?_, b2⟩
        cases kb with
        | zero =>
          have e0 : fibG 0 = 1 := rfl
          have e1 : fibG (0 + 1) = 2 := rfl
          have := fibG_mono (Nat.zero_le ka)
          omega
        | succ k =>
          have e1 : fibG (k + 1 + 1) = fibG (k + 1) + fibG k := rfl
          have := b3 _ hma
          simp only [Nat.add_sub_cancel] at this
          omega
      · rw [Nat.max_eq_left hk]
        refine ⟨?_, Nat.le_trans a2 hab⟩
        cases ka with
        | zero =>
          have e0 : fibG 0 = 1 := rfl
          have e1 : fibG (0 + 1) = 2 := rfl
          have := fibG_mono (Nat.zero_le kb)
          omega
        | succ k =>
          have e1 : fibG (k + 1 + 1) = fibG (k + 1) + fibG k := rfl
          have := a3 _ hmb
          simp only [Nat.add_sub_cancel] at this
          omega
    refine ⟨max ka kb + 1, fun i hi => ?_, hmax.1, fun y hy => ?_⟩
    · rw [hat, if_pos hi]
      rcases List.mem_append.1 (show i ∈ (lightN l).s ++ (lightN (lightR l)).s from hi) with hi | hi
      · have := a1 i hi; omega
      · have := b1 i hi; omega
    · rw [Nat.add_sub_cancel]
      rcases List.mem_append.1 hy with hy | hy
      · exact Nat.le_trans hmax.2 (join_le h hy).2
      · rw [List.mem_singleton.1 hy]
        exact Nat.le_trans (fibG_mono1 _) hmax.1

/-! ### The lengths -/

theorem huffGo_one (n : Nat) {l : List Nod} {bits : List Nat} (h : l.length ≤ 1) : huffGo n l bits = bits := by
  cases n with
  | zero => rfl
  | succ n => show (if l.length ≤ 1 then bits else _) = bits; rw [if_pos h]
theorem huffGo_len : ∀ (n : Nat) (l : List Nod) (bits : List Nat), (huffGo n l bits).length = bits.length
  | 0, _, _ => rfl
  | n + 1, l, bits => by
    show (if l.length ≤ 1 then bits else huffGo n (joinR l ++ [joinX l]) (incr bits (joinX l).s)).length = _
    split
    · rfl
    · rw [huffGo_len n, incr_len]
theorem huff_len (ws : List Nat) : (huff ws).length = ws.length := by
  unfold huff; rw [huffGo_len]; split <;> simp_all
/-- From a state of the joining to its end: one node is left, with all that stays. -/
theorem huffGo_end {ws : List Nat} {D : Nat} : ∀ (n t : Nat) (l : List Nod) (bits : List Nat), l.length = n + 1 → t + n ≤ D → Forest ws l bits → Full D t l bits → Deep l bits →
    ∃ x, Forest ws [x] (huffGo n l bits) ∧ Full D (t + n) [x] (huffGo n l bits) ∧ Deep [x] (huffGo n l bits)
  | 0, t, l, bits, hl, _, F, K, G => by
    match l, hl with
    | [x], _ => exact ⟨x, F, K, G⟩
  | n + 1, t, l, bits, hl, ht, F, K, G => by
    have h2 : 2 ≤ l.length := by omega
    obtain ⟨x, h1, h3, h4⟩ := huffGo_end n (t + 1) (joinR l ++ [joinX l]) (incr bits (joinX l).s) (by have := (join_perm h2).2; simp; omega) (by omega) (F.join h2).1 (K.join F h2 (by omega)) (G.join F h2)
    have e : huffGo (n + 1) l bits = huffGo n (joinR l ++ [joinX l]) (incr bits (joinX l).s) := by
      show (if l.length ≤ 1 then bits else _) = _
      rw [if_neg (by omega)]
    rw [e]
    exact ⟨x, h1, by rw [show t + (n + 1) = t + 1 + n by omega]; exact h3, h4⟩
theorem bitAt_zero (n k : Nat) : bitAt (List.replicate n 0) k = 0 := by
  unfold bitAt; rw [List.getD_eq_getElem?_getD, List.getElem?_replicate]; split <;> rfl
theorem huff_big {ws : List Nat} (h : 2 ≤ ws.length) (D : Nat) (hD : ws.length ≤ D) (hpos : ∀ w ∈ ws, 1 ≤ w) :
    ∃ x, Forest ws [x] (huff ws) ∧ Full D ws.length [x] (huff ws) ∧ Deep [x] (huff ws) := by
  obtain ⟨n, hn⟩ : ∃ n, ws.length = n + 1 := ⟨ws.length - 1, by omega⟩
  have hb : (if ws.length = 1 then [1] else List.replicate ws.length 0) = List.replicate ws.length 0 := if_neg (by omega)
  have hx : ∀ x ∈ startN ws, ∃ i, ∃ hi : i < ws.length, x = ⟨ws[i], [i]⟩ := fun x hx => by
    obtain ⟨i, hi, rfl⟩ := List.mem_mapIdx.1 hx
    exact ⟨i, hi, rfl⟩
  obtain ⟨x, h1, h2, h3⟩ := huffGo_end (ws := ws) (D := D) n 0 (startN ws) (List.replicate ws.length 0) (by rw [startN_len, hn]) (by omega) (Forest.start (by simp))
    ⟨fun x hxm => by
      obtain ⟨i, hi, rfl⟩ := hx x hxm
      simp [kr, bitAt_zero], fun x hxm i _ => by rw [bitAt_zero]; omega⟩
    (fun x hxm => by
      obtain ⟨i, hi, rfl⟩ := hx x hxm
      refine ⟨0, fun k _ => by rw [bitAt_zero]; omega, hpos _ (List.getElem_mem hi), fun y hy => ?_⟩
      obtain ⟨j, hj, rfl⟩ := hx y hy
      exact hpos _ (List.getElem_mem hj))
  have e : huff ws = huffGo n (startN ws) (List.replicate ws.length 0) := by
    unfold huff
    rw [hb, hn]
    show (if (startN ws).length ≤ 1 then _ else _) = _
    rw [if_neg (by rw [startN_len]; omega)]
    obtain ⟨m, hm⟩ : ∃ m, n = m + 1 := ⟨n - 1, by omega⟩
    have e2 : ∀ (l : List Nod) (bits : List Nat), l.length = m + 1 → huffGo (m + 1) l bits = huffGo m l bits := by
      clear hm h1 h2 h3 hx hb hn h hpos hD
      intro l bits hl
      induction m generalizing l bits with
      | zero => rw [huffGo_one _ (by omega), huffGo_one _ (by omega)]
      | succ m ih =>
        have h2 : 2 ≤ l.length := by omega
        have s : ∀ k, huffGo (k + 1) l bits = huffGo k (joinR l ++ [joinX l]) (incr bits (joinX l).s) := fun k => by
          show (if l.length ≤ 1 then bits else _) = _
          rw [if_neg (by omega)]
        rw [s, s, ih _ _ (by have := (join_perm h2).2; simp; omega)]
    have h2l : 2 ≤ (startN ws).length := by rw [startN_len]; omega
    have s : huffGo n (startN ws) (List.replicate (n + 1) 0) = huffGo m (joinR (startN ws) ++ [joinX (startN ws)]) (incr (List.replicate (n + 1) 0) (joinX (startN ws)).s) := by
      rw [hm]
      show (if (startN ws).length ≤ 1 then _ else _) = _
      rw [if_neg (by omega)]
    rw [s, hm]
    exact e2 _ _ (by have := (join_perm h2l).2; have := startN_len ws; simp; omega)
  rw [e]
  refine ⟨x, h1, ⟨h2.sum, fun y hy i hi => ?_⟩, h3⟩
  have := h2.low y hy i hi
  omega
theorem range_sum {ws : List Nat} {x : Nod} {bits : List Nat} (F : Forest ws [x] bits) (f : Nat → Nat) : sumOn f x.s = sumOn f (List.range ws.length) := by
  have := F.part
  simp only [List.flatMap_cons, List.flatMap_nil, List.append_nil] at this
  exact sumOn_perm this
/-- The sum of 2^-bits is 1, of two symbols or more. -/
theorem huff_kraft {ws : List Nat} (h : 2 ≤ ws.length) {D : Nat} (hD : ws.length ≤ D) (hpos : ∀ w ∈ ws, 1 ≤ w) : sumOn (fun i => kr D (bitAt (huff ws) i)) (List.range ws.length) = 2 ^ D := by
  obtain ⟨x, F, K, _⟩ := huff_big h D hD hpos
  rw [← range_sum F]
  exact K.sum x (by simp)
theorem huff_low {ws : List Nat} (h : 2 ≤ ws.length) (hpos : ∀ w ∈ ws, 1 ≤ w) (hs : ws.sum ≤ 986) {i : Nat} (hi : i < ws.length) : bitAt (huff ws) i ≤ 13 := by
  obtain ⟨x, F, _, G⟩ := huff_big h ws.length (Nat.le_refl _) hpos
  obtain ⟨k, h1, h2, _⟩ := G x (by simp)
  have hw : x.w = ws.sum := by
    rw [F.weigh x (by simp), range_sum F]
    have key : ∀ l : List Nat, sumOn (bitAt l) (List.range l.length) = l.sum := by
      intro l
      induction l with
      | nil => rfl
      | cons a l ih =>
        rw [List.length_cons, List.range_succ_eq_map, sumOn_cons, sumOn_map, List.sum_cons, ← ih]
        rfl
    exact key ws
  have hm : i ∈ x.s := by
    have := F.part
    simp only [List.flatMap_cons, List.flatMap_nil, List.append_nil] at this
    exact this.mem_iff.2 (List.mem_range.2 hi)
  have hk : k ≤ 13 := by
    apply Classical.byContradiction
    intro hk
    have := fibG_mono (show 14 ≤ k by omega)
    have e : fibG 14 = 987 := by decide
    omega
  have := h1 i hm
  omega
theorem huff_pos {ws : List Nat} (h : 2 ≤ ws.length) (hpos : ∀ w ∈ ws, 1 ≤ w) {i : Nat} (hi : i < ws.length) : 1 ≤ bitAt (huff ws) i := by
  apply Classical.byContradiction
  intro hc
  have h0 : bitAt (huff ws) i = 0 := by omega
  have hk := huff_kraft h (Nat.le_refl _) hpos
  obtain ⟨j, hj, hne⟩ : ∃ j, j < ws.length ∧ j ≠ i := ⟨if i = 0 then 1 else 0, by split <;> omega, by split <;> omega⟩
  have hp : (List.range ws.length).Perm (i :: j :: ((List.range ws.length).erase i).erase j) := by
    have m1 : i ∈ List.range ws.length := List.mem_range.2 hi
    have m2 : j ∈ (List.range ws.length).erase i := (List.mem_erase_of_ne hne).2 (List.mem_range.2 hj)
    exact (List.perm_cons_erase m1).trans ((List.perm_cons_erase m2).cons _)
  rw [sumOn_perm hp, sumOn_cons, sumOn_cons, h0] at hk
  have e1 : kr ws.length 0 = 2 ^ ws.length := rfl
  have e2 : 1 ≤ kr ws.length (bitAt (huff ws) j) := Nat.one_le_two_pow
  omega

end Go.Proofs.YthcfhmebikcfpaaGreatDoor

namespace Go.Proofs.YthcfhmebikcfpaaGreatDoor
open Go.RowKit

instance instEncStr : Enc ByteArray where
  sz := 1
  by_ := 16
  rep := fun _ s cs => cs = [.string s] ∧ s.size ≤ 140737488355328
  len := fun h => by rw [h.1]; rfl
  mono := fun _ h => h
  one := fun h u hu => by rw [h.1] at hu; simp at hu; subst hu; rfl
theorem Sl.str {H : Snap} {v : Value} {xs : List ByteArray} {k : Nat} {x : ByteArray} (h : Sl H v xs) (hx : At xs k x) :
    ∃ b o c, v = .slice (some ⟨b, o, none⟩) xs.length c ∧ x.size ≤ 140737488355328 ∧ ∀ w, Holds H w → w.cell? ⟨b, o + k, none⟩ = some (.string x) := by
  obtain ⟨b, o, c, ds, hv, ⟨hd, hi⟩, hc⟩ := h.get hx
  refine ⟨b, o, c, hv, hi, fun w hw => ?_⟩
  have := hc w hw 0 (.string x) (by rw [hd]; rfl)
  simpa [Enc.sz] using this

/-- Two numbers: a symbol with its bits, or its weight. -/
structure Pr where
  s : Int
  n : Int
  deriving DecidableEq, Inhabited
instance instEncPr : Enc Pr where
  sz := 2
  by_ := 16
  rep := fun _ p cs => cs = [.int .i64 p.s, .int .i64 p.n] ∧ I64 p.s ∧ I64 p.n
  len := fun h => by rw [h.1]; rfl
  mono := fun _ h => h
  one := fun h u hu => by rw [h.1] at hu; simp at hu; rcases hu with rfl | rfl <;> rfl
theorem Sl.pr {H : Snap} {v : Value} {xs : List Pr} {k : Nat} {x : Pr} (h : Sl H v xs) (hx : At xs k x) :
    ∃ b o c, v = .slice (some ⟨b, o, none⟩) xs.length c ∧ (I64 x.s ∧ I64 x.n) ∧ (∀ w, Holds H w → w.cell? ⟨b, o + k * 2, none⟩ = some (.int .i64 x.s)) ∧ (∀ w, Holds H w → w.cell? ⟨b, o + k * 2 + 1, none⟩ = some (.int .i64 x.n)) := by
  obtain ⟨b, o, c, ds, hv, ⟨hd, hi⟩, hc⟩ := h.get hx
  refine ⟨b, o, c, hv, hi, fun w hw => ?_, fun w hw => ?_⟩
  · exact hc w hw 0 _ (by rw [hd]; rfl)
  · exact hc w hw 1 _ (by rw [hd]; rfl)
theorem eStr : ElemT Tryz.prog 22 9 ByteArray := .mk' (.string ⟨#[]⟩) Tryz.underlying22 (by kernel_rfl) rfl (by decide)
theorem eLen : ElemT Tryz.prog 32 47 Pr := .mk' (.agg #[.int .i64 0, .int .i64 0]) Tryz.underlying32 (by kernel_rfl) rfl (by decide)
theorem eWt : ElemT Tryz.prog 29 69 Pr := .mk' (.agg #[.int .i64 0, .int .i64 0]) Tryz.underlying29 (by kernel_rfl) rfl (by decide)

end Go.Proofs.YthcfhmebikcfpaaGreatDoor
