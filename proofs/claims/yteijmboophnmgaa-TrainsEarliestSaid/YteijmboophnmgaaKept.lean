/- Houses made out of a house: better, with one machine more, without some bundles, in another order. Plain. -/
import Derived.Test.YteijmboophnmgaaSim
namespace Go.Proofs.Yteijmboophnmgaa

/-- The bundles of o are those of h with these numbers. -/
structure Kept (h o : House) (ks : List Nat) : Prop where
  nodup : ks.Nodup
  lt : ∀ k ∈ ks, k < h.bs.length
  eq : o.bs = ks.map fun k => h.bs.getD k default

def dn (ks : List Nat) (b : Int) : Option Int := if 0 ≤ b ∧ b.toNat ∈ ks then some ((ks.idxOf b.toNat : Nat) : Int) else none
def up (ks : List Nat) (j : Int) : Option Int := if 0 ≤ j ∧ j.toNat < ks.length then some ((ks.getD j.toNat 0 : Nat) : Int) else none

theorem dn_some {ks : List Nat} {b c : Int} (h : dn ks b = some c) : 0 ≤ b ∧ b.toNat ∈ ks ∧ c = ((ks.idxOf b.toNat : Nat) : Int) := by
  unfold dn at h
  split at h
  · rename_i k; exact ⟨k.1, k.2, (Option.some.inj h).symm⟩
  · cases h
theorem up_some {ks : List Nat} {b c : Int} (h : up ks b = some c) : 0 ≤ b ∧ b.toNat < ks.length ∧ c = ((ks.getD b.toNat 0 : Nat) : Int) := by
  unfold up at h
  split at h
  · rename_i k; exact ⟨k.1, k.2, (Option.some.inj h).symm⟩
  · cases h
theorem idxOf_at {ks : List Nat} {k : Nat} (h : k ∈ ks) : At ks (ks.idxOf k) k := by
  have h1 := List.idxOf_lt_length_of_mem h
  exact List.getElem?_eq_some_iff.2 ⟨h1, List.getElem_idxOf h1⟩
theorem At.inj {ks : List Nat} (hn : ks.Nodup) {i j k : Nat} (h : At ks i k) (h' : At ks j k) : i = j := by
  obtain ⟨h1, e1⟩ := h.get
  obtain ⟨h2, e2⟩ := h'.get
  have hp := List.pairwise_iff_getElem.1 hn
  rcases Nat.lt_trichotomy i j with hlt | heq | hgt
  · exact absurd (e1.trans e2.symm) (hp i j h1 h2 hlt)
  · exact heq
  · exact absurd (e2.trans e1.symm) (hp j i h2 h1 hgt)

section
variable {h o : House} {ks : List Nat}
theorem Kept.len (K : Kept h o ks) : o.bs.length = ks.length := by rw [K.eq, List.length_map]
theorem Kept.bund (K : Kept h o ks) {i k : Nat} (hi : At ks i k) : Go.Proofs.Yteijmboophnmgaa.bund o (i : Int) = Go.Proofs.Yteijmboophnmgaa.bund h (k : Int) := by
  unfold Go.Proofs.Yteijmboophnmgaa.bund
  rw [Int.toNat_natCast, Int.toNat_natCast]
  have : At o.bs i (h.bs.getD k default) := by
    unfold At
    rw [K.eq, List.getElem?_map, show ks[i]? = some k from hi]; rfl
  exact this.getD _
theorem Kept.dn_inj (a b c : Int) (ha : dn ks a = some c) (hb : dn ks b = some c) : a = b := by
  obtain ⟨a0, am, ae⟩ := dn_some ha
  obtain ⟨b0, bm, be⟩ := dn_some hb
  have h1 := idxOf_at am
  have h2 := idxOf_at bm
  rw [show ks.idxOf a.toNat = ks.idxOf b.toNat by omega] at h1
  have := h1.uniq h2
  omega
theorem Kept.dn_into (K : Kept h o ks) (b b' : Int) (e : dn ks b = some b') : 0 ≤ b' ∧ b' ≤ (o.bs.length : Int) - 1 ∧ Go.Proofs.Yteijmboophnmgaa.bund o b' = Go.Proofs.Yteijmboophnmgaa.bund h b := by
  obtain ⟨a0, am, rfl⟩ := dn_some e
  have h1 := idxOf_at am
  have h2 := h1.lt
  rw [← K.len] at h2
  refine ⟨by omega, by omega, ?_⟩
  rw [K.bund h1, Int.toNat_of_nonneg a0]
theorem Kept.dn_onto (K : Kept h o ks) (b' : Nat) (hb : b' < o.bs.length) : ∃ b : Nat, b < h.bs.length ∧ b ∈ ks ∧ dn ks (b : Int) = some (b' : Int) := by
  obtain ⟨k, hk⟩ := At.mk (xs := ks) (k := b') (by rw [← K.len]; exact hb)
  refine ⟨k, K.lt k hk.mem, hk.mem, ?_⟩
  unfold dn
  rw [Int.toNat_natCast, if_pos ⟨by omega, hk.mem⟩]
  rw [At.inj K.nodup (idxOf_at hk.mem) hk]
theorem Kept.up_inj (K : Kept h o ks) (a b c : Int) (ha : up ks a = some c) (hb : up ks b = some c) : a = b := by
  obtain ⟨a0, am, ae⟩ := up_some ha
  obtain ⟨b0, bm, be⟩ := up_some hb
  obtain ⟨x, hx⟩ := At.mk am
  obtain ⟨y, hy⟩ := At.mk bm
  rw [hx.getD] at ae
  rw [hy.getD] at be
  have e : x = y := by omega
  subst e
  have := At.inj K.nodup hx hy
  omega
theorem Kept.up_into (K : Kept h o ks) (b b' : Int) (e : up ks b = some b') : 0 ≤ b' ∧ b' ≤ (h.bs.length : Int) - 1 ∧ Go.Proofs.Yteijmboophnmgaa.bund h b' = Go.Proofs.Yteijmboophnmgaa.bund o b := by
  obtain ⟨a0, am, rfl⟩ := up_some e
  obtain ⟨x, hx⟩ := At.mk am
  rw [hx.getD]
  have h2 := K.lt x hx.mem
  refine ⟨by omega, by omega, ?_⟩
  rw [← K.bund hx, Int.toNat_of_nonneg a0]
theorem Kept.up_onto (K : Kept h o ks) (b : Nat) (hb : b ∈ ks) : ∃ j : Nat, j < o.bs.length ∧ up ks (j : Int) = some (b : Int) := by
  have h1 := idxOf_at hb
  have h2 := h1.lt
  refine ⟨ks.idxOf b, by rw [K.len]; exact h2, ?_⟩
  unfold up
  rw [Int.toNat_natCast, if_pos ⟨by omega, h2⟩, h1.getD]
end

theorem map_getD_range {α : Type} (xs : List α) (d : α) : xs = (List.range xs.length).map fun k => xs.getD k d := by
  refine List.ext_getElem (by simp) fun i h1 h2 => ?_
  simp only [List.getElem_map, List.getElem_range]
  have : At xs i xs[i] := List.getElem?_eq_getElem h1
  rw [this.getD]
theorem kept_all (h o : House) (e : o.bs = h.bs) : Kept h o (List.range h.bs.length) :=
  ⟨List.nodup_range, fun k hk => List.mem_range.1 hk, by rw [e]; exact map_getD_range _ _⟩
theorem kept_but (h o : House) (b : Nat) (e : o.bs = h.bs.take b ++ h.bs.drop (b + 1)) : Kept h o ((List.range h.bs.length).eraseIdx b) := by
  refine ⟨List.nodup_range.sublist (List.eraseIdx_sublist _ _), fun k hk => List.mem_range.1 (List.mem_of_mem_eraseIdx hk), ?_⟩
  rw [e, List.eraseIdx_eq_take_drop_succ, List.map_append, List.map_take, List.map_drop, ← map_getD_range]
theorem kept_filter (h o : House) (P : Bund → Bool) (e : o.bs = h.bs.filter P) : Kept h o ((List.range h.bs.length).filter fun k => P (h.bs.getD k default)) := by
  refine ⟨List.nodup_range.sublist List.filter_sublist, fun k hk => List.mem_range.1 (List.mem_filter.1 hk).1, ?_⟩
  rw [e]
  conv => lhs; rw [map_getD_range h.bs default, List.filter_map]
  rfl

/-! ### The better house -/

def betterH (h : House) (m pc rd t lt cg bn : Int) : House where
  ms := if within m 0 ((h.ms.length : Int) - 1) then h.ms.set m.toNat ⟨(mach h m.toNat).r - rd, (mach h m.toNat).p - pc, (mach h m.toNat).s⟩ else h.ms
  bs := if within bn 0 ((h.bs.length : Int) - 1) then h.bs.take bn.toNat ++ h.bs.drop (bn.toNat + 1) else h.bs
  ts := if within t 0 ((h.ts.length : Int) - 1) then h.ts.set t.toNat (h.ts.getD t.toNat 0 + lt) else h.ts
  ch := h.ch - cg

theorem sim_of_kept {h o : House} {ks : List Nat} (K : Kept h o ks) (ht : o.ts.length = h.ts.length) (hl : ∀ t : Nat, h.ts.getD t 0 ≤ o.ts.getD t 0) (hc : o.ch ≤ h.ch)
    (hm : o.ms.length = h.ms.length) (hf : ∀ k, k < h.ms.length → (mach o k).r ≤ (mach h k).r ∧ (mach o k).p ≤ (mach h k).p ∧ (mach o k).s = (mach h k).s) : Sim (fun _ => True) h o (dn ks) id where
  ts := ht
  later := fun t _ => hl t
  ch := hc
  inj := Kept.dn_inj
  into := fun b b' _ _ e => K.dn_into b b' e
  onto := fun b' hb' _ => by obtain ⟨b, h1, _, h2⟩ := K.dn_onto b' hb'; exact ⟨b, h1, h2⟩
  mto := fun k hk => ⟨k, by rw [hm]; exact hk, rfl⟩
  minj := fun _ _ _ _ e _ => e
  fast := fun k _ hk => ⟨(hf k hk).1, (hf k hk).2.1⟩
  stop := fun k hk e => ⟨by rw [← hm]; exact hk, (hf k (by rw [← hm]; exact hk)).2.2.symm.trans e⟩

theorem getD_set {α : Type} (xs : List α) (i k : Nat) (x d : α) : (xs.set i x).getD k d = if i = k ∧ k < xs.length then x else xs.getD k d := by
  simp only [List.getD_eq_getElem?_getD]
  by_cases e : i = k
  · subst e
    by_cases hk : i < xs.length
    · rw [List.getElem?_set_self hk, if_pos ⟨rfl, hk⟩]; rfl
    · rw [if_neg (fun c => hk c.2), List.getElem?_eq_none (by rw [List.length_set]; omega), List.getElem?_eq_none (by omega)]
  · rw [List.getElem?_set_ne e, if_neg (fun c => e c.1)]

theorem better_sim (h : House) {m pc rd t lt cg bn : Int} (h1 : 0 ≤ pc) (h2 : 0 ≤ rd) (h3 : 0 ≤ lt) (h4 : 0 ≤ cg) : ∃ ks, Sim (fun _ => True) h (betterH h m pc rd t lt cg bn) (dn ks) id := by
  have hK : ∃ ks, Kept h (betterH h m pc rd t lt cg bn) ks := by
    by_cases hb : within bn 0 ((h.bs.length : Int) - 1) = true
    · exact ⟨_, kept_but h _ bn.toNat (by unfold betterH; simp only [if_pos hb])⟩
    · exact ⟨_, kept_all h _ (by unfold betterH; simp only [if_neg hb])⟩
  obtain ⟨ks, K⟩ := hK
  refine ⟨ks, sim_of_kept K ?_ ?_ ?_ ?_ ?_⟩
  · unfold betterH; simp only; split
    · exact List.length_set
    · rfl
  · intro t'
    unfold betterH; simp only; split
    · rw [getD_set]; split
      · rename_i e; rw [e.1]; omega
      · exact Int.le_refl _
    · exact Int.le_refl _
  · show h.ch - cg ≤ h.ch; omega
  · unfold betterH; simp only; split
    · exact List.length_set
    · rfl
  · intro k hk
    unfold Go.Proofs.Yteijmboophnmgaa.mach betterH; simp only; split
    · rw [getD_set]; split
      · rename_i e
        obtain ⟨rfl, _⟩ := e
        have a1 : (h.ms.getD m.toNat default).r - rd ≤ (h.ms.getD m.toNat default).r := by omega
        have a2 : (h.ms.getD m.toNat default).p - pc ≤ (h.ms.getD m.toNat default).p := by omega
        exact ⟨a1, a2, rfl⟩
      · omega
    · omega

/-! ### One machine more -/

def moreH (h : House) (r p : Int) : House := { h with ms := h.ms ++ [⟨r, p, 0⟩] }
theorem more_mach {h : House} {r p : Int} {k : Nat} (hk : k < h.ms.length) : mach (moreH h r p) k = mach h k := by
  unfold mach moreH
  simp only [List.getD_eq_getElem?_getD]
  rw [List.getElem?_append_left hk]
theorem more_last {h : House} {r p : Int} : mach (moreH h r p) h.ms.length = ⟨r, p, 0⟩ := by
  unfold mach moreH
  simp only [List.getD_eq_getElem?_getD]
  rw [List.getElem?_append_right (Nat.le_refl _)]; simp
theorem more_sim (h : House) (r p : Int) : ∃ ks, Sim (fun _ => True) h (moreH h r p) (dn ks) id := by
  have K := kept_all h (moreH h r p) rfl
  refine ⟨_, rfl, fun _ _ => Int.le_refl _, Int.le_refl _, Kept.dn_inj, fun b b' _ _ e => K.dn_into b b' e, fun b' hb' _ => ?_, fun k hk => ⟨k, ?_, rfl⟩, fun _ _ _ _ e _ => e, fun k _ hk => ?_, fun k hk e => ?_⟩
  · obtain ⟨b, h1, _, h2⟩ := K.dn_onto b' hb'; exact ⟨b, h1, h2⟩
  · show k < (h.ms ++ [_]).length; rw [List.length_append]; omega
  · rw [more_mach (show k < h.ms.length from hk)]; exact ⟨Int.le_refl _, Int.le_refl _⟩
  · have hk' : k < h.ms.length + 1 := by have : (moreH h r p).ms.length = h.ms.length + 1 := by simp [moreH]
                                         omega
    by_cases hkk : k < h.ms.length
    · rw [more_mach hkk] at e; exact ⟨hkk, e⟩
    · obtain rfl : k = h.ms.length := by omega
      rw [more_last] at e; cases e

/-! ### Without the bundles of some trains -/

def lessH (h : House) (l : List Int) : House := { h with bs := h.bs.filter fun b => !decide (b.t ∈ l) }
theorem less_valid {h : House} (hv : Valid h) (l : List Int) : Valid (lessH h l) := by
  refine ⟨hv.m1, hv.m3, hv.t4, Nat.le_trans (List.length_filter_le _ _) hv.b5, hv.ch, hv.ms, hv.ts, ?_⟩
  rw [List.all_eq_true]
  intro x hx
  exact List.all_eq_true.1 hv.bs x (List.mem_filter.1 hx).1
/-- Without the bundles of some trains a house is sure just if it is sure but for these. -/
theorem less_sure {h : House} (hv : Valid h) (l : List Int) : sureB (lessH h l) [] = sureB h l := by
  have K := kept_filter h (lessH h l) _ rfl
  have hv' := less_valid hv l
  have hmem : ∀ b : Nat, b ∈ ((List.range h.bs.length).filter fun k => !decide ((h.bs.getD k default).t ∈ l)) ↔ b < h.bs.length ∧ (bund h b).t ∉ l := by
    intro b
    rw [List.mem_filter, List.mem_range]
    unfold bund
    simp
  rw [Bool.eq_iff_iff]
  constructor
  · refine Sim.sure (T := fun t => t ∉ l) (ren := up _) (σ := id) hv' hv ⟨rfl, fun _ _ => Int.le_refl _, Int.le_refl _, K.up_inj, fun b b' _ _ e => K.up_into b b' e, fun b' hb' ht => K.up_onto b' ((hmem b').2 ⟨hb', ht⟩), fun k hk => ⟨k, hk, rfl⟩, fun _ _ _ _ e _ => e, fun k _ _ => ⟨Int.le_refl _, Int.le_refl _⟩, fun k hk e => ⟨hk, e⟩⟩ ?_
    intro t b hb hbt hT
    refine Classical.byContradiction fun hn => ?_
    have := hT hn
    simp at this
  · refine Sim.sure (T := fun _ => True) (ren := dn _) (σ := id) hv hv' ⟨rfl, fun _ _ => Int.le_refl _, Int.le_refl _, Kept.dn_inj, fun b b' _ _ e => K.dn_into b b' e, fun b' hb' _ => ?_, fun k hk => ⟨k, hk, rfl⟩, fun _ _ _ _ e _ => e, fun k _ _ => ⟨Int.le_refl _, Int.le_refl _⟩, fun k hk e => ⟨hk, e⟩⟩ ?_
    · obtain ⟨b, h1, _, h2⟩ := K.dn_onto b' hb'; exact ⟨b, h1, h2⟩
    · intro t b hb hbt hT
      obtain ⟨b0, h1, h2, h3⟩ := K.dn_onto b hb
      have h4 := (K.dn_into _ _ h3).2.2
      have h5 := ((hmem b0).1 h2).2
      rw [← h4, hbt] at h5
      exact absurd (hT trivial) h5

/-! ### Any order -/

/-- Numbers that are all those below n, each once. -/
structure Perm0 (n : Nat) (ks : List Nat) : Prop where
  len : ks.length = n
  nodup : ks.Nodup
  lt : ∀ k ∈ ks, k < n

theorem nodup_nat_len (n : Nat) (l : List Nat) (h : ∀ x ∈ l, x < n) (hn : l.Nodup) : l.length ≤ n := by
  have := nodup_len n (l.map Int.ofNat) (fun x hx => by
    obtain ⟨y, hy, rfl⟩ := List.mem_map.1 hx
    have := h y hy
    simp only [Int.ofNat_eq_natCast]; omega) (List.pairwise_map.2 (hn.imp fun {a b} hab e => hab (Int.ofNat.inj e)))
  rwa [List.length_map] at this
theorem Perm0.all {n : Nat} {ks : List Nat} (K : Perm0 n ks) {k : Nat} (hk : k < n) : k ∈ ks := by
  refine Classical.byContradiction fun hn => ?_
  have := nodup_nat_len n (k :: ks) (fun x hx => by rcases List.mem_cons.1 hx with rfl | hx; exact hk; exact K.lt x hx) (List.nodup_cons.2 ⟨hn, K.nodup⟩)
  rw [List.length_cons, K.len] at this; omega
theorem turned (n s : Nat) : Perm0 n ((List.range n).map fun i => (i + s) % n) := by
  refine ⟨by simp, ?_, ?_⟩
  · refine List.pairwise_map.2 ((List.pairwise_lt_range (n := n)).imp_of_mem fun {a b} ha hb hab e => ?_)
    have h1 := Nat.sub_mod_eq_zero_of_mod_eq e.symm
    rw [show b + s - (a + s) = b - a by omega, Nat.mod_eq_of_lt (by have := List.mem_range.1 hb; omega)] at h1
    omega
  · intro k hk
    obtain ⟨i, hi, rfl⟩ := List.mem_map.1 hk
    exact Nat.mod_lt _ (by have := List.mem_range.1 hi; omega)

/-- A house in another order. -/
def turnH (h : House) (ms bs : List Nat) : House := { h with ms := ms.map fun k => h.ms.getD k default, bs := bs.map fun k => h.bs.getD k default }
theorem getD_mem {α : Type} {xs : List α} {k : Nat} (hk : k < xs.length) (d : α) : xs.getD k d ∈ xs := by
  obtain ⟨x, hx⟩ := At.mk hk
  rw [hx.getD]; exact hx.mem
theorem turn_valid {h : House} (hv : Valid h) {ms bs : List Nat} (M : Perm0 h.ms.length ms) (B : Perm0 h.bs.length bs) : Valid (turnH h ms bs) := by
  have h1 : (turnH h ms bs).ms.length = h.ms.length := by simp [turnH, M.len]
  have h2 : (turnH h ms bs).bs.length = h.bs.length := by simp [turnH, B.len]
  refine ⟨by rw [h1]; exact hv.m1, by rw [h1]; exact hv.m3, hv.t4, by rw [h2]; exact hv.b5, hv.ch, ?_, hv.ts, ?_⟩
  · rw [List.all_eq_true]
    intro x hx
    obtain ⟨k, hk, rfl⟩ := List.mem_map.1 hx
    exact List.all_eq_true.1 hv.ms _ (getD_mem (M.lt k hk) _)
  · rw [List.all_eq_true]
    intro x hx
    obtain ⟨k, hk, rfl⟩ := List.mem_map.1 hx
    exact List.all_eq_true.1 hv.bs _ (getD_mem (B.lt k hk) _)
theorem turn_mach {h : House} {ms bs : List Nat} {i k : Nat} (hi : At ms i k) : mach (turnH h ms bs) i = mach h k := by
  unfold mach turnH
  have : At (ms.map fun k => h.ms.getD k default) i (h.ms.getD k default) := by
    unfold At
    rw [List.getElem?_map, show ms[i]? = some k from hi]; rfl
  exact this.getD _
theorem turn_sim {h : House} {ms bs : List Nat} (M : Perm0 h.ms.length ms) (B : Perm0 h.bs.length bs) : Sim (fun _ => True) h (turnH h ms bs) (dn bs) (fun k => ms.getD k 0) := by
  have K : Kept h (turnH h ms bs) bs := ⟨B.nodup, B.lt, rfl⟩
  have hl : (turnH h ms bs).ms.length = ms.length := by simp [turnH]
  refine ⟨rfl, fun _ _ => Int.le_refl _, Int.le_refl _, Kept.dn_inj, fun b b' _ _ e => K.dn_into b b' e, fun b' hb' _ => ?_, fun k hk => ?_, fun k k' hk hk' e _ => ?_, fun k hk _ => ?_, fun k hk e => ?_⟩
  · obtain ⟨b, h1, _, h2⟩ := K.dn_onto b' hb'; exact ⟨b, h1, h2⟩
  · have h1 := idxOf_at (M.all hk)
    exact ⟨_, by rw [hl]; exact h1.lt, h1.getD _⟩
  · rw [hl] at hk hk'
    obtain ⟨x, hx⟩ := At.mk hk
    obtain ⟨y, hy⟩ := At.mk hk'
    rw [hx.getD, hy.getD] at e
    subst e
    exact At.inj M.nodup hx hy
  · rw [hl] at hk
    obtain ⟨x, hx⟩ := At.mk hk
    rw [hx.getD, turn_mach hx]
    exact ⟨Int.le_refl _, Int.le_refl _⟩
  · rw [hl] at hk
    obtain ⟨x, hx⟩ := At.mk hk
    rw [turn_mach hx] at e
    rw [hx.getD]
    exact ⟨M.lt x hx.mem, e⟩
theorem turn_back {h : House} {ms bs : List Nat} (M : Perm0 h.ms.length ms) (B : Perm0 h.bs.length bs) : Sim (fun _ => True) (turnH h ms bs) h (up bs) (fun k => ms.idxOf k) := by
  have K : Kept h (turnH h ms bs) bs := ⟨B.nodup, B.lt, rfl⟩
  have hl : (turnH h ms bs).ms.length = ms.length := by simp [turnH]
  refine ⟨rfl, fun _ _ => Int.le_refl _, Int.le_refl _, K.up_inj, fun b b' _ _ e => K.up_into b b' e, fun b' hb' _ => K.up_onto b' (B.all hb'), fun k hk => ?_, fun k k' hk hk' e _ => ?_, fun k hk _ => ?_, fun k hk e => ?_⟩
  · rw [hl] at hk
    obtain ⟨x, hx⟩ := At.mk hk
    exact ⟨x, M.lt x hx.mem, At.inj M.nodup (idxOf_at hx.mem) hx⟩
  · have h1 := idxOf_at (M.all hk)
    have h2 := idxOf_at (M.all hk')
    rw [e] at h1
    exact h1.uniq h2
  · rw [turn_mach (idxOf_at (M.all hk))]
    exact ⟨Int.le_refl _, Int.le_refl _⟩
  · have h1 := idxOf_at (M.all hk)
    exact ⟨by rw [hl]; exact h1.lt, by rw [turn_mach h1]; exact e⟩

end Go.Proofs.Yteijmboophnmgaa
