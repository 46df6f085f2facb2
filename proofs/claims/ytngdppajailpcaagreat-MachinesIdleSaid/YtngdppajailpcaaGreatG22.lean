/- Lemmas and walks on which the claims of this seat lean: MFit MJoin Kept WaitP MLawP Law4b. -/
import Derived.Test.YtngdppajailpcaaGreatG03
import Derived.Test.YtngdppajailpcaaGreatG05
import Derived.Test.YtngdppajailpcaaGreatG08
import Derived.Test.YtngdppajailpcaaGreatG18

set_option linter.all false

namespace Go.Proofs.YtngdppajailpcaaGreat
open Go.RowKit

attribute [local go_sem] Holds.drew Holds.alloc Holds.drewN WB.holds Oper.semAt_some FW_fn FW_dep FW_round run_loadShV run_indexShV run_indexRow
attribute [local go_sem ↓] loadAt_sh index_sh index_row storeAt_hl

theorem fitA_no {h : Hall} {n : Int} {set : List Plate} (hok : (validHall h && (isMachA h n && setOk set)) = false) : fitA h n set = [] ∧ (askM (validHall h) (isMachA h n && setOk set) != 0) = true := by
  unfold fitA
  rw [hok]
  refine ⟨rfl, ?_⟩
  cases h1 : validHall h
  · rfl
  · rw [h1, Bool.true_and] at hok; rw [hok]; rfl

end Go.Proofs.YtngdppajailpcaaGreat

namespace Go.Proofs.YtngdppajailpcaaGreat

theorem cntMax_assoc : ∀ {a b c : Cnt}, a.length = b.length → b.length = c.length → cntMax (cntMax a b) c = cntMax a (cntMax b c)
  | [], [], [], _, _ => rfl
  | x :: a, y :: b, z :: c, h1, h2 => by
    rw [cntMax_cons, cntMax_cons, cntMax_cons, cntMax_cons, cntMax_assoc (by simpa using h1) (by simpa using h2), Int.max_assoc]
theorem cntMax_zero {c : Cnt} (hc : Cn c) : cntMax c zero12 = c :=
  gt_ext (by rw [cntMax_len (by rw [hc.len]; exact Cn.zero.len.symm), hc.len]) hc.len fun k hk => by
    rw [cntMax_at hc.len Cn.zero.len hk, gt_zero hk]
    have := (hc.gt hk).2; omega
theorem flatMap_same {α β : Type} {f g : α → List β} : ∀ {l : List α}, (∀ x ∈ l, f x = g x) → l.flatMap f = l.flatMap g
  | [], _ => rfl
  | x :: l, h => by rw [List.flatMap_cons, List.flatMap_cons, h x (by simp), flatMap_same fun y hy => h y (by simp [hy])]
theorem joinsC_max {n : Nat} : ∀ {all : List (List Cnt)} {c d : Cnt}, (∀ l ∈ all, Six n l) → c.length = n → d.length = n → joinsC all (cntMax c d) = (joinsC all d).map (cntMax c)
  | [], c, d, _, _, _ => rfl
  | l :: all, c, d, h, hc, hd => by
    simp only [joinsC, List.map_flatMap]
    refine flatMap_same fun x hx => ?_
    have e := h l (by simp) x hx
    rw [cntMax_assoc (by rw [hc, hd]) (by rw [hd, e]), joinsC_max (fun k hk => h k (by simp [hk])) hc (by rw [cntMax_len (by rw [hd, e]), hd])]

/-- A shelf does for all cases just if it has all plates of some join. -/
theorem joins_does : ∀ {all : List (List Cnt)} {c d : Cnt}, (∀ l ∈ all, Six 12 l) → c.length = 12 → d.length = 12 → ((∃ y ∈ joinsC all d, cntLe y c = true) ↔ doAllC c all = true ∧ cntLe d c = true)
  | [], c, d, _, _, _ => by simp [joinsC, doAllC]
  | l :: all, c, d, h, hc, hd => by
    have hl := h l (by simp)
    have key : ∀ x ∈ l, cntLe (cntMax d x) c = true ↔ cntLe d c = true ∧ cntLe x c = true := fun x hx => by
      have e := hl x hx
      rw [cntLe_iff (by rw [cntMax_len (by rw [hd, e]), hd]) hc, cntLe_iff hd hc, cntLe_iff e hc]
      constructor
      · intro k
        refine ⟨fun i hi => ?_, fun i hi => ?_⟩
        all_goals
          have h1 := k i hi
          have h2 : gT (cntMax d x) i = _ := cntMax_at hd e hi
          unfold gT at h2
          omega
      · rintro ⟨k1, k2⟩ i hi
        have h1 := k1 i hi
        have h2 := k2 i hi
        have h3 : gT (cntMax d x) i = _ := cntMax_at hd e hi
        unfold gT at h3
        omega
    have ih := fun x hx => joins_does (all := all) (c := c) (d := cntMax d x) (fun k hk => h k (by simp [hk])) hc (by rw [cntMax_len (by rw [hd, hl x hx]), hd])
    constructor
    · rintro ⟨y, hy, hle⟩
      obtain ⟨x, hx, hy⟩ := List.mem_flatMap.1 hy
      obtain ⟨h1, h2⟩ := (ih x hx).1 ⟨y, hy, hle⟩
      obtain ⟨h3, h4⟩ := (key x hx).1 h2
      refine ⟨?_, h3⟩
      simp only [doAllC, List.all_cons, Bool.and_eq_true]
      exact ⟨List.any_eq_true.2 ⟨x, hx, h4⟩, h1⟩
    · rintro ⟨h1, h2⟩
      simp only [doAllC, List.all_cons, Bool.and_eq_true] at h1
      obtain ⟨x, hx, h4⟩ := List.any_eq_true.1 h1.1
      obtain ⟨y, hy, hle⟩ := (ih x hx).2 ⟨h1.2, (key x hx).2 ⟨h2, h4⟩⟩
      exact ⟨y, List.mem_flatMap.2 ⟨x, hx, hy⟩, hle⟩

theorem joinsC_ne : ∀ {all : List (List Cnt)} {c : Cnt}, joinsC all c = [] ↔ ∃ l ∈ all, l = []
  | [], c => by simp [joinsC]
  | l :: all, c => by
    simp only [joinsC, List.flatMap_eq_nil_iff, List.mem_cons, exists_eq_or_imp]
    constructor
    · intro h
      cases l with
      | nil => exact .inl rfl
      | cons x l => exact .inr (joinsC_ne.1 (h x (by simp)))
    · rintro (h | h)
      · rw [h]; simp
      · exact fun x _ => joinsC_ne.2 h

/-- What is so of both that are joined is so of the joins. -/
theorem joinsC_rel {R : Cnt → Cnt → Prop} (hR : ∀ a b a' b', R a b → R a' b' → R (cntMax a a') (cntMax b b')) {f g : Int → List Cnt} : ∀ {cs : List Int} {c c' : Cnt}, (∀ i ∈ cs, ∀ x ∈ f i, ∃ y ∈ g i, R y x) → R c' c →
    ∀ x ∈ joinsC (cs.map f) c, ∃ y ∈ joinsC (cs.map g) c', R y x
  | [], c, c', _, h, x, hx => by
    rw [List.mem_singleton.1 hx]
    exact ⟨c', by simp [joinsC], h⟩
  | i :: cs, c, c', hf, h, x, hx => by
    obtain ⟨n, hn, hx⟩ := List.mem_flatMap.1 hx
    obtain ⟨m, hm, hmn⟩ := hf i (by simp) n hn
    obtain ⟨y, hy, hyx⟩ := joinsC_rel hR (fun j hj => hf j (by simp [hj])) (hR _ _ _ _ h hmn) x hx
    exact ⟨y, List.mem_flatMap.2 ⟨m, hm, hy⟩, hyx⟩

/-! ### Of a hall -/

def joinsH (h : Hall) : List Cnt := joinsC (allA h) zero12
/-- Twelve numbers of at most 3. -/
structure Cn3 (c : Cnt) : Prop where
  len : c.length = 12
  bd : ∀ k, k < 12 → 0 ≤ gT c k ∧ gT c k ≤ 3
theorem Cn3.cn {c : Cnt} (h : Cn3 c) : Cn c := Cn.of h.len fun k hk => by
  have := h.bd k hk; unfold gT at this; omega
theorem Cn3.max {a b : Cnt} (ha : Cn3 a) (hb : Cn3 b) : Cn3 (cntMax a b) := ⟨by rw [cntMax_len (by rw [ha.len, hb.len]), ha.len], fun k hk => by
  rw [cntMax_at ha.len hb.len hk]
  have := ha.bd k hk; have := hb.bd k hk; omega⟩
theorem Cn3.zero : Cn3 zero12 := ⟨mk12_len _, fun k hk => by rw [gt_zero hk]; omega⟩
theorem needsA_cn3 {h : Hall} (hv : ValidH h) {stop : Int} {c : Cnt} (hc : c ∈ needsA h stop) : Cn3 c := ⟨(needsA_cn hv c hc).len, fun _ hk => needsA_bd hv hc hk⟩
theorem joinsH_cn3 {h : Hall} (hv : ValidH h) : ∀ y ∈ joinsH h, Cn3 y :=
  joinsC_all (p := Cn3) (fun _ _ ha hb => ha.max hb) (fun l hl x hx => by
    obtain ⟨s, _, rfl⟩ := List.mem_map.1 hl
    exact needsA_cn3 hv hx) Cn3.zero
theorem leastA_eq {h : Hall} (hv : ValidH h) {c : Cnt} (hc : Cn c) : leastA h c = leastC ((joinsH h).map (cntMax c)) := by
  unfold leastA
  rw [grownC_eq (allA_six hv) hc.len]
  have e := joinsC_max (allA_six hv) hc.len Cn.zero.len
  rw [cntMax_zero hc] at e
  rw [e]; rfl

theorem sum12 {c : Cnt} (h : c.length = 12) : cntSum c = gT c 0 + gT c 1 + gT c 2 + gT c 3 + gT c 4 + gT c 5 + gT c 6 + gT c 7 + gT c 8 + gT c 9 + gT c 10 + gT c 11 := by
  match c, h with
  | [a, b, c, d, e, f, g, i, j, k, m, n], _ => simp [cntSum, gT]
theorem sum_le12 {a b : Cnt} {t : Int} (ha : a.length = 12) (hb : b.length = 12) (h : ∀ k, k < 12 → gT a k ≤ gT b k) : cntSum a ≤ cntSum b := by
  rw [sum12 ha, sum12 hb]
  have := h 0 (by omega); have := h 1 (by omega); have := h 2 (by omega); have := h 3 (by omega); have := h 4 (by omega); have := h 5 (by omega)
  have := h 6 (by omega); have := h 7 (by omega); have := h 8 (by omega); have := h 9 (by omega); have := h 10 (by omega); have := h 11 (by omega)
  omega

theorem leastA_none {h : Hall} (hv : ValidH h) {c : Cnt} (hc : Cn c) : leastA h c = none ↔ joinsH h = [] := by
  rw [leastA_eq hv hc, leastC_none, List.map_eq_nil_iff]
theorem leastA_some {h : Hall} (hv : ValidH h) {c x : Cnt} (hc : Cn c) (e : leastA h c = some x) : (∃ y ∈ joinsH h, x = cntMax c y) ∧ ∀ y ∈ joinsH h, cntLt (cntMax c y) x = false := by
  rw [leastA_eq hv hc] at e
  have hn : ∀ y ∈ (joinsH h).map (cntMax c), y.length = 12 := fun y hy => by
    obtain ⟨z, hz, rfl⟩ := List.mem_map.1 hy
    rw [cntMax_len (by rw [hc.len, (joinsH_cn3 hv z hz).len]), hc.len]
  obtain ⟨h1, h2⟩ := leastC_some hn e
  obtain ⟨y, hy, rfl⟩ := List.mem_map.1 h1
  exact ⟨⟨y, hy, rfl⟩, fun z hz => h2 _ (List.mem_map.2 ⟨z, hz, rfl⟩)⟩
theorem leastA_sum {h : Hall} (hv : ValidH h) {c x : Cnt} (hc : Cn c) (e : leastA h c = some x) : ∀ y ∈ joinsH h, cntSum x ≤ cntSum (cntMax c y) := fun y hy => by
  have h1 := (leastA_some hv hc e).2 y hy
  rcases Int.lt_or_le (cntSum (cntMax c y)) (cntSum x) with h2 | h2
  · rw [cntLt_iff.2 (.inl h2)] at h1; cases h1
  · exact h2

/-- What must come to some counts; 10000: there is nothing that does. -/
def numC (h : Hall) (c : Cnt) : Int := match leastA h c with
  | none => 10000
  | some x => cntSum x - cntSum c
theorem numC_none {h : Hall} (hv : ValidH h) {c : Cnt} (hc : Cn c) (e : joinsH h = []) : numC h c = 10000 := by
  unfold numC; rw [(leastA_none hv hc).2 e]
/-- Few plates: of each at most 10. -/
structure Few (c : Cnt) : Prop where
  len : c.length = 12
  bd : ∀ k, k < 12 → 0 ≤ gT c k ∧ gT c k ≤ 10
theorem Few.cn {c : Cnt} (h : Few c) : Cn c := Cn.of h.len fun k hk => by
  have := h.bd k hk; unfold gT at this; omega
theorem Few.zero : Few zero12 := ⟨mk12_len _, fun k hk => by rw [gt_zero hk]; omega⟩
theorem countsOf_few {l : List Plate} (h : setOk l = true) : Few (countsOf l) := ⟨countsOf_len l, fun k hk => by have := countsOf_bd h hk; omega⟩
theorem max_len {h : Hall} (hv : ValidH h) {c y : Cnt} (hc : c.length = 12) (hy : y ∈ joinsH h) : (cntMax c y).length = 12 := by
  rw [cntMax_len (by rw [hc, (joinsH_cn3 hv y hy).len]), hc]
theorem max_at {h : Hall} (hv : ValidH h) {c y : Cnt} (hc : c.length = 12) (hy : y ∈ joinsH h) {k : Nat} (hk : k < 12) : gT (cntMax c y) k = max (gT c k) (gT y k) := cntMax_at hc (joinsH_cn3 hv y hy).len hk
/-- .. as a number: of all joins what must come at the least. -/
theorem numC_some {h : Hall} (hv : ValidH h) {c : Cnt} (hc : Cn c) (hn : joinsH h ≠ []) : (∃ y ∈ joinsH h, numC h c = cntSum (cntMax c y) - cntSum c) ∧ ∀ y ∈ joinsH h, numC h c ≤ cntSum (cntMax c y) - cntSum c := by
  unfold numC
  cases e : leastA h c with
  | none => exact absurd ((leastA_none hv hc).1 e) hn
  | some x =>
    obtain ⟨⟨y, hy, rfl⟩, _⟩ := leastA_some hv hc e
    exact ⟨⟨y, hy, rfl⟩, fun z hz => by have := leastA_sum hv hc e z hz; simp only; omega⟩
theorem numC_bd {h : Hall} (hv : ValidH h) {c : Cnt} (hc : Few c) : 0 ≤ numC h c ∧ numC h c ≤ 10000 ∧ (joinsH h ≠ [] → numC h c ≤ 36) := by
  by_cases hn : joinsH h = []
  · rw [numC_none hv hc.cn hn]
    exact ⟨by omega, by omega, fun h => absurd hn h⟩
  · obtain ⟨⟨y, hy, e⟩, _⟩ := numC_some hv hc.cn hn
    have hl := max_len hv hc.len hy
    have hs : cntSum c ≤ cntSum (cntMax c y) ∧ cntSum (cntMax c y) ≤ cntSum c + 36 := by
      rw [sum12 hc.len, sum12 hl]
      have key : ∀ k, k < 12 → gT c k ≤ gT (cntMax c y) k ∧ gT (cntMax c y) k ≤ gT c k + 3 := fun k hk => by
        rw [max_at hv hc.len hy hk]
        have := hc.bd k hk; have := (joinsH_cn3 hv y hy).bd k hk; omega
      have := key 0 (by omega); have := key 1 (by omega); have := key 2 (by omega); have := key 3 (by omega); have := key 4 (by omega); have := key 5 (by omega)
      have := key 6 (by omega); have := key 7 (by omega); have := key 8 (by omega); have := key 9 (by omega); have := key 10 (by omega); have := key 11 (by omega)
      omega
    exact ⟨by omega, by omega, fun _ => by omega⟩
theorem numC_lt {h : Hall} (hv : ValidH h) {c : Cnt} (hc : Few c) : numC h c = 10000 ↔ joinsH h = [] := by
  constructor
  · intro e
    by_cases hn : joinsH h = []
    · exact hn
    · have := (numC_bd hv hc).2.2 hn; omega
  · exact numC_none hv hc.cn
/-- Two halls, or two counts, of which each join has one that is not greater. -/
theorem numC_cmp {h o : Hall} (hv : ValidH h) (ho : ValidH o) {c d : Cnt} (hc : Cn c) (hd : Cn d) (k : Int) (hn : joinsH h ≠ []) (hR : ∀ x ∈ joinsH h, ∃ y ∈ joinsH o, cntSum (cntMax d y) - cntSum d ≤ cntSum (cntMax c x) - cntSum c + k) : joinsH o ≠ [] ∧ numC o d ≤ numC h c + k := by
  obtain ⟨⟨x, hx, e⟩, _⟩ := numC_some hv hc hn
  obtain ⟨y, hy, hle⟩ := hR x hx
  have hno : joinsH o ≠ [] := fun e => by rw [e] at hy; cases hy
  have := (numC_some ho hd hno).2 y hy
  exact ⟨hno, by omega⟩

/-! ### What does -/

theorem doAll_joins {h : Hall} (hv : ValidH h) {c : Cnt} (hc : Cn c) : doAllC c (allA h) = true ↔ ∃ y ∈ joinsH h, cntLe y c = true := by
  have := joins_does (all := allA h) (c := c) (d := zero12) (allA_six hv) hc.len Cn.zero.len
  rw [show joinsC (allA h) zero12 = joinsH h from rfl] at this
  rw [this]
  have hz : cntLe zero12 c = true := (cntLe_iff Cn.zero.len hc.len).2 fun k hk => by
    have h1 := (hc.gt hk).2
    have h2 : gT zero12 k = 0 := gt_zero hk
    unfold gT at h1 h2; rw [h2]; exact h1.1
  exact ⟨fun h => ⟨h, hz⟩, fun h => h.1⟩
theorem max_le {h : Hall} (hv : ValidH h) {c y : Cnt} (hc : Cn c) (hy : y ∈ joinsH h) : cntLe y c = true ↔ cntMax c y = c := by
  have hl := (joinsH_cn3 hv y hy).len
  constructor
  · intro hle
    refine gt_ext (max_len hv hc.len hy) hc.len fun k hk => ?_
    rw [max_at hv hc.len hy hk]
    have h1 := (cntLe_iff hl hc.len).1 hle k hk
    unfold gT; omega
  · intro e
    refine (cntLe_iff hl hc.len).2 fun k hk => ?_
    have := max_at hv hc.len hy hk
    rw [e] at this
    unfold gT at this; omega
theorem numC_zero {h : Hall} (hv : ValidH h) {c : Cnt} (hc : Few c) : numC h c = 0 ↔ doAllC c (allA h) = true := by
  rw [doAll_joins hv hc.cn]
  by_cases hn : joinsH h = []
  · rw [numC_none hv hc.cn hn, hn]; simp
  · obtain ⟨⟨y, hy, e⟩, hle⟩ := numC_some hv hc.cn hn
    constructor
    · intro e0
      refine ⟨y, hy, (max_le hv hc.cn hy).2 ?_⟩
      have hlen := max_len hv hc.len hy
      have hcl : cntLe c (cntMax c y) = true := (cntLe_iff hc.len hlen).2 fun k hk => by
        have := max_at hv hc.len hy hk; unfold gT at this; omega
      exact ((cntLe_sum (by rw [hc.len, hlen]) hcl).2 (by omega)).symm
    · rintro ⟨z, hz, hzc⟩
      have h1 := hle z hz
      rw [(max_le hv hc.cn hz).1 hzc] at h1
      have := (numC_bd hv hc).1
      omega
theorem lacks_nil {h : Hall} (hv : ValidH h) {set : List Plate} (hs : setOk set = true) : lacksA h set = [] ↔ doAllC (countsOf set) (allA h) = true := by
  unfold lacksA doAllC allA
  rw [validHall_iff.2 hv, hs, Bool.and_self, if_pos rfl, List.filter_eq_nil_iff, List.all_map, List.all_eq_true]
  simp

/-! ### P9.14, P9.15: with one more plate -/

theorem numC_le_zero {h : Hall} (hv : ValidH h) {c : Cnt} (hc : Few c) (hn : joinsH h ≠ []) : numC h zero12 ≤ numC h c + cntSum c := by
  have hz : cntSum zero12 = 0 := rfl
  refine (numC_cmp hv hv hc.cn Cn.zero (cntSum c) hn fun x hx => ⟨x, hx, ?_⟩).2
  have : cntSum (cntMax zero12 x) ≤ cntSum (cntMax c x) := sum_le12 (t := 0) (max_len hv Cn.zero.len hx) (max_len hv hc.len hx) fun k hk => by
    have := hc.bd k hk
    rw [max_at hv hc.len hx hk, max_at hv Cn.zero.len hx hk, gt_zero hk]; omega
  omega
theorem numC_more {h : Hall} (hv : ValidH h) {c d : Cnt} (hc : Few c) (hd : Few d) {j : Nat} (hj : j < 12) (e : d = c.set j (gT c j + 1)) : numC h d = numC h c ∨ numC h d = numC h c - 1 ∧ joinsH h ≠ [] := by
  by_cases hn : joinsH h = []
  · exact .inl (by rw [numC_none hv hc.cn hn, numC_none hv hd.cn hn])
  · have hat : ∀ k, gT d k = if k = j then gT c j + 1 else gT c k := fun k => by rw [e, gt_set (by rw [hc.len]; exact hj)]
    have hsd : cntSum d = cntSum c + 1 := by rw [e, cntSum_set (by rw [hc.len]; exact hj)]; omega
    have hmx : ∀ x ∈ joinsH h, cntSum (cntMax c x) ≤ cntSum (cntMax d x) ∧ cntSum (cntMax d x) ≤ cntSum (cntMax c x) + 1 := fun x hx => by
      have hlc := max_len hv hc.len hx
      have hld := max_len hv hd.len hx
      have key : ∀ k, k < 12 → gT (cntMax c x) k ≤ gT (cntMax d x) k ∧ gT (cntMax d x) k ≤ gT ((cntMax c x).set j (gT (cntMax c x) j + 1)) k := fun k hk => by
        rw [gt_set (by rw [hlc]; exact hj), max_at hv hc.len hx hk, max_at hv hd.len hx hk, max_at hv hc.len hx hj, hat]
        by_cases ek : k = j
        · subst ek; rw [if_pos rfl, if_pos rfl]; omega
        · rw [if_neg ek, if_neg ek]; omega
      refine ⟨sum_le12 (t := 0) hlc hld fun k hk => (key k hk).1, ?_⟩
      have := sum_le12 (t := 0) hld (by rw [List.length_set]; exact hlc) fun k hk => (key k hk).2
      rw [cntSum_set (by rw [hlc]; exact hj)] at this
      omega
    have h1 := (numC_cmp hv hv hc.cn hd.cn 0 hn fun x hx => ⟨x, hx, by have := hmx x hx; omega⟩).2
    have h2 := (numC_cmp hv hv hd.cn hc.cn 1 hn fun x hx => ⟨x, hx, by have := hmx x hx; omega⟩).2
    by_cases hq : numC h d = numC h c
    · exact .inl hq
    · exact .inr ⟨by omega, hn⟩

end Go.Proofs.YtngdppajailpcaaGreat

namespace Go.Proofs.YtngdppajailpcaaGreat

/-- The bundles of o are those of h with these numbers. -/
structure Kept (h o : House) (ks : List Nat) : Prop where
  nodup : ks.Nodup
  lt : ∀ k ∈ ks, k < h.bs.length
  eq : o.bs = ks.map fun k => h.bs.getD k default

def dn (ks : List Nat) (b : Int) : Option Int := if 0 ≤ b ∧ b.toNat ∈ ks then some ((ks.idxOf b.toNat : Nat) : Int) else none
def up (ks : List Nat) (j : Int) : Option Int := if 0 ≤ j ∧ j.toNat < ks.length then some ((ks.getD j.toNat 0 : Nat) : Int) else none

theorem dn_some {ks : List Nat} {b c : Int} (h : dn ks b = some c) : 0 ≤ b ∧ b.toNat ∈ ks ∧ c = ((ks.idxOf b.toNat : Nat) : Int) := by
  unfold dn at h
  split at h
  · rename_i k; exact ⟨k.1, k.2, (Option.some.inj h).symm⟩
  · cases h
theorem up_some {ks : List Nat} {b c : Int} (h : up ks b = some c) : 0 ≤ b ∧ b.toNat < ks.length ∧ c = ((ks.getD b.toNat 0 : Nat) : Int) := by
  unfold up at h
  split at h
  · rename_i k; exact ⟨k.1, k.2, (Option.some.inj h).symm⟩
  · cases h
theorem idxOf_at {ks : List Nat} {k : Nat} (h : k ∈ ks) : At ks (ks.idxOf k) k := by
  have h1 := List.idxOf_lt_length_of_mem h
  exact List.getElem?_eq_some_iff.2 ⟨h1, List.getElem_idxOf h1⟩
theorem At.inj {ks : List Nat} (hn : ks.Nodup) {i j k : Nat} (h : At ks i k) (h' : At ks j k) : i = j := by
  obtain ⟨h1, e1⟩ := h.get
  obtain ⟨h2, e2⟩ := h'.get
  have hp := List.pairwise_iff_getElem.1 hn
  rcases Nat.lt_trichotomy i j with hlt | heq | hgt
  · exact absurd (e1.trans e2.symm) (hp i j h1 h2 hlt)
  · exact heq
  · exact absurd (e2.trans e1.symm) (hp j i h2 h1 hgt)

section
variable {h o : House} {ks : List Nat}
theorem Kept.len (K : Kept h o ks) : o.bs.length = ks.length := by rw [K.eq, List.length_map]
theorem Kept.bund (K : Kept h o ks) {i k : Nat} (hi : At ks i k) : Go.Proofs.YtngdppajailpcaaGreat.bund o (i : Int) = Go.Proofs.YtngdppajailpcaaGreat.bund h (k : Int) := by
  unfold Go.Proofs.YtngdppajailpcaaGreat.bund
  rw [Int.toNat_natCast, Int.toNat_natCast]
  have : At o.bs i (h.bs.getD k default) := by
    unfold At
    rw [K.eq, List.getElem?_map, show ks[i]? = some k from hi]; rfl
  exact this.getD _
theorem Kept.dn_inj (a b c : Int) (ha : dn ks a = some c) (hb : dn ks b = some c) : a = b := by
  obtain ⟨a0, am, ae⟩ := dn_some ha
  obtain ⟨b0, bm, be⟩ := dn_some hb
  have h1 := idxOf_at am
  have h2 := idxOf_at bm
  rw [show ks.idxOf a.toNat = ks.idxOf b.toNat by omega] at h1
  have := h1.uniq h2
  omega
theorem Kept.dn_into (K : Kept h o ks) (b b' : Int) (e : dn ks b = some b') : 0 ≤ b' ∧ b' ≤ (o.bs.length : Int) - 1 ∧ Go.Proofs.YtngdppajailpcaaGreat.bund o b' = Go.Proofs.YtngdppajailpcaaGreat.bund h b := by
  obtain ⟨a0, am, rfl⟩ := dn_some e
  have h1 := idxOf_at am
  have h2 := h1.lt
  rw [← K.len] at h2
  refine ⟨by omega, by omega, ?_⟩
  rw [K.bund h1, Int.toNat_of_nonneg a0]
theorem Kept.dn_onto (K : Kept h o ks) (b' : Nat) (hb : b' < o.bs.length) : ∃ b : Nat, b < h.bs.length ∧ b ∈ ks ∧ dn ks (b : Int) = some (b' : Int) := by
  obtain ⟨k, hk⟩ := At.mk (xs := ks) (k := b') (by rw [← K.len]; exact hb)
  refine ⟨k, K.lt k hk.mem, hk.mem, ?_⟩
  unfold dn
  rw [Int.toNat_natCast, if_pos ⟨by omega, hk.mem⟩]
  rw [At.inj K.nodup (idxOf_at hk.mem) hk]
theorem Kept.up_inj (K : Kept h o ks) (a b c : Int) (ha : up ks a = some c) (hb : up ks b = some c) : a = b := by
  obtain ⟨a0, am, ae⟩ := up_some ha
  obtain ⟨b0, bm, be⟩ := up_some hb
  obtain ⟨x, hx⟩ := At.mk am
  obtain ⟨y, hy⟩ := At.mk bm
  rw [hx.getD] at ae
  rw [hy.getD] at be
  have e : x = y := by omega
  subst e
  have := At.inj K.nodup hx hy
  omega
theorem Kept.up_into (K : Kept h o ks) (b b' : Int) (e : up ks b = some b') : 0 ≤ b' ∧ b' ≤ (h.bs.length : Int) - 1 ∧ Go.Proofs.YtngdppajailpcaaGreat.bund h b' = Go.Proofs.YtngdppajailpcaaGreat.bund o b := by
  obtain ⟨a0, am, rfl⟩ := up_some e
  obtain ⟨x, hx⟩ := At.mk am
  rw [hx.getD]
  have h2 := K.lt x hx.mem
  refine ⟨by omega, by omega, ?_⟩
  rw [← K.bund hx, Int.toNat_of_nonneg a0]
theorem Kept.up_onto (K : Kept h o ks) (b : Nat) (hb : b ∈ ks) : ∃ j : Nat, j < o.bs.length ∧ up ks (j : Int) = some (b : Int) := by
  have h1 := idxOf_at hb
  have h2 := h1.lt
  refine ⟨ks.idxOf b, by rw [K.len]; exact h2, ?_⟩
  unfold up
  rw [Int.toNat_natCast, if_pos ⟨by omega, h2⟩, h1.getD]
end

theorem map_getD_range {α : Type} (xs : List α) (d : α) : xs = (List.range xs.length).map fun k => xs.getD k d := by
  refine List.ext_getElem (by simp) fun i h1 h2 => ?_
  simp only [List.getElem_map, List.getElem_range]
  have : At xs i xs[i] := List.getElem?_eq_getElem h1
  rw [this.getD]
theorem kept_all (h o : House) (e : o.bs = h.bs) : Kept h o (List.range h.bs.length) :=
  ⟨List.nodup_range, fun k hk => List.mem_range.1 hk, by rw [e]; exact map_getD_range _ _⟩
theorem kept_but (h o : House) (b : Nat) (e : o.bs = h.bs.take b ++ h.bs.drop (b + 1)) : Kept h o ((List.range h.bs.length).eraseIdx b) := by
  refine ⟨List.nodup_range.sublist (List.eraseIdx_sublist _ _), fun k hk => List.mem_range.1 (List.mem_of_mem_eraseIdx hk), ?_⟩
  rw [e, List.eraseIdx_eq_take_drop_succ, List.map_append, List.map_take, List.map_drop, ← map_getD_range]
theorem kept_filter (h o : House) (P : Bund → Bool) (e : o.bs = h.bs.filter P) : Kept h o ((List.range h.bs.length).filter fun k => P (h.bs.getD k default)) := by
  refine ⟨List.nodup_range.sublist List.filter_sublist, fun k hk => List.mem_range.1 (List.mem_filter.1 hk).1, ?_⟩
  rw [e]
  conv => lhs; rw [map_getD_range h.bs default, List.filter_map]
  rfl

/-! ### The better house -/

def betterH (h : House) (m pc rd t lt cg bn : Int) : House where
  ms := if within m 0 ((h.ms.length : Int) - 1) then h.ms.set m.toNat ⟨(mach h m.toNat).r - rd, (mach h m.toNat).p - pc, (mach h m.toNat).s⟩ else h.ms
  bs := if within bn 0 ((h.bs.length : Int) - 1) then h.bs.take bn.toNat ++ h.bs.drop (bn.toNat + 1) else h.bs
  ts := if within t 0 ((h.ts.length : Int) - 1) then h.ts.set t.toNat (h.ts.getD t.toNat 0 + lt) else h.ts
  ch := h.ch - cg

theorem sim_of_kept {h o : House} {ks : List Nat} (K : Kept h o ks) (ht : o.ts.length = h.ts.length) (hl : ∀ t : Nat, h.ts.getD t 0 ≤ o.ts.getD t 0) (hc : o.ch ≤ h.ch)
    (hm : o.ms.length = h.ms.length) (hf : ∀ k, k < h.ms.length → (mach o k).r ≤ (mach h k).r ∧ (mach o k).p ≤ (mach h k).p ∧ (mach o k).s = (mach h k).s) : Sim (fun _ => True) h o (dn ks) id where
  ts := ht
  later := fun t _ => hl t
  ch := hc
  inj := Kept.dn_inj
  into := fun b b' _ _ e => K.dn_into b b' e
  onto := fun b' hb' _ => by obtain ⟨b, h1, _, h2⟩ := K.dn_onto b' hb'; exact ⟨b, h1, h2⟩
  mto := fun k hk => ⟨k, by rw [hm]; exact hk, rfl⟩
  minj := fun _ _ _ _ e _ => e
  fast := fun k _ hk => ⟨(hf k hk).1, (hf k hk).2.1⟩
  stop := fun k hk e => ⟨by rw [← hm]; exact hk, (hf k (by rw [← hm]; exact hk)).2.2.symm.trans e⟩

theorem getD_set {α : Type} (xs : List α) (i k : Nat) (x d : α) : (xs.set i x).getD k d = if i = k ∧ k < xs.length then x else xs.getD k d := by
  simp only [List.getD_eq_getElem?_getD]
  by_cases e : i = k
  · subst e
    by_cases hk : i < xs.length
    · rw [List.getElem?_set_self hk, if_pos ⟨rfl, hk⟩]; rfl
    · rw [if_neg (fun c => hk c.2), List.getElem?_eq_none (by rw [List.length_set]; omega), List.getElem?_eq_none (by omega)]
  · rw [List.getElem?_set_ne e, if_neg (fun c => e c.1)]

theorem better_sim (h : House) {m pc rd t lt cg bn : Int} (h1 : 0 ≤ pc) (h2 : 0 ≤ rd) (h3 : 0 ≤ lt) (h4 : 0 ≤ cg) : ∃ ks, Sim (fun _ => True) h (betterH h m pc rd t lt cg bn) (dn ks) id := by
  have hK : ∃ ks, Kept h (betterH h m pc rd t lt cg bn) ks := by
    by_cases hb : within bn 0 ((h.bs.length : Int) - 1) = true
    · exact ⟨_, kept_but h _ bn.toNat (by unfold betterH; simp only [if_pos hb])⟩
    · exact ⟨_, kept_all h _ (by unfold betterH; simp only [if_neg hb])⟩
  obtain ⟨ks, K⟩ := hK
  refine ⟨ks, sim_of_kept K ?_ ?_ ?_ ?_ ?_⟩
  · unfold betterH; simp only; split
    · exact List.length_set
    · rfl
  · intro t'
    unfold betterH; simp only; split
    · rw [getD_set]; split
      · rename_i e; rw [e.1]; omega
      · exact Int.le_refl _
    · exact Int.le_refl _
  · show h.ch - cg ≤ h.ch; omega
  · unfold betterH; simp only; split
    · exact List.length_set
    · rfl
  · intro k hk
    unfold Go.Proofs.YtngdppajailpcaaGreat.mach betterH; simp only; split
    · rw [getD_set]; split
      · rename_i e
        obtain ⟨rfl, _⟩ := e
        have a1 : (h.ms.getD m.toNat default).r - rd ≤ (h.ms.getD m.toNat default).r := by omega
        have a2 : (h.ms.getD m.toNat default).p - pc ≤ (h.ms.getD m.toNat default).p := by omega
        exact ⟨a1, a2, rfl⟩
      · omega
    · omega

/-! ### One machine more -/

def moreH (h : House) (r p : Int) : House := { h with ms := h.ms ++ [⟨r, p, 0⟩] }
theorem more_mach {h : House} {r p : Int} {k : Nat} (hk : k < h.ms.length) : mach (moreH h r p) k = mach h k := by
  unfold mach moreH
  simp only [List.getD_eq_getElem?_getD]
  rw [List.getElem?_append_left hk]
theorem more_last {h : House} {r p : Int} : mach (moreH h r p) h.ms.length = ⟨r, p, 0⟩ := by
  unfold mach moreH
  simp only [List.getD_eq_getElem?_getD]
  rw [List.getElem?_append_right (Nat.le_refl _)]; simp
theorem more_sim (h : House) (r p : Int) : ∃ ks, Sim (fun _ => True) h (moreH h r p) (dn ks) id := by
  have K := kept_all h (moreH h r p) rfl
  refine ⟨_, rfl, fun _ _ => Int.le_refl _, Int.le_refl _, Kept.dn_inj, fun b b' _ _ e => K.dn_into b b' e, fun b' hb' _ => ?_, fun k hk => ⟨k, ?_, rfl⟩, fun _ _ _ _ e _ => e, fun k _ hk => ?_, fun k hk e => ?_⟩
  · obtain ⟨b, h1, _, h2⟩ := K.dn_onto b' hb'; exact ⟨b, h1, h2⟩
  · show k < (h.ms ++ [_]).length; rw [List.length_append]; omega
  · rw [more_mach (show k < h.ms.length from hk)]; exact ⟨Int.le_refl _, Int.le_refl _⟩
  · have hk' : k < h.ms.length + 1 := by have : (moreH h r p).ms.length = h.ms.length + 1 := by simp [moreH]
                                         omega
    by_cases hkk : k < h.ms.length
    · rw [more_mach hkk] at e; exact ⟨hkk, e⟩
    · obtain rfl : k = h.ms.length := by omega
      rw [more_last] at e; cases e

/-! ### Without the bundles of some trains -/

def lessH (h : House) (l : List Int) : House := { h with bs := h.bs.filter fun b => !decide (b.t ∈ l) }
theorem less_valid {h : House} (hv : Valid h) (l : List Int) : Valid (lessH h l) := by
  refine ⟨hv.m1, hv.m3, hv.t4, Nat.le_trans (List.length_filter_le _ _) hv.b5, hv.ch, hv.ms, hv.ts, ?_⟩
  rw [List.all_eq_true]
  intro x hx
  exact List.all_eq_true.1 hv.bs x (List.mem_filter.1 hx).1
/-- Without the bundles of some trains a house is sure just if it is sure but for these. -/
theorem less_sure {h : House} (hv : Valid h) (l : List Int) : sureB (lessH h l) [] = sureB h l := by
  have K := kept_filter h (lessH h l) _ rfl
  have hv' := less_valid hv l
  have hmem : ∀ b : Nat, b ∈ ((List.range h.bs.length).filter fun k => !decide ((h.bs.getD k default).t ∈ l)) ↔ b < h.bs.length ∧ (bund h b).t ∉ l := by
    intro b
    rw [List.mem_filter, List.mem_range]
    unfold bund
    simp <;> exact fun _ => Iff.rfl
  rw [Bool.eq_iff_iff]
  constructor
  · refine Sim.sure (T := fun t => t ∉ l) (ren := up _) (σ := id) hv' hv ⟨rfl, fun _ _ => Int.le_refl _, Int.le_refl _, K.up_inj, fun b b' _ _ e => K.up_into b b' e, fun b' hb' ht => K.up_onto b' ((hmem b').2 ⟨hb', ht⟩), fun k hk => ⟨k, hk, rfl⟩, fun _ _ _ _ e _ => e, fun k _ _ => ⟨Int.le_refl _, Int.le_refl _⟩, fun k hk e => ⟨hk, e⟩⟩ ?_
    intro t b hb hbt hT
    refine Classical.byContradiction fun hn => ?_
    have := hT hn
    simp at this
  · refine Sim.sure (T := fun _ => True) (ren := dn _) (σ := id) hv hv' ⟨rfl, fun _ _ => Int.le_refl _, Int.le_refl _, Kept.dn_inj, fun b b' _ _ e => K.dn_into b b' e, fun b' hb' _ => ?_, fun k hk => ⟨k, hk, rfl⟩, fun _ _ _ _ e _ => e, fun k _ _ => ⟨Int.le_refl _, Int.le_refl _⟩, fun k hk e => ⟨hk, e⟩⟩ ?_
    · obtain ⟨b, h1, _, h2⟩ := K.dn_onto b' hb'; exact ⟨b, h1, h2⟩
    · intro t b hb hbt hT
      obtain ⟨b0, h1, h2, h3⟩ := K.dn_onto b hb
      have h4 := (K.dn_into _ _ h3).2.2
      have h5 := ((hmem b0).1 h2).2
      rw [← h4, hbt] at h5
      exact absurd (hT trivial) h5

/-! ### Any order -/

/-- Numbers that are all those below n, each once. -/
structure Perm0 (n : Nat) (ks : List Nat) : Prop where
  len : ks.length = n
  nodup : ks.Nodup
  lt : ∀ k ∈ ks, k < n

theorem nodup_nat_len (n : Nat) (l : List Nat) (h : ∀ x ∈ l, x < n) (hn : l.Nodup) : l.length ≤ n := by
  have := nodup_len n (l.map Int.ofNat) (fun x hx => by
    obtain ⟨y, hy, rfl⟩ := List.mem_map.1 hx
    have := h y hy
    simp only [Int.ofNat_eq_natCast]; omega) (List.pairwise_map.2 (hn.imp fun {a b} hab e => hab (Int.ofNat.inj e)))
  rwa [List.length_map] at this
theorem Perm0.all {n : Nat} {ks : List Nat} (K : Perm0 n ks) {k : Nat} (hk : k < n) : k ∈ ks := by
  refine Classical.byContradiction fun hn => ?_
  have := nodup_nat_len n (k :: ks) (fun x hx => by rcases List.mem_cons.1 hx with rfl | hx; exact hk; exact K.lt x hx) (List.nodup_cons.2 ⟨hn, K.nodup⟩)
  rw [List.length_cons, K.len] at this; omega
theorem turned (n s : Nat) : Perm0 n ((List.range n).map fun i => (i + s) % n) := by
  refine ⟨by simp, ?_, ?_⟩
  · refine List.pairwise_map.2 ((List.pairwise_lt_range (n := n)).imp_of_mem fun {a b} ha hb hab e => ?_)
    have h1 := Nat.sub_mod_eq_zero_of_mod_eq e.symm
    rw [show b + s - (a + s) = b - a by omega, Nat.mod_eq_of_lt (by have := List.mem_range.1 hb; omega)] at h1
    omega
  · intro k hk
    obtain ⟨i, hi, rfl⟩ := List.mem_map.1 hk
    exact Nat.mod_lt _ (by have := List.mem_range.1 hi; omega)

/-- A house in another order. -/
def turnH (h : House) (ms bs : List Nat) : House := { h with ms := ms.map fun k => h.ms.getD k default, bs := bs.map fun k => h.bs.getD k default }
theorem getD_mem {α : Type} {xs : List α} {k : Nat} (hk : k < xs.length) (d : α) : xs.getD k d ∈ xs := by
  obtain ⟨x, hx⟩ := At.mk hk
  rw [hx.getD]; exact hx.mem
theorem turn_valid {h : House} (hv : Valid h) {ms bs : List Nat} (M : Perm0 h.ms.length ms) (B : Perm0 h.bs.length bs) : Valid (turnH h ms bs) := by
  have h1 : (turnH h ms bs).ms.length = h.ms.length := by simp [turnH, M.len]
  have h2 : (turnH h ms bs).bs.length = h.bs.length := by simp [turnH, B.len]
  refine ⟨by rw [h1]; exact hv.m1, by rw [h1]; exact hv.m3, hv.t4, by rw [h2]; exact hv.b5, hv.ch, ?_, hv.ts, ?_⟩
  · rw [List.all_eq_true]
    intro x hx
    obtain ⟨k, hk, rfl⟩ := List.mem_map.1 hx
    exact List.all_eq_true.1 hv.ms _ (getD_mem (M.lt k hk) _)
  · rw [List.all_eq_true]
    intro x hx
    obtain ⟨k, hk, rfl⟩ := List.mem_map.1 hx
    exact List.all_eq_true.1 hv.bs _ (getD_mem (B.lt k hk) _)
theorem turn_mach {h : House} {ms bs : List Nat} {i k : Nat} (hi : At ms i k) : mach (turnH h ms bs) i = mach h k := by
  unfold mach turnH
  have : At (ms.map fun k => h.ms.getD k default) i (h.ms.getD k default) := by
    unfold At
    rw [List.getElem?_map, show ms[i]? = some k from hi]; rfl
  exact this.getD _
theorem turn_sim {h : House} {ms bs : List Nat} (M : Perm0 h.ms.length ms) (B : Perm0 h.bs.length bs) : Sim (fun _ => True) h (turnH h ms bs) (dn bs) (fun k => ms.getD k 0) := by
  have K : Kept h (turnH h ms bs) bs := ⟨B.nodup, B.lt, rfl⟩
  have hl : (turnH h ms bs).ms.length = ms.length := by simp [turnH]
  refine ⟨rfl, fun _ _ => Int.le_refl _, Int.le_refl _, Kept.dn_inj, fun b b' _ _ e => K.dn_into b b' e, fun b' hb' _ => ?_, fun k hk => ?_, fun k k' hk hk' e _ => ?_, fun k hk _ => ?_, fun k hk e => ?_⟩
  · obtain ⟨b, h1, _, h2⟩ := K.dn_onto b' hb'; exact ⟨b, h1, h2⟩
  · have h1 := idxOf_at (M.all hk)
    exact ⟨_, by rw [hl]; exact h1.lt, h1.getD _⟩
  · rw [hl] at hk hk'
    obtain ⟨x, hx⟩ := At.mk hk
    obtain ⟨y, hy⟩ := At.mk hk'
    rw [hx.getD, hy.getD] at e
    subst e
    exact At.inj M.nodup hx hy
  · rw [hl] at hk
    obtain ⟨x, hx⟩ := At.mk hk
    rw [hx.getD, turn_mach hx]
    exact ⟨Int.le_refl _, Int.le_refl _⟩
  · rw [hl] at hk
    obtain ⟨x, hx⟩ := At.mk hk
    rw [turn_mach hx] at e
    rw [hx.getD]
    exact ⟨M.lt x hx.mem, e⟩
theorem turn_back {h : House} {ms bs : List Nat} (M : Perm0 h.ms.length ms) (B : Perm0 h.bs.length bs) : Sim (fun _ => True) (turnH h ms bs) h (up bs) (fun k => ms.idxOf k) := by
  have K : Kept h (turnH h ms bs) bs := ⟨B.nodup, B.lt, rfl⟩
  have hl : (turnH h ms bs).ms.length = ms.length := by simp [turnH]
  refine ⟨rfl, fun _ _ => Int.le_refl _, Int.le_refl _, K.up_inj, fun b b' _ _ e => K.up_into b b' e, fun b' hb' _ => K.up_onto b' (B.all hb'), fun k hk => ?_, fun k k' hk hk' e _ => ?_, fun k hk _ => ?_, fun k hk e => ?_⟩
  · rw [hl] at hk
    obtain ⟨x, hx⟩ := At.mk hk
    exact ⟨x, M.lt x hx.mem, At.inj M.nodup (idxOf_at hx.mem) hx⟩
  · have h1 := idxOf_at (M.all hk)
    have h2 := idxOf_at (M.all hk')
    rw [e] at h1
    exact h1.uniq h2
  · rw [turn_mach (idxOf_at (M.all hk))]
    exact ⟨Int.le_refl _, Int.le_refl _⟩
  · have h1 := idxOf_at (M.all hk)
    exact ⟨by rw [hl]; exact h1.lt, by rw [turn_mach h1]; exact e⟩

end Go.Proofs.YtngdppajailpcaaGreat

namespace Go.Proofs.YtngdppajailpcaaGreat

theorem foldl_max_le {α : Type} (f : α → Int) (n : Int) : ∀ (l : List α) (a : Int), l.foldl (fun o c => max o (f c)) a ≤ n ↔ a ≤ n ∧ ∀ c ∈ l, f c ≤ n
  | [], a => by simp
  | x :: l, a => by
    rw [List.foldl_cons, foldl_max_le f n l]
    simp only [List.mem_cons, forall_eq_or_imp]
    have : max a (f x) ≤ n ↔ a ≤ n ∧ f x ≤ n := by omega
    rw [this, and_assoc]
theorem le_foldl_max {α : Type} (f : α → Int) (n : Int) : ∀ (l : List α) (a : Int), n ≤ l.foldl (fun o c => max o (f c)) a ↔ n ≤ a ∨ ∃ c ∈ l, n ≤ f c
  | [], a => by simp
  | x :: l, a => by
    rw [List.foldl_cons, le_foldl_max f n l]
    simp only [List.mem_cons, exists_eq_or_imp]
    rw [← or_assoc]
    have : n ≤ max a (f x) ↔ n ≤ a ∨ n ≤ f x := by omega
    rw [this]
theorem le_foldl_min {α : Type} (f : α → Int) (n : Int) : ∀ (l : List α) (a : Int), n ≤ l.foldl (fun o c => min o (f c)) a ↔ n ≤ a ∧ ∀ c ∈ l, n ≤ f c
  | [], a => by simp
  | x :: l, a => by
    rw [List.foldl_cons, le_foldl_min f n l]
    simp only [List.mem_cons, forall_eq_or_imp]
    have : n ≤ min a (f x) ↔ n ≤ a ∧ n ≤ f x := by omega
    rw [this, and_assoc]
theorem foldl_wait_le (h : House) (t n : Int) (h0 : 0 ≤ n) : ∀ (l : List (List (List Int))) (a : Int), l.foldl (waitPlan h t) a ≤ n ↔ a ≤ n ∨ ∃ p ∈ l, (lateOf h p = [] ∨ lateOf h p = [t]) ∧ overOf h p t ≤ n
  | [], a => by simp
  | x :: l, a => by
    rw [List.foldl_cons, foldl_wait_le h t n h0 l]
    simp only [List.mem_cons, exists_eq_or_imp]
    rw [← or_assoc]
    have : waitPlan h t a x ≤ n ↔ a ≤ n ∨ ((lateOf h x = [] ∨ lateOf h x = [t]) ∧ overOf h x t ≤ n) := by
      unfold waitPlan
      split
      · rename_i hc
        simp only [hc, true_and]
        omega
      · rename_i hc
        simp only [hc, false_and, or_false]
    rw [this]

theorem overTo_le (h : House) (p : List (List Int)) (t n : Int) (hn : -100000 ≤ n) : ∀ k, (∃ o, overTo h (timesOf h p) t k = some o ∧ o ≤ n) ↔ ∀ b : Nat, b < k → (bund h b).t = t → 0 ≤ tm h p b ∧ tm h p b - h.ts.getD t.toNat 0 ≤ n
  | 0 => by
    constructor
    · intro _ b hb; omega
    · intro _; exact ⟨-100000, rfl, hn⟩
  | k + 1 => by
    have ih := overTo_le h p t n hn k
    constructor
    · rintro ⟨o, ho, hle⟩ b hb hbt
      simp only [overTo] at ho
      split at ho
      · cases ho
      · rename_i o' e
        split at ho
        · rename_i hk
          split at ho
          · cases ho
          · rename_i hpos
            simp only [Option.some.injEq] at ho
            by_cases hbk : b = k
            · subst hbk
              unfold tm; omega
            · exact ih.1 ⟨o', e, by omega⟩ b (by omega) hbt
        · rename_i hk
          simp only [Option.some.injEq] at ho
          subst ho
          refine ih.1 ⟨o', e, hle⟩ b ?_ hbt
          have : b ≠ k := fun c => by subst c; exact hk hbt
          omega
    · intro hall
      obtain ⟨o, ho, hle⟩ := ih.2 (fun b hb => hall b (by omega))
      simp only [overTo, ho]
      split
      · rename_i hk
        have := hall k (by omega) hk
        unfold tm at this
        rw [if_neg (by omega)]
        exact ⟨_, rfl, by omega⟩
      · exact ⟨o, rfl, hle⟩
theorem overOf_le (h : House) (p : List (List Int)) (t n : Int) (hn : -100000 ≤ n) (hn' : n < 100000) : overOf h p t ≤ n ↔ ∀ b : Nat, b < h.bs.length → (bund h b).t = t → 0 ≤ tm h p b ∧ tm h p b - h.ts.getD t.toNat 0 ≤ n := by
  rw [← overTo_le h p t n hn]
  unfold overOf
  cases e : overTo h (timesOf h p) t h.bs.length with
  | none =>
    simp only [Option.getD_none]
    constructor
    · intro hc; omega
    · rintro ⟨_, hc, _⟩; cases hc
  | some o =>
    simp only [Option.getD_some]
    constructor
    · intro hc; exact ⟨o, rfl, hc⟩
    · rintro ⟨_, hc, hle⟩; cases hc; exact hle

/-- Which trains are late, bundle by bundle. -/
theorem late_sub {h : House} (hv : Valid h) {p : List (List Int)} {l : List Int} : (∀ t ∈ lateOf h p, t ∈ l) ↔ ∀ b : Nat, b < h.bs.length → (bund h b).t ∉ l → inT h p b (h.ts.getD (bund h b).t.toNat 0) := by
  constructor
  · intro hl b hb hn
    have hbo := bund_ok hv hb
    refine Classical.byContradiction fun hc => hn ?_
    have : (((bund h b).t.toNat : Nat) : Int) ∈ lateOf h p := lateOf_iff.2 ⟨by omega, b, hb, by omega, hc⟩
    rw [Int.toNat_of_nonneg hbo.2.1] at this
    exact hl _ this
  · intro hall x hx
    obtain ⟨t, rfl, ht⟩ := lateOf_is hx
    obtain ⟨_, b, hb, hbt, hn⟩ := lateOf_iff.1 hx
    refine Classical.byContradiction fun hc => hn ?_
    have := hall b hb (by rw [hbt]; exact hc)
    rwa [hbt, Int.toNat_natCast] at this
theorem lateOf_nodup (h : House) (p : List (List Int)) : (lateOf h p).Nodup := by
  unfold lateOf lateList
  exact List.pairwise_map.2 ((List.nodup_range.sublist List.filter_sublist).imp fun {a b} hab e => hab (Int.ofNat.inj e))
theorem late_one {h : House} {p : List (List Int)} {t : Int} : (lateOf h p = [] ∨ lateOf h p = [t]) ↔ ∀ x ∈ lateOf h p, x ∈ [t] := by
  constructor
  · rintro (e | e) <;> rw [e] <;> simp
  · intro hall
    have hn := lateOf_nodup h p
    cases e : lateOf h p with
    | nil => exact .inl rfl
    | cons a l =>
      rw [e] at hall hn
      have ha := List.mem_singleton.1 (hall a (by simp))
      subst ha
      cases l with
      | nil => exact .inr rfl
      | cons b l =>
        have hb := List.mem_singleton.1 (hall b (by simp))
        subst hb
        simp at hn
theorem sub_nil {l : List Int} : (∀ t ∈ l, t ∈ ([] : List Int)) ↔ l = [] := by
  constructor
  · intro h; exact List.eq_nil_iff_forall_not_mem.2 fun t ht => by cases h t ht
  · rintro rfl; simp

theorem runTo_congr {h o : House} (hb : o.bs = h.bs) (hc : o.ch = h.ch) (mc : Mach) : ∀ (l : List Int) (s : List Int × Int × Option Int), runTo o mc l s = runTo h mc l s
  | [], _ => rfl
  | b :: l, (ts, now, prev) => by
    have e : bund o b = bund h b := by unfold bund; rw [hb]
    have e2 : stepT o mc now prev b = stepT h mc now prev b := by unfold stepT; rw [e, hc]
    simp only [runTo, e, e2]
    exact runTo_congr hb hc mc l _
theorem timesTo_congr {h o : House} (hb : o.bs = h.bs) (hc : o.ch = h.ch) (hm : o.ms = h.ms) : ∀ (p : List (List Int)) (m : Nat) (ts : List Int), timesTo o m p ts = timesTo h m p ts
  | [], _, _ => rfl
  | l :: p, m, ts => by
    have e : mach o m = mach h m := by unfold mach; rw [hm]
    simp only [timesTo, runList, e, runTo_congr hb hc]
    exact timesTo_congr hb hc hm p _ _
theorem tm_congr {h o : House} (hb : o.bs = h.bs) (hc : o.ch = h.ch) (hm : o.ms = h.ms) (p : List (List Int)) (b : Nat) : tm o p b = tm h p b := by
  unfold tm timesOf
  rw [timesTo_congr hb hc hm, hb]

/-! ### Waits -/

def laterH (h : House) (t : Nat) (n : Int) : House := { h with ts := h.ts.set t (h.ts.getD t 0 + n) }
theorem later_valid {h : House} (hv : Valid h) {t : Nat} {n : Int} (h0 : 0 ≤ n) (hn : n ≤ 99 - h.ts.getD t 0) (ht : t < h.ts.length) : Valid (laterH h t n) := by
  have hl : (laterH h t n).ts.length = h.ts.length := List.length_set
  refine ⟨hv.m1, hv.m3, by rw [hl]; exact hv.t4, hv.b5, hv.ch, hv.ms, ?_, by rw [hl]; exact hv.bs⟩
  rw [List.all_eq_true]
  intro x hx
  obtain ⟨y, hy⟩ := At.mk ht
  rcases List.mem_or_eq_of_mem_set hx with hx | rfl
  · exact List.all_eq_true.1 hv.ts x hx
  · have := within_iff.1 (List.all_eq_true.1 hv.ts y hy.mem)
    rw [hy.getD] at hn ⊢
    exact within_iff.2 (by omega)

/-- A house is sure if the train leaves later by so much, just if it waits no longer. -/
theorem wait_sure {h : House} (hv : Valid h) {t : Nat} (ht : t < h.ts.length) {n : Int} (h0 : 0 ≤ n) (hn : n ≤ 99 - h.ts.getD t 0) : sureB (laterH h t n) [] = true ↔ waitRaw h t ≤ n := by
  have hv' := later_valid hv h0 hn ht
  have h99 : 0 ≤ h.ts.getD t 0 := by
    obtain ⟨y, hy⟩ := At.mk ht
    rw [hy.getD]; exact (ts_bd hv hy).1
  rw [sureB_iff hv']
  unfold waitRaw
  rw [foldl_max_le]
  show (∀ c ∈ casesOf h, _) ↔ _
  have key : ∀ p, (∀ x ∈ lateOf (laterH h t n) p, x ∈ ([] : List Int)) ↔ (lateOf h p = [] ∨ lateOf h p = [(t : Int)]) ∧ overOf h p t ≤ n := by
    intro p
    rw [late_one, late_sub hv', late_sub hv, overOf_le h p t n (by omega) (by omega)]
    have hts : ∀ k : Nat, (laterH h t n).ts.getD k 0 = if t = k ∧ k < h.ts.length then h.ts.getD t 0 + n else h.ts.getD k 0 := fun k => getD_set _ _ _ _ _
    have htm : ∀ b, tm (laterH h t n) p b = tm h p b := fun b => tm_congr (h := h) (o := laterH h t n) rfl rfl rfl p b
    have hbu : ∀ b : Nat, bund (laterH h t n) b = bund h b := fun _ => rfl
    constructor
    · intro hall
      constructor
      · intro b hb hbt
        have := hall b hb (by simp)
        unfold inT at this ⊢
        rw [htm, hbu, hts] at this
        have hne : ¬ (t = (bund h b).t.toNat ∧ (bund h b).t.toNat < h.ts.length) := fun c => hbt (by
          have := bund_ok hv hb
          rw [List.mem_singleton]; omega)
        rw [if_neg hne] at this
        exact this
      · intro b hb hbt
        have := hall b hb (by simp)
        unfold inT at this
        rw [htm, hbu, hts, hbt, Int.toNat_natCast, if_pos ⟨rfl, ht⟩] at this
        rw [Int.toNat_natCast]
        omega
    · rintro ⟨h1, h2⟩ b hb _
      unfold inT
      rw [htm, hbu, hts]
      by_cases hbt : (bund h b).t = (t : Int)
      · have := h2 b hb hbt
        rw [hbt, Int.toNat_natCast, if_pos ⟨rfl, ht⟩]
        rw [Int.toNat_natCast] at this
        omega
      · have := h1 b hb (by simpa using hbt)
        rw [if_neg]
        · exact this
        · intro c
          have := bund_ok hv hb
          exact hbt (by omega)
  constructor
  · intro hall
    refine ⟨h0, fun c hc => ?_⟩
    obtain ⟨p, h1, h2, h3⟩ := hall c hc
    unfold waitCase
    rw [foldl_wait_le _ _ _ h0]
    exact .inr ⟨p, (plansOf_iff hv c p).2 ⟨h1, h2⟩, (key p).1 h3⟩
  · rintro ⟨_, hall⟩ c hc
    have := hall c hc
    unfold waitCase at this
    rw [foldl_wait_le _ _ _ h0] at this
    rcases this with hbad | ⟨p, hp, hk⟩
    · omega
    · obtain ⟨h1, h2⟩ := (plansOf_iff hv c p).1 hp
      exact ⟨p, h1, h2, (key p).2 hk⟩
theorem later_zero {h : House} (hv : Valid h) {t : Nat} (ht : t < h.ts.length) : sureB h [] = true ↔ waitRaw h t ≤ 0 := by
  have h1 : 0 ≤ 99 - h.ts.getD t 0 := by
    obtain ⟨y, hy⟩ := At.mk ht
    rw [hy.getD]; have := ts_bd hv hy; omega
  rw [← wait_sure hv ht (Int.le_refl 0) h1]
  have : laterH h t 0 = h := by
    unfold laterH
    have hx : h.ts.set t (h.ts.getD t 0 + 0) = h.ts := by
      obtain ⟨y, hy⟩ := At.mk ht
      obtain ⟨hk, e⟩ := hy.get
      rw [hy.getD, Int.add_zero, ← e, List.set_getElem_self]
    rw [hx]
  rw [this]
theorem waitRaw_nonneg (h : House) (t : Int) : 0 ≤ waitRaw h t := by
  unfold waitRaw
  rw [le_foldl_max]; exact .inl (Int.le_refl _)

/-! ### What is spare -/

/-- All trains could leave earlier by so much. -/
def SpareOk (h : House) (n : Int) : Prop := ∀ c ∈ casesOf h, ∃ p, isPlan h p = true ∧ Idle p c ∧ ∀ b : Nat, b < h.bs.length → 0 ≤ tm h p b ∧ tm h p b + n ≤ h.ts.getD (bund h b).t.toNat 0

theorem spareRaw_iff {h : House} (hv : Valid h) {n : Int} (h0 : 0 ≤ n) (hn : n ≤ 99) : n ≤ spareRaw h ↔ SpareOk h n := by
  unfold spareRaw
  rw [le_foldl_min]
  have key : ∀ p, n ≤ sparePlan h p ↔ ∀ b : Nat, b < h.bs.length → 0 ≤ tm h p b ∧ tm h p b + n ≤ h.ts.getD (bund h b).t.toNat 0 := by
    intro p
    unfold sparePlan sparePlanTo
    rw [le_foldl_min]
    constructor
    · rintro ⟨_, hall⟩ b hb
      have hbo := bund_ok hv hb
      have h1 := hall (bund h b).t.toNat (List.mem_range.2 (by omega))
      have h2 := (overOf_le h p ((bund h b).t.toNat : Nat) (-n) (by omega) (by omega)).1 (by omega) b hb (by omega)
      rw [Int.toNat_natCast] at h2
      omega
    · intro hall
      refine ⟨by omega, fun t _ => ?_⟩
      have := (overOf_le h p (t : Nat) (-n) (by omega) (by omega)).2 (fun b hb hbt => by
        have := hall b hb
        rw [hbt] at this
        omega)
      omega
  constructor
  · rintro ⟨_, hall⟩ c hc
    have := hall c hc
    unfold spareCase at this
    rw [le_foldl_max] at this
    rcases this with hbad | ⟨p, hp, hk⟩
    · omega
    · obtain ⟨h1, h2⟩ := (plansOf_iff hv c p).1 hp
      exact ⟨p, h1, h2, (key p).1 hk⟩
  · intro hall
    refine ⟨hn, fun c hc => ?_⟩
    obtain ⟨p, h1, h2, h3⟩ := hall c hc
    unfold spareCase
    rw [le_foldl_max]
    exact .inr ⟨p, (plansOf_iff hv c p).2 ⟨h1, h2⟩, (key p).2 h3⟩
theorem spareRaw_le99 (h : House) : spareRaw h ≤ 99 := by
  have := (le_foldl_min (spareCase h) (spareRaw h) (casesOf h) 99).1 (Int.le_refl _)
  exact this.1
theorem sure_spare {h : House} (hv : Valid h) : sureB h [] = true ↔ 0 ≤ spareRaw h := by
  rw [spareRaw_iff hv (Int.le_refl 0) (by omega), sureB_iff hv]
  refine forall_congr' fun c => forall_congr' fun _ => exists_congr fun p => and_congr_right fun _ => and_congr_right fun _ => ?_
  rw [late_sub hv]
  constructor
  · intro hall b hb; have := hall b hb (by simp); unfold inT at this; omega
  · intro hall b hb _; have := hall b hb; unfold inT; omega

theorem Sim.spareOk {h o : House} {ren : Int → Option Int} {σ : Nat → Nat} (hv : Valid h) (ho : Valid o) (S : Sim (fun _ => True) h o ren σ) {n : Int} (hs : SpareOk h n) : SpareOk o n := by
  intro c hc
  obtain ⟨c', hc', hi⟩ := S.case hc
  obtain ⟨p, hp, hpi, hall⟩ := hs c' hc'
  refine ⟨mv o ren σ p, S.plan hp, hi p hpi, fun b' hb' => ?_⟩
  obtain ⟨b, hb, e⟩ := S.onto b' hb' trivial
  have h1 := hall b hb
  have hin := S.into b b' (by omega) (by omega) e
  have hm : (b : Int) ∈ p.flatten := Classical.byContradiction fun hc => by
    have := tm_none hp hb hc; omega
  obtain ⟨hle, hm'⟩ := S.time hv ho hp e hm
  have h2 := tm_printed ho (S.plan hp) hm'
  have h3 := S.later (bund h b).t.toNat trivial
  rw [hin.2.2]
  omega

theorem fin_shift {h o : House} (hb : o.bs = h.bs) (hc : o.ch = h.ch) {mc mc' : Mach} (hp : mc'.p = mc.p) (n : Int) : ∀ (l : List Int) (s : Int × Option Int), (fin o mc' l (s.1 + n, s.2)).1 = (fin h mc l s).1 + n
  | [], _ => rfl
  | b :: l, s => by
    have e : bund o b = bund h b := by unfold bund; rw [hb]
    have e2 : stepT o mc' (s.1 + n) s.2 b = stepT h mc s.1 s.2 b + n := by unfold stepT; rw [e, hc, hp]; omega
    simp only [fin, e, e2]
    exact fin_shift hb hc hp n l (stepT h mc s.1 s.2 b, some (bund h b).e)
def behindH (h : House) (n : Int) : House := { h with ms := h.ms.map fun m => ⟨m.r + n, m.p, m.s⟩ }
theorem behind_mach (h : House) (n : Int) {k : Nat} (hk : k < h.ms.length) : mach (behindH h n) k = ⟨(mach h k).r + n, (mach h k).p, (mach h k).s⟩ := by
  obtain ⟨x, hx⟩ := At.mk hk
  have : At (behindH h n).ms k ⟨x.r + n, x.p, x.s⟩ := by
    unfold At behindH
    rw [List.getElem?_map, show h.ms[k]? = some x from hx]; rfl
  rw [hx.mach, this.mach]
theorem behind_tm {h : House} {p : List (List Int)} (hp : isPlan h p = true) (n : Int) {b : Nat} (hb : (b : Int) ∈ p.flatten) : tm (behindH h n) p b = tm h p b + n := by
  have hp' : isPlan (behindH h n) p = true := by
    obtain ⟨h1, h2, h3⟩ := isPlan_iff.1 hp
    exact isPlan_iff.2 ⟨by rw [h1]; simp [behindH], h2, h3⟩
  obtain ⟨l, hl, hbl⟩ := List.mem_flatten.1 hb
  obtain ⟨k, hk⟩ := mem_At hl
  obtain ⟨i, hi⟩ := mem_At hbl
  have hkl : k < h.ms.length := by rw [← (isPlan_iff.1 hp).1]; exact hk.lt
  unfold tm
  rw [times_at hp hk hi, times_at hp' hk hi, behind_mach h n hkl]
  unfold done
  exact fin_shift (h := h) (o := behindH h n) (mc := mach h k) (mc' := ⟨(mach h k).r + n, (mach h k).p, (mach h k).s⟩) rfl rfl rfl n (l.take (i + 1)) ((mach h k).r, none)
/-- A house is sure if all machines are ready later by so much, just if so much is spare. -/
theorem spare_sure {h : House} (hv : Valid h) {n : Int} (h0 : 0 ≤ n) (hn : n ≤ 99) (hv' : Valid (behindH h n)) : sureB (behindH h n) [] = true ↔ n ≤ spareRaw h := by
  rw [spareRaw_iff hv h0 hn, sureB_iff hv']
  have hlen : (behindH h n).ms.length = h.ms.length := by simp [behindH]
  have hcs : ∀ c, c ∈ casesOf (behindH h n) ↔ c ∈ casesOf h := by
    intro c
    rw [casesOf_iff, casesOf_iff, hlen]
    refine or_congr Iff.rfl (exists_congr fun k => and_congr_right fun hk => and_congr_right fun _ => ?_)
    rw [behind_mach h n hk]
  have hpl : ∀ p, isPlan (behindH h n) p = true ↔ isPlan h p = true := by
    intro p
    rw [isPlan_iff, isPlan_iff, hlen]; exact Iff.rfl
  have key : ∀ p, isPlan h p = true → ((∀ t ∈ lateOf (behindH h n) p, t ∈ ([] : List Int)) ↔ ∀ b : Nat, b < h.bs.length → 0 ≤ tm h p b ∧ tm h p b + n ≤ h.ts.getD (bund h b).t.toNat 0) := by
    intro p hp
    rw [late_sub hv']
    constructor
    · intro hall b hb
      have h1 := hall b hb (by simp)
      by_cases hm : (b : Int) ∈ p.flatten
      · have h2 := behind_tm hp n hm
        have h3 := tm_printed hv hp hm
        unfold inT at h1
        rw [h2] at h1
        exact ⟨h3, h1.2⟩
      · have := tm_none ((hpl p).2 hp) hb hm
        unfold inT at h1
        omega
    · intro hall b hb _
      have h1 := hall b hb
      have hm : (b : Int) ∈ p.flatten := Classical.byContradiction fun hc => by
        have := tm_none hp hb hc; omega
      have h2 := behind_tm hp n hm
      unfold inT
      rw [h2]
      exact ⟨by omega, h1.2⟩
  constructor
  · intro hall c hc
    obtain ⟨p, h1, h2, h3⟩ := hall c ((hcs c).2 hc)
    exact ⟨p, (hpl p).1 h1, h2, (key p ((hpl p).1 h1)).1 h3⟩
  · intro hall c hc
    obtain ⟨p, h1, h2, h3⟩ := hall c ((hcs c).1 hc)
    exact ⟨p, (hpl p).2 h1, h2, (key p h1).2 h3⟩

/-- In any order as much is spare. -/
theorem spare_turn {h : House} (hv : Valid h) {ms bs : List Nat} (M : Perm0 h.ms.length ms) (B : Perm0 h.bs.length bs) : (spareRaw h < 0 ↔ spareRaw (turnH h ms bs) < 0) ∧ (0 ≤ spareRaw h → spareRaw (turnH h ms bs) = spareRaw h) := by
  have hv' := turn_valid hv M B
  have hall : ∀ n, 0 ≤ n → n ≤ 99 → (n ≤ spareRaw h ↔ n ≤ spareRaw (turnH h ms bs)) := fun n h0 hn => by
    rw [spareRaw_iff hv h0 hn, spareRaw_iff hv' h0 hn]
    exact ⟨(turn_sim M B).spareOk hv hv', (turn_back M B).spareOk hv' hv⟩
  have h1 := spareRaw_le99 h
  have h2 := spareRaw_le99 (turnH h ms bs)
  have h3 := hall 0 (by omega) (by omega)
  refine ⟨by omega, fun h0 => ?_⟩
  have h4 := (hall (spareRaw h) h0 h1).1 (Int.le_refl _)
  have h5 := (hall (spareRaw (turnH h ms bs)) (by omega) h2).2 (Int.le_refl _)
  omega

end Go.Proofs.YtngdppajailpcaaGreat

namespace Go.Proofs.YtngdppajailpcaaGreat

theorem needsA_iff {h : Hall} (hv : ValidH h) {i : Int} {x : Cnt} : x ∈ needsA h i ↔ ∃ p, isPlan h.hs p = true ∧ Idle p i ∧ lateOf h.hs p = [] ∧ x = needOf h p := by
  unfold needsA
  rw [List.mem_map]
  constructor
  · rintro ⟨p, hp, rfl⟩
    obtain ⟨h1, h2⟩ := List.mem_filter.1 hp
    obtain ⟨h3, h4⟩ := (plansOf_iff hv.hs i p).1 h1
    exact ⟨p, h3, h4, of_decide_eq_true h2, rfl⟩
  · rintro ⟨p, h1, h2, h3, rfl⟩
    exact ⟨p, List.mem_filter.2 ⟨(plansOf_iff hv.hs i p).2 ⟨h1, h2⟩, decide_eq_true h3⟩, rfl⟩
theorem doAll_iff {h : Hall} (hv : ValidH h) {x : Cnt} : doAllC x (allA h) = true ↔ ∀ i ∈ casesOf h.hs, ∃ p, isPlan h.hs p = true ∧ Idle p i ∧ lateOf h.hs p = [] ∧ cntLe (needOf h p) x = true := by
  unfold doAllC allA doesC
  simp only [List.all_map, List.all_eq_true, List.any_eq_true, Function.comp]
  refine forall_congr' fun i => forall_congr' fun _ => ?_
  constructor
  · rintro ⟨y, hy, hle⟩
    obtain ⟨p, h1, h2, h3, rfl⟩ := (needsA_iff hv).1 hy
    exact ⟨p, h1, h2, h3, hle⟩
  · rintro ⟨p, h1, h2, h3, h4⟩
    exact ⟨_, (needsA_iff hv).2 ⟨p, h1, h2, h3, rfl⟩, h4⟩

/-- There is a set just if the house is sure. -/
theorem joinsH_sure {h : Hall} (hv : ValidH h) : joinsH h ≠ [] ↔ sureB h.hs [] = true := by
  rw [sureB_iff hv.hs]
  unfold joinsH
  rw [Ne, joinsC_ne]
  constructor
  · intro hn c hc
    cases e : needsA h c with
    | nil => exact absurd ⟨_, List.mem_map.2 ⟨c, hc, rfl⟩, e⟩ hn
    | cons x l =>
      obtain ⟨p, h1, h2, h3, _⟩ := (needsA_iff hv).1 (show x ∈ needsA h c by rw [e]; simp)
      exact ⟨p, h1, h2, fun t ht => by rw [h3] at ht; exact ht⟩
  · rintro hs ⟨l, hl, rfl⟩
    obtain ⟨c, hc, e⟩ := List.mem_map.1 hl
    obtain ⟨p, h1, h2, h3⟩ := hs c hc
    have : needOf h p ∈ needsA h c := (needsA_iff hv).2 ⟨p, h1, h2, sub_nil.1 h3, rfl⟩
    rw [e] at this; cases this

/-- What does for all cases of the one does for all of the other. -/
theorem numC_doAll {h o : Hall} (hv : ValidH h) (ho : ValidH o) (hd : ∀ x, Cn x → doAllC x (allA h) = true → doAllC x (allA o) = true) : (joinsH h ≠ [] → joinsH o ≠ []) ∧ numC o zero12 ≤ numC h zero12 := by
  by_cases hn : joinsH h = []
  · refine ⟨fun h => absurd hn h, ?_⟩
    rw [numC_none hv Cn.zero hn]
    exact (numC_bd ho Few.zero).2.1
  · have := numC_cmp hv ho Cn.zero Cn.zero 0 hn fun x hx => by
      have hx3 := joinsH_cn3 hv x hx
      obtain ⟨y, hy, hle⟩ := (doAll_joins ho hx3.cn).1 (hd x hx3.cn ((doAll_joins hv hx3.cn).2 ⟨x, hx, cntLe_refl x⟩))
      have hy3 := joinsH_cn3 ho y hy
      refine ⟨y, hy, ?_⟩
      have : cntSum (cntMax zero12 y) ≤ cntSum (cntMax zero12 x) := sum_le12 (t := 0) (max_len ho Cn.zero.len hy) (max_len hv Cn.zero.len hx) fun k hk => by
        have h1 := (cntLe_iff hy3.len hx3.len).1 hle k hk
        rw [max_at hv Cn.zero.len hx hk, max_at ho Cn.zero.len hy hk]
        unfold gT; omega
      omega
    exact ⟨fun _ => this.1, by omega⟩

/-! ### P9.20, P9.17: better trains, calm nights -/

theorem runTo_pace {h : House} {a b : Mach} (hp : a.p = b.p) : ∀ (l : List Int) (s : List Int × Int × Option Int), runTo h a l s = runTo h b l s
  | [], _ => rfl
  | x :: l, (ts, now, prev) => by
    have e2 : stepT h a now prev x = stepT h b now prev x := by unfold stepT; rw [hp]
    simp only [runTo, e2]
    exact runTo_pace hp l _
theorem timesTo_pace {h o : House} (hb : o.bs = h.bs) (hc : o.ch = h.ch) (hm : ∀ k, (mach o k).r = (mach h k).r ∧ (mach o k).p = (mach h k).p) : ∀ (p : List (List Int)) (m : Nat) (ts : List Int), timesTo o m p ts = timesTo h m p ts
  | [], _, _ => rfl
  | l :: p, m, ts => by
    have e : runList o (mach o m) l ts = runList h (mach h m) l ts := by
      unfold runList
      rw [runTo_congr hb hc, (hm m).1, runTo_pace (hm m).2]
    simp only [timesTo, e]
    exact timesTo_pace hb hc hm p _ _
theorem isPlan_congr {h o : House} (hm : o.ms.length = h.ms.length) (hb : o.bs.length = h.bs.length) (p : List (List Int)) : isPlan o p = isPlan h p := by
  unfold isPlan; rw [hm, hb]
/-- No train is late where none was, if each leaves as late or later. -/
theorem late_later {h o : House} (hb : o.bs = h.bs) (hc : o.ch = h.ch) (hm : ∀ k, (mach o k).r = (mach h k).r ∧ (mach o k).p = (mach h k).p) (hl : o.ts.length = h.ts.length) (ht : ∀ t : Nat, h.ts.getD t 0 ≤ o.ts.getD t 0) {p : List (List Int)} (e : lateOf h p = []) : lateOf o p = [] := by
  cases eo : lateOf o p with
  | nil => rfl
  | cons x l =>
    have hx : x ∈ lateOf o p := by rw [eo]; simp
    obtain ⟨t, rfl, _⟩ := lateOf_is hx
    obtain ⟨h1, b, h2, h3, h4⟩ := lateOf_iff.1 hx
    have etm : tm o p b = tm h p b := by
      unfold tm timesOf
      rw [timesTo_pace hb hc hm, hb]
    have : (t : Int) ∈ lateOf h p := lateOf_iff.2 ⟨by rw [← hl]; exact h1, b, by rw [← hb]; exact h2, by
      rw [← h3]; unfold bund; rw [hb], fun hin => h4 (by
        unfold inT at *
        rw [etm]
        have := ht t
        omega)⟩
    rw [e] at this; cases this
structure Better9 (h o : Hall) : Prop where
  bs : o.hs.bs = h.hs.bs
  ch : o.hs.ch = h.hs.ch
  ml : o.hs.ms.length = h.hs.ms.length
  mp : ∀ k, (mach o.hs k).r = (mach h.hs k).r ∧ (mach o.hs k).p = (mach h.hs k).p
  st : ∀ k, k < h.hs.ms.length → (mach o.hs k).s = 1 → (mach h.hs k).s = 1
  tl : o.hs.ts.length = h.hs.ts.length
  tt : ∀ t : Nat, h.hs.ts.getD t 0 ≤ o.hs.ts.getD t 0
  bo : o.bo = h.bo
  ed : o.ed = h.ed
theorem Better9.need {h o : Hall} (B : Better9 h o) (p : List (List Int)) : needOf o p = needOf h p := by
  have e1 : ∀ m, bore o m = bore h m := fun m => by unfold bore; rw [B.bo]
  have e2 : ∀ b, edn o b = edn h b := fun b => by
    unfold edn bund; rw [B.ed, B.bs]
  have e3 : needM o p = needM h p := by
    funext k m
    unfold needM needP
    rw [e1 m]
    simp only [e2]
  unfold needOf countM
  rw [e3]
theorem Better9.fewer {h o : Hall} (hv : ValidH h) (ho : ValidH o) (B : Better9 h o) : (joinsH h ≠ [] → joinsH o ≠ []) ∧ numC o zero12 ≤ numC h zero12 :=
  numC_doAll hv ho fun x _ hd => by
    rw [doAll_iff ho]
    intro i hi
    have hi' : i ∈ casesOf h.hs := by
      rcases casesOf_iff.1 hi with rfl | ⟨k, hk, rfl, hs⟩
      · exact casesOf_iff.2 (.inl rfl)
      · rw [B.ml] at hk
        exact casesOf_iff.2 (.inr ⟨k, hk, rfl, B.st k hk hs⟩)
    obtain ⟨p, h1, h2, h3, h4⟩ := (doAll_iff hv).1 hd i hi'
    exact ⟨p, by rw [isPlan_congr B.ml (by rw [B.bs])]; exact h1, h2, late_later B.bs B.ch B.mp B.tl B.tt h3, by rw [B.need]; exact h4⟩

/-! ### P9.18, P9.19: the same house, other bores or pages -/

theorem joins_rel {h o : Hall} (hv : ValidH h) (ho : ValidH o) (e : o.hs = h.hs) {R : Cnt → Cnt → Prop} (hR : ∀ a b a' b', R a b → R a' b' → R (cntMax a a') (cntMax b b')) (h0 : R zero12 zero12) (hp : ∀ p, isPlan h.hs p = true → R (needOf o p) (needOf h p)) :
    ∀ x ∈ joinsH h, ∃ y ∈ joinsH o, R y x := by
  unfold joinsH allA
  rw [e]
  refine joinsC_rel hR (fun i _ x hx => ?_) h0
  obtain ⟨p, h1, h2, h3, rfl⟩ := (needsA_iff hv).1 hx
  exact ⟨needOf o p, (needsA_iff ho).2 ⟨p, by rw [e]; exact h1, h2, by rw [e]; exact h3, rfl⟩, hp p h1⟩
theorem gt_need (h : Hall) (p : List (List Int)) {k : Nat} (hk : k < 12) : gT (needOf h p) k = (countM h p k p.length : Int) := gt_mk _ hk
theorem needOf_len (h : Hall) (p : List (List Int)) : (needOf h p).length = 12 := Cn.zero.len
theorem countM_mono {h o : Hall} {p : List (List Int)} {k k' : Nat} (hm : ∀ m, needM o p k m = true → needM h p k' m = true) : ∀ n, countM o p k n ≤ countM h p k' n
  | 0 => by simp [countM]
  | n + 1 => by
    have ih := countM_mono hm n
    rw [countM_succ, countM_succ]
    cases e : needM o p k n
    · simp; omega
    · rw [hm n e]; simp; omega

/-- One page of an edition is left out. -/
def pageless (h : Hall) (e i : Nat) : Hall := { h with ed := h.ed.set e ((h.ed.getD e []).eraseIdx i) }
theorem pageless_edn {h : Hall} {e i : Nat} (b : Int) : edn (pageless h e i) b = edn h b ∨ edn (pageless h e i) b = (edn h b).eraseIdx i ∧ edn h b = h.ed.getD e [] := by
  unfold edn pageless
  simp only
  rw [getD_set]
  split
  · rename_i hc
    exact .inr ⟨by rw [← hc.1], by rw [← hc.1]⟩
  · exact .inl rfl
theorem pageless_valid {h : Hall} (hv : ValidH h) (e i : Nat) : ValidH (pageless h e i) := by
  have hl : (pageless h e i).ed.length = h.ed.length := List.length_set
  refine ⟨hv.hs, hv.bo, by rw [hl]; exact hv.e4, hv.bos, ?_, by rw [hl]; exact hv.bes⟩
  rw [List.all_eq_true]
  intro l hlm
  rcases List.mem_or_eq_of_mem_set hlm with h1 | rfl
  · exact List.all_eq_true.1 hv.eds l h1
  · by_cases he : e < h.ed.length
    · have h2 := rising_iff.1 (List.all_eq_true.1 hv.eds _ (List.getElem_mem he))
      have e2 : h.ed.getD e [] = h.ed[e] := by rw [List.getD_eq_getElem?_getD, List.getElem?_eq_getElem he]; rfl
      rw [e2]
      exact rising_iff.2 ⟨fun x hx => h2.1 x (List.mem_of_mem_eraseIdx hx), h2.2.sublist (List.eraseIdx_sublist _ _)⟩
    · have e2 : h.ed.getD e [] = [] := by rw [List.getD_eq_getElem?_getD, List.getElem?_eq_none (by omega)]; rfl
      rw [e2]; rfl
theorem pageless_needP {h : Hall} {e i : Nat} (l : List Int) (q : Nat) : (needP (pageless h e i) l q = true → needP h l q = true) ∧ ((q : Int) ≠ (h.ed.getD e []).getD i (-1) → needP h l q = true → needP (pageless h e i) l q = true) := by
  unfold needP
  simp only [List.any_eq_true, decide_eq_true_eq]
  constructor
  · rintro ⟨b, hb, hm⟩
    refine ⟨b, hb, ?_⟩
    rcases pageless_edn (h := h) (e := e) (i := i) b with e1 | ⟨e1, _⟩
    · rw [← e1]; exact hm
    · rw [e1] at hm; exact List.mem_of_mem_eraseIdx hm
  · rintro hne ⟨b, hb, hm⟩
    refine ⟨b, hb, ?_⟩
    rcases pageless_edn (h := h) (e := e) (i := i) b with e1 | ⟨e1, e2⟩
    · rw [e1]; exact hm
    · rw [e1]
      rw [← e2] at hne
      obtain ⟨j, hj, ej⟩ := List.mem_iff_getElem.1 hm
      by_cases hji : j = i
      · subst hji
        exact absurd (by rw [List.getD_eq_getElem?_getD, List.getElem?_eq_getElem hj]; exact ej.symm) hne
      · rw [List.mem_eraseIdx_iff_getElem]
        exact ⟨j, hj, hji, ej⟩
/-- How many machines have a bore. -/
def boresTo (h : Hall) (b n : Nat) : Nat := ((List.range n).filter fun m => decide (bore h m = (b : Int))).length
theorem boresTo_succ (h : Hall) (b n : Nat) : boresTo h b (n + 1) = boresTo h b n + if bore h n = (b : Int) then 1 else 0 := by
  unfold boresTo
  rw [List.range_succ, List.filter_append, List.length_append]
  by_cases e : bore h n = (b : Int) <;> simp [e]
theorem countM_bores {h : Hall} {p : List (List Int)} {k : Nat} : ∀ n, countM h p k n ≤ boresTo h (k % 3) n
  | 0 => by simp [countM]
  | n + 1 => by
    have ih := countM_bores (h := h) (p := p) (k := k) n
    rw [countM_succ, boresTo_succ]
    by_cases e : bore h n = ((k % 3 : Nat) : Int)
    · rw [if_pos e]; split <;> omega
    · have : needM h p k n = false := by unfold needM; rw [decide_eq_false e]; rfl
      rw [this, if_neg e]; simp; omega
theorem bores_sum (h : Hall) : ∀ n, boresTo h 0 n + boresTo h 1 n + boresTo h 2 n ≤ n
  | 0 => by simp [boresTo]
  | n + 1 => by
    have ih := bores_sum h n
    rw [boresTo_succ, boresTo_succ, boresTo_succ]
    split <;> split <;> split <;> omega
theorem plan_len {h : House} {p : List (List Int)} (hp : isPlan h p = true) : p.length = h.ms.length := by
  simp only [isPlan, Bool.and_eq_true, decide_eq_true_eq] at hp; exact hp.1

set_option maxHeartbeats 1000000 in
theorem pageless_fewer {h : Hall} (hv : ValidH h) (e i : Nat) : (joinsH h = [] ↔ joinsH (pageless h e i) = []) ∧ numC (pageless h e i) zero12 ≤ numC h zero12 ∧ (joinsH h ≠ [] → numC h zero12 ≤ numC (pageless h e i) zero12 + h.hs.ms.length) := by
  have ho := pageless_valid hv e i
  have hjs : joinsH h ≠ [] ↔ joinsH (pageless h e i) ≠ [] := by rw [joinsH_sure hv, joinsH_sure ho]; exact Iff.rfl
  have hz : (zero12 : Cnt).length = 12 := Cn.zero.len
  refine ⟨by simpa using not_congr hjs, ?_, fun hn => ?_⟩
  · by_cases hn : joinsH h = []
    · rw [numC_none hv Cn.zero hn]; exact (numC_bd ho Few.zero).2.1
    · refine Int.le_trans (numC_cmp hv ho Cn.zero Cn.zero 0 hn fun x hx => ?_).2 (by omega)
      obtain ⟨y, hy, h1, h2, h3⟩ := joins_rel (R := fun y x => y.length = 12 ∧ x.length = 12 ∧ ∀ k, k < 12 → gT y k ≤ gT x k) hv ho rfl (fun a b a' b' ⟨l1, l2, r1⟩ ⟨l3, l4, r2⟩ => ⟨by rw [cntMax_len (by rw [l1, l3]), l1], by rw [cntMax_len (by rw [l2, l4]), l2], fun k hk => by
          rw [cntMax_at l1 l3 hk, cntMax_at l2 l4 hk]
          have := r1 k hk; have := r2 k hk; omega⟩) ⟨hz, hz, fun _ _ => Int.le_refl _⟩ (fun p _ => ⟨needOf_len _ _, needOf_len _ _, fun k hk => by
          rw [gt_need _ _ hk, gt_need _ _ hk]
          have := countM_mono (h := h) (o := pageless h e i) (p := p) (k := k) (k' := k) (fun m hm => by
            unfold needM at *
            simp only [Bool.and_eq_true] at *
            exact ⟨hm.1, (pageless_needP _ _).1 hm.2⟩) p.length
          omega⟩) x hx
      refine ⟨y, hy, ?_⟩
      have := sum_le12 (t := 0) (max_len ho hz hy) (max_len hv hz hx) fun k hk => by
        rw [max_at hv hz hx hk, max_at ho hz hy hk]
        have := h3 k hk; omega
      omega
  · obtain ⟨pg, hpg⟩ : ∃ pg, pg = (h.ed.getD e []).getD i (-1) := ⟨_, rfl⟩
    refine (numC_cmp ho hv Cn.zero Cn.zero _ (hjs.1 hn) fun y hy => ?_).2
    obtain ⟨x, hx, h1, h2, h3⟩ := joins_rel (R := fun x y => x.length = 12 ∧ y.length = 12 ∧ ∀ k, k < 12 → 0 ≤ gT y k ∧ (((k / 3 : Nat) : Int) ≠ pg → gT x k ≤ gT y k) ∧ gT x k ≤ boresTo h (k % 3) h.hs.ms.length) ho hv rfl
        (fun a b a' b' ⟨l1, l2, r1⟩ ⟨l3, l4, r2⟩ => ⟨by rw [cntMax_len (by rw [l1, l3]), l1], by rw [cntMax_len (by rw [l2, l4]), l2], fun k hk => by
          rw [cntMax_at l1 l3 hk, cntMax_at l2 l4 hk]
          obtain ⟨q1, q2, q3⟩ := r1 k hk
          obtain ⟨q4, q5, q6⟩ := r2 k hk
          exact ⟨by omega, fun hne => by have := q2 hne; have := q5 hne; omega, by omega⟩⟩)
        ⟨hz, hz, fun k hk => by rw [gt_zero hk]; exact ⟨by omega, fun _ => by omega, by omega⟩⟩
        (fun p hp => ⟨needOf_len _ _, needOf_len _ _, fun k hk => by
          rw [gt_need _ _ hk, gt_need _ _ hk]
          have hpl : p.length = h.hs.ms.length := plan_len hp
          refine ⟨by omega, fun hne => ?_, ?_⟩
          · have := countM_mono (h := pageless h e i) (o := h) (p := p) (k := k) (k' := k) (fun m hm => by
              unfold needM at *
              simp only [Bool.and_eq_true] at *
              exact ⟨hm.1, (pageless_needP _ _).2 (by rw [← hpg]; exact hne) hm.2⟩) p.length
            omega
          · have := countM_bores (h := h) (p := p) (k := k) p.length
            rw [hpl] at this ⊢; omega⟩) y hy
    refine ⟨x, hx, ?_⟩
    have hlx := max_len hv hz hx
    have hly := max_len ho hz hy
    rw [sum12 hlx, sum12 hly]
    have hs := bores_sum h h.hs.ms.length
    have key : ∀ k, k < 12 → 0 ≤ gT (cntMax zero12 y) k ∧ (((k / 3 : Nat) : Int) ≠ pg → gT (cntMax zero12 x) k ≤ gT (cntMax zero12 y) k) ∧ gT (cntMax zero12 x) k ≤ boresTo h (k % 3) h.hs.ms.length := fun k hk => by
      rw [max_at hv hz hx hk, max_at ho hz hy hk, gt_zero hk]
      obtain ⟨q1, q2, q3⟩ := h3 k hk
      exact ⟨by omega, fun hne => by have := q2 hne; omega, by omega⟩
    have e0 := key 0 (by omega); have e1 := key 1 (by omega); have e2 := key 2 (by omega); have e3 := key 3 (by omega); have e4 := key 4 (by omega); have e5 := key 5 (by omega)
    have e6 := key 6 (by omega); have e7 := key 7 (by omega); have e8 := key 8 (by omega); have e9 := key 9 (by omega); have e10 := key 10 (by omega); have e11 := key 11 (by omega)
    clear h3 key
    simp only [Nat.reduceDiv, Nat.reduceMod] at e0 e1 e2 e3 e4 e5 e6 e7 e8 e9 e10 e11
    generalize gT (cntMax zero12 x) 0 = x0 at *; generalize gT (cntMax zero12 x) 1 = x1 at *; generalize gT (cntMax zero12 x) 2 = x2 at *; generalize gT (cntMax zero12 x) 3 = x3 at *
    generalize gT (cntMax zero12 x) 4 = x4 at *; generalize gT (cntMax zero12 x) 5 = x5 at *; generalize gT (cntMax zero12 x) 6 = x6 at *; generalize gT (cntMax zero12 x) 7 = x7 at *
    generalize gT (cntMax zero12 x) 8 = x8 at *; generalize gT (cntMax zero12 x) 9 = x9 at *; generalize gT (cntMax zero12 x) 10 = x10 at *; generalize gT (cntMax zero12 x) 11 = x11 at *
    clear hlx hly h1 h2 hz
    by_cases p0 : pg = 0
    · have f3 := e3.2.1 (by omega); have f4 := e4.2.1 (by omega); have f5 := e5.2.1 (by omega); have f6 := e6.2.1 (by omega); have f7 := e7.2.1 (by omega); have f8 := e8.2.1 (by omega); have f9 := e9.2.1 (by omega); have f10 := e10.2.1 (by omega); have f11 := e11.2.1 (by omega)
      have g0 := e0.2.2; have g1 := e1.2.2; have g2 := e2.2.2; have z0 := e0.1; have z1 := e1.1; have z2 := e2.1
      clear e0 e1 e2 e3 e4 e5 e6 e7 e8 e9 e10 e11
      omega
    · have f0 := e0.2.1 (by omega); have f1 := e1.2.1 (by omega); have f2 := e2.2.1 (by omega)
      by_cases p1 : pg = 1
      · have f6 := e6.2.1 (by omega); have f7 := e7.2.1 (by omega); have f8 := e8.2.1 (by omega); have f9 := e9.2.1 (by omega); have f10 := e10.2.1 (by omega); have f11 := e11.2.1 (by omega)
        have g0 := e3.2.2; have g1 := e4.2.2; have g2 := e5.2.2; have z0 := e3.1; have z1 := e4.1; have z2 := e5.1
        clear e0 e1 e2 e3 e4 e5 e6 e7 e8 e9 e10 e11
        omega
      · have f3 := e3.2.1 (by omega); have f4 := e4.2.1 (by omega); have f5 := e5.2.1 (by omega)
        by_cases p2 : pg = 2
        · have f9 := e9.2.1 (by omega); have f10 := e10.2.1 (by omega); have f11 := e11.2.1 (by omega)
          have g0 := e6.2.2; have g1 := e7.2.2; have g2 := e8.2.2; have z0 := e6.1; have z1 := e7.1; have z2 := e8.1
          clear e0 e1 e2 e3 e4 e5 e6 e7 e8 e9 e10 e11
          omega
        · have f6 := e6.2.1 (by omega); have f7 := e7.2.1 (by omega); have f8 := e8.2.1 (by omega)
          have g0 := e9.2.2; have g1 := e10.2.2; have g2 := e11.2.2; have z0 := e9.1; have z1 := e10.1; have z2 := e11.1
          clear e0 e1 e2 e3 e4 e5 e6 e7 e8 e9 e10 e11
          omega

/-- All machines have one bore. -/
def oneBore (h : Hall) (m : Nat) : Hall := { h with bo := h.bo.map fun _ => bore h m }
theorem oneBore_valid {h : Hall} (hv : ValidH h) {m : Nat} (hm : m < h.hs.ms.length) : ValidH (oneBore h m) := by
  refine ⟨hv.hs, by show (h.bo.map _).length = _; rw [List.length_map]; exact hv.bo, hv.e4, ?_, hv.eds, hv.bes⟩
  obtain ⟨b, hb, e, _⟩ := bore_bd hv hm
  rw [List.all_eq_true]
  intro x hx
  obtain ⟨_, _, rfl⟩ := List.mem_map.1 hx
  rw [e]
  exact within_iff.2 ⟨by omega, by omega⟩
theorem oneBore_at {h : Hall} (hv : ValidH h) {m k : Nat} (hk : k < h.hs.ms.length) : bore (oneBore h m) k = bore h m := by
  unfold bore oneBore
  rw [List.getD_eq_getElem?_getD, List.getElem?_map, List.getElem?_eq_getElem (by rw [hv.bo]; exact hk)]; rfl
/-- How many of the first machines need a page. -/
def pagesTo (h : Hall) (p : List (List Int)) (q n : Nat) : Nat := ((List.range n).filter fun m => needP h (p.getD m []) q).length
theorem pagesTo_succ (h : Hall) (p : List (List Int)) (q n : Nat) : pagesTo h p q (n + 1) = pagesTo h p q n + if needP h (p.getD n []) q then 1 else 0 := by
  unfold pagesTo
  rw [List.range_succ, List.filter_append, List.length_append]
  congr 1
  simp only [List.filter_cons, List.filter_nil]
  cases needP h (p.getD n []) q <;> rfl
theorem count_sum {h : Hall} (hv : ValidH h) (p : List (List Int)) (q : Nat) : ∀ n, n ≤ h.hs.ms.length → countM h p (3 * q) n + countM h p (3 * q + 1) n + countM h p (3 * q + 2) n = pagesTo h p q n
  | 0, _ => by simp [countM, pagesTo]
  | n + 1, hn => by
    have ih := count_sum hv p q n (by omega)
    obtain ⟨b, hb, e, _⟩ := bore_bd hv (show n < h.hs.ms.length by omega)
    rw [countM_succ, countM_succ, countM_succ, pagesTo_succ]
    have e1 : (3 * q) % 3 = 0 ∧ (3 * q) / 3 = q := by omega
    have e2 : (3 * q + 1) % 3 = 1 ∧ (3 * q + 1) / 3 = q := by omega
    have e3 : (3 * q + 2) % 3 = 2 ∧ (3 * q + 2) / 3 = q := by omega
    unfold needM
    rw [e1.1, e1.2, e2.1, e2.2, e3.1, e3.2, e]
    have hb' : b = 0 ∨ b = 1 ∨ b = 2 := by omega
    cases needP h (p.getD n []) q
    · simp; omega
    · rcases hb' with rfl | rfl | rfl <;> simp <;> omega
theorem count_one {h : Hall} (hv : ValidH h) {m b : Nat} (hb : bore h m = (b : Int)) (p : List (List Int)) (k : Nat) : ∀ n, n ≤ h.hs.ms.length → countM (oneBore h m) p k n = if k % 3 = b then pagesTo h p (k / 3) n else 0
  | 0, _ => by simp [countM, pagesTo]
  | n + 1, hn => by
    have ih := count_one hv hb p k n (by omega)
    rw [countM_succ, ih, pagesTo_succ]
    have e : needM (oneBore h m) p k n = (decide (k % 3 = b) && needP h (p.getD n []) (k / 3)) := by
      unfold needM
      rw [oneBore_at hv (by omega), hb]
      have : decide ((b : Int) = ((k % 3 : Nat) : Int)) = decide (k % 3 = b) := decide_eq_decide.2 (by omega)
      rw [this]; rfl
    rw [e]
    by_cases hk : k % 3 = b
    · rw [if_pos hk, decide_eq_true hk, if_pos hk]; simp
    · rw [if_neg hk, decide_eq_false hk, if_neg hk]; simp
set_option maxHeartbeats 1000000 in
theorem oneBore_fewer {h : Hall} (hv : ValidH h) {m : Nat} (hm : m < h.hs.ms.length) : numC (oneBore h m) zero12 ≤ numC h zero12 := by
  have ho := oneBore_valid hv hm
  obtain ⟨b, hb3, hb, _⟩ := bore_bd hv hm
  have hz : (zero12 : Cnt).length = 12 := Cn.zero.len
  by_cases hn : joinsH h = []
  · rw [numC_none hv Cn.zero hn]; exact (numC_bd ho Few.zero).2.1
  · refine Int.le_trans (numC_cmp hv ho Cn.zero Cn.zero 0 hn fun x hx => ?_).2 (by omega)
    obtain ⟨y, hy, h1, h2, h3⟩ := joins_rel (R := fun y x => y.length = 12 ∧ x.length = 12 ∧ ∀ q, q < 4 → (0 ≤ gT x (3 * q) ∧ 0 ≤ gT x (3 * q + 1) ∧ 0 ≤ gT x (3 * q + 2)) ∧ ∀ j, j < 3 → (j ≠ b → gT y (3 * q + j) ≤ 0) ∧ gT y (3 * q + j) ≤ gT x (3 * q) + gT x (3 * q + 1) + gT x (3 * q + 2)) hv ho rfl
      (fun a b a' b' ⟨l1, l2, r1⟩ ⟨l3, l4, r2⟩ => ⟨by rw [cntMax_len (by rw [l1, l3]), l1], by rw [cntMax_len (by rw [l2, l4]), l2], fun q hq => by
        obtain ⟨⟨q1, q2, q3⟩, q4⟩ := r1 q hq
        obtain ⟨⟨q5, q6, q7⟩, q8⟩ := r2 q hq
        rw [cntMax_at l2 l4 (show 3 * q < 12 by omega), cntMax_at l2 l4 (show 3 * q + 1 < 12 by omega), cntMax_at l2 l4 (show 3 * q + 2 < 12 by omega)]
        refine ⟨by omega, fun j hj => ?_⟩
        rw [cntMax_at l1 l3 (show 3 * q + j < 12 by omega)]
        obtain ⟨s1, s2⟩ := q4 j hj
        obtain ⟨s3, s4⟩ := q8 j hj
        exact ⟨fun hne => by have := s1 hne; have := s3 hne; omega, by omega⟩⟩)
      ⟨hz, hz, fun q hq => by
        rw [gt_zero (show 3 * q < 12 by omega), gt_zero (show 3 * q + 1 < 12 by omega), gt_zero (show 3 * q + 2 < 12 by omega)]
        exact ⟨by omega, fun j hj => by rw [gt_zero (show 3 * q + j < 12 by omega)]; exact ⟨fun _ => by omega, by omega⟩⟩⟩
      (fun p hp => ⟨needOf_len _ _, needOf_len _ _, fun q hq => by
        have hpl : p.length = h.hs.ms.length := plan_len hp
        have hc := count_sum hv p q p.length (by omega)
        rw [gt_need _ _ (show 3 * q < 12 by omega), gt_need _ _ (show 3 * q + 1 < 12 by omega), gt_need _ _ (show 3 * q + 2 < 12 by omega)]
        refine ⟨by omega, fun j hj => ?_⟩
        rw [gt_need _ _ (show 3 * q + j < 12 by omega), count_one hv hb p (3 * q + j) p.length (by omega), show (3 * q + j) % 3 = j by omega, show (3 * q + j) / 3 = q by omega]
        refine ⟨fun hne => by rw [if_neg hne]; omega, ?_⟩
        split <;> omega⟩) x hx
    refine ⟨y, hy, ?_⟩
    have hlx := max_len hv hz hx
    have hly := max_len ho hz hy
    rw [sum12 hlx, sum12 hly]
    have hb' : b = 0 ∨ b = 1 ∨ b = 2 := by omega
    have key : ∀ q, q < 4 → gT (cntMax zero12 y) (3 * q) + gT (cntMax zero12 y) (3 * q + 1) + gT (cntMax zero12 y) (3 * q + 2) ≤ gT (cntMax zero12 x) (3 * q) + gT (cntMax zero12 x) (3 * q + 1) + gT (cntMax zero12 x) (3 * q + 2) := fun q hq => by
      rw [max_at hv hz hx (show 3 * q < 12 by omega), max_at hv hz hx (show 3 * q + 1 < 12 by omega), max_at hv hz hx (show 3 * q + 2 < 12 by omega), max_at ho hz hy (show 3 * q < 12 by omega), max_at ho hz hy (show 3 * q + 1 < 12 by omega), max_at ho hz hy (show 3 * q + 2 < 12 by omega),
        gt_zero (show 3 * q < 12 by omega), gt_zero (show 3 * q + 1 < 12 by omega), gt_zero (show 3 * q + 2 < 12 by omega)]
      obtain ⟨⟨q1, q2, q3⟩, q4⟩ := h3 q hq
      have s0 := q4 0 (by omega)
      have s1 := q4 1 (by omega)
      have s2 := q4 2 (by omega)
      simp only [Nat.add_zero] at s0
      rcases hb' with rfl | rfl | rfl
      · have t1 := s1.1 (by omega); have t2 := s2.1 (by omega); omega
      · have t1 := s0.1 (by omega); have t2 := s2.1 (by omega); omega
      · have t1 := s0.1 (by omega); have t2 := s1.1 (by omega); omega
    have k0 := key 0 (by omega)
    have k1 := key 1 (by omega)
    have k2 := key 2 (by omega)
    have k3 := key 3 (by omega)
    simp only [Nat.mul_zero, Nat.zero_add, Nat.mul_one, Nat.reduceMul, Nat.reduceAdd] at k0 k1 k2 k3
    clear key h3
    omega

/-! ### P9.13: one plan -/

theorem plan_can {h : Hall} (hv : ValidH h) {p : List (List Int)} (hp : isPlan h.hs p = true) (hl : lateOf h.hs p = []) {i : Int} (hi : isCaseA h i = true) (hid : Idle p i) : canA h (setOf (needOf h p)) i = true := by
  have hlen : p.length ≤ 3 := by rw [plan_len hp]; exact hv.hs.m3
  have hok : setOk (setOf (needOf h p)) = true := setOf_ok fun k hk => by have := needOf_bd (h := h) hlen hk; omega
  have hm : needOf h p ∈ needsA h i := (needsA_iff hv).2 ⟨p, hp, hid, hl, rfl⟩
  unfold canA
  rw [validHall_iff.2 hv, hok, hi, countsOf_setOf (needOf_cn hlen)]
  simp only [Bool.and_self, Bool.true_and]
  exact List.any_eq_true.2 ⟨_, hm, cntLe_refl _⟩
theorem countM_pos {h : Hall} {p : List (List Int)} {k m : Nat} (hm : needM h p k m = true) : ∀ n, m < n → 1 ≤ countM h p k n
  | 0, h => by omega
  | n + 1, h => by
    rw [countM_succ]
    by_cases e : m = n
    · subst e; rw [hm]; simp
    · have := countM_pos hm n (by omega); omega
theorem plan_fit {h : Hall} (hv : ValidH h) {p : List (List Int)} (hp : isPlan h.hs p = true) {m : Nat} {l : List Int} (hl : At p m l) {b : Int} (hb : b ∈ l) : (bund h.hs b).e ∈ fitA h (m : Int) (setOf (needOf h p)) := by
  have hlen : p.length ≤ 3 := by rw [plan_len hp]; exact hv.hs.m3
  have hok : setOk (setOf (needOf h p)) = true := setOf_ok fun k hk => by have := needOf_bd (h := h) hlen hk; omega
  have hm : m < h.hs.ms.length := by rw [← plan_len hp]; exact hl.lt
  have him : isMachA h (m : Int) = true := within_iff.2 ⟨by omega, by omega⟩
  have hbf : b ∈ p.flatten := List.mem_flatten.2 ⟨l, hl.mem, hb⟩
  obtain ⟨hb0, hbl⟩ := plan_bd hp hbf
  obtain ⟨j, rfl⟩ : ∃ j : Nat, b = (j : Int) := ⟨b.toNat, by omega⟩
  obtain ⟨x, hx⟩ := At.mk (xs := h.hs.bs) (k := j) (by simpa using hbl)
  obtain ⟨e, he, hel, hea, her⟩ := edn_at hv hx
  rw [hx.bund, he]
  unfold fitA
  rw [validHall_iff.2 hv, him, hok, countsOf_setOf (needOf_cn hlen)]
  simp only [Bool.and_self, if_pos]
  unfold fitTo
  rw [List.mem_map]
  refine ⟨e, List.mem_filter.2 ⟨List.mem_range.2 hel, ?_⟩, rfl⟩
  rw [hea.getD]
  unfold fitOne
  rw [List.all_eq_true]
  intro pg hpg
  obtain ⟨r1, r2⟩ := (rising_iff.1 her).1 pg hpg
  obtain ⟨q, rfl⟩ : ∃ q : Nat, pg = (q : Int) := ⟨pg.toNat, by omega⟩
  obtain ⟨bb, hbb, hbe, _⟩ := bore_bd hv hm
  refine decide_eq_true ?_
  simp only [Int.toNat_natCast]
  rw [hbe, Int.toNat_natCast]
  rw [gt_need _ _ (by omega)]
  have : 1 ≤ countM h p (q * 3 + bb) p.length := countM_pos (m := m) (by
    unfold needM
    rw [hbe, show (q * 3 + bb) % 3 = bb by omega, show (q * 3 + bb) / 3 = q by omega, decide_eq_true rfl, hl.getD]
    unfold needP
    rw [Bool.true_and]
    exact List.any_eq_true.2 ⟨_, hb, decide_eq_true hpg⟩) _ hl.lt
  omega
theorem fitA_mem {h : Hall} {n : Int} {set : List Plate} {x : Int} (hx : x ∈ fitA h n set) : 0 ≤ x ∧ x < h.ed.length := by
  unfold fitA at hx
  split at hx
  · unfold fitTo at hx
    obtain ⟨k, hk, rfl⟩ := List.mem_map.1 hx
    have := List.mem_range.1 (List.mem_filter.1 hk).1
    exact ⟨by simp, by simp; omega⟩
  · cases hx
/-- With more plates not fewer editions. -/
theorem fit_more {h : Hall} {n : Int} {s t : List Plate} (ht : setOk t = true) (hle : ∀ k, gT (countsOf s) k ≤ gT (countsOf t) k) {x : Int} (hx : x ∈ fitA h n s) : x ∈ fitA h n t := by
  unfold fitA at *
  split at hx
  · rename_i hc
    simp only [Bool.and_eq_true] at hc
    rw [hc.1, hc.2.1, ht]
    simp only [Bool.and_self, if_pos]
    unfold fitTo at *
    obtain ⟨k, hk, rfl⟩ := List.mem_map.1 hx
    obtain ⟨k1, k2⟩ := List.mem_filter.1 hk
    refine List.mem_map.2 ⟨k, List.mem_filter.2 ⟨k1, ?_⟩, rfl⟩
    unfold fitOne at *
    rw [List.all_eq_true] at *
    intro pg hpg
    have := of_decide_eq_true (k2 pg hpg)
    have := hle (pg.toNat * 3 + (bore h n.toNat).toNat)
    exact decide_eq_true (by omega)
  · cases hx
/-- With more plates no case more that lacks some. -/
theorem lacks_more {h : Hall} (hv : ValidH h) {s t : List Plate} (hs : setOk s = true) (ht : setOk t = true) (hle : ∀ k, gT (countsOf s) k ≤ gT (countsOf t) k) {x : Int} (hx : x ∈ lacksA h t) : x ∈ lacksA h s := by
  unfold lacksA at *
  rw [validHall_iff.2 hv, ht] at hx
  rw [validHall_iff.2 hv, hs]
  simp only [Bool.and_self, if_pos] at *
  obtain ⟨h1, h2⟩ := List.mem_filter.1 hx
  refine List.mem_filter.2 ⟨h1, ?_⟩
  simp only [Bool.not_eq_true'] at *
  unfold doesC at *
  rw [List.any_eq_false] at *
  intro y hy
  have := h2 y hy
  intro hly
  refine this ((cntLe_iff (needsA_cn hv y hy).len (countsOf_len t)).2 fun k hk => ?_)
  have h3 := (cntLe_iff (needsA_cn hv y hy).len (countsOf_len s)).1 hly k hk
  have h4 := hle k
  unfold gT at h4
  omega

end Go.Proofs.YtngdppajailpcaaGreat

namespace Go.Proofs.YtngdppajailpcaaGreat
open Go.RowKit

attribute [local go_sem] Holds.drew Holds.alloc Holds.drewN WB.holds

set_option maxHeartbeats 1000000 in
theorem samePlan_any (va vb : Value) (xs ys : List (List Int)) (H : Snap) (w : World) (hw : Holds H w) (ha : Sl H va xs) (hb : Sl H vb ys) :
    Calls Tryz.prog 54 #[va, vb] w (PostV w (.bool (decide (xs = ys)))) := by
  obtain ⟨aa, ca, rfl, ha1, ha2⟩ := ha.form
  obtain ⟨ab, cb, rfl, hb1, hb2⟩ := hb.form
  cases hl : ((xs.length : Int) != ys.length)
  · have HL : Hid (xs.length = ys.length) := Lib.hid (by have := bne_eq_false_iff_eq.1 hl; omega)
    go_enter Tryz.func54, Tryz.ntmps54
    go_wp2
    go_loopw [4, 5] (fun _ i wr => ∃ k : Nat, k ≤ xs.length ∧ i = .int .i64 k ∧ Hid (xs.take k = ys.take k) ∧ Ext w H wr H) (fun _ i _ => xs.length - (intOf i).toNat)
    case atStart => exact ⟨0, Nat.zero_le _, rfl, rfl, Ext.refl hw⟩
    case round =>
      obtain ⟨k, hk, rfl, hok, hxr⟩ := hrel
      have hwr := hxr.holds
      by_cases hlt : k < xs.length
      · obtain ⟨x, hxk⟩ := At.mk hlt
        have hlt2 : k < ys.length := by rw [← HL.out]; exact hlt
        obtain ⟨y, hyk⟩ := At.mk hlt2
        obtain ⟨b, o, c, u, he, hi, hr⟩ := ha.list hxk
        cases he
        obtain ⟨b', o', c', u', he, hi', hr'⟩ := hb.list hyk
        cases he
        go_wp2
        refine wp_region_quietB H (by kernel_rfl) (by kernel_rfl) hwr (fun hne => ?_)
        repeat go_big_quiet_step ((go_at_call 26; exact Calls.quietB (sameInts_any _ _ _ _ _ _ (WB.holds _) hi hi')))
        refine wpQuiet_nil ?_
        rintro ⟨w2, hw2, hb2⟩
        go_wp2
        all_goals clear hne
        · go_ret
          exact ⟨ret_bool (by symm; rw [decide_eq_false_iff_not]; rintro rfl; have := hxk.uniq hyk; subst this; simp_all), (hxr.step (hb2.mono hxr.below.size) hw2).below⟩
        · go_roundw
          case rel => exact ⟨k + 1, by omega, by go_num, by show List.take (k + 1) xs = List.take (k + 1) ys; rw [hxk.take, hyk.take, hok.out, show x = y by simp_all], hxr.step (hb2.mono hxr.below.size) hw2⟩
          case measure => simp [intOf]; omega
      · go_wp2
        go_ret
        have h1 : xs.take k = ys.take k := hok.out
        rw [List.take_of_length_le (by omega), List.take_of_length_le (by rw [← HL.out]; omega)] at h1
        exact ⟨ret_bool (by simp [h1]), hxr.below⟩
  · go_enter Tryz.func54, Tryz.ntmps54
    go_wp2
    go_ret
    exact ⟨ret_bool (by symm; rw [decide_eq_false_iff_not]; rintro rfl; simp at hl), Below.refl _ _⟩

end Go.Proofs.YtngdppajailpcaaGreat

namespace Go.Proofs.YtngdppajailpcaaGreat
open Go.RowKit

attribute [local go_sem] Holds.drew Holds.alloc Holds.drewN WB.holds

def huge (h : House) : Bool := decide (40 < h.ms.length) || (decide (40 < h.bs.length) || decide (40 < h.ts.length))
def far (h : House) : Bool := huge h || (decide (4 < h.bs.length) && valid h)
def long (p : List (List Int)) : Bool := decide (40 < p.length) || p.any fun l => decide (40 < l.length)

theorem huge_any (vm vb vt : Value) (h : House) (H : Snap) (w : World) (hw : Holds H w) (hh : Hou H vm vb vt h) :
    Calls Tryz.prog 81 #[houV vm vb vt h] w (PostV w (.bool (huge h))) := by
  obtain ⟨am, cm, rfl, hm1, hm2⟩ := hh.m.form
  obtain ⟨ab, cb, rfl, hb1, hb2⟩ := hh.b.form
  obtain ⟨at', ct, rfl, ht1, ht2⟩ := hh.t.form
  have key : Hid (huge h = (decide (40 < (h.ms.length : Int)) || (decide (40 < (h.bs.length : Int)) || decide (40 < (h.ts.length : Int))))) := by
    show _ = _
    unfold huge
    congr 1
    · exact decide_eq_decide.2 (by omega)
    · congr 1
      · exact decide_eq_decide.2 (by omega)
      · exact decide_eq_decide.2 (by omega)
  cases g1 : decide (40 < (h.ms.length : Int))
  all_goals cases g2 : decide (40 < (h.bs.length : Int))
  all_goals cases g3 : decide (40 < (h.ts.length : Int))
  all_goals
    rw [g1, g2, g3] at key
    go_enter Tryz.func81, Tryz.ntmps81
    go_wp2_with (first | (refine wpList_boxF rfl _ rfl (Ext.refl hw) ?_; intro B w1 H1 hle hx hB hBw; obtain ⟨hc0, hc1, hc2, hc3⟩ := cellsHou hB; clear hB hw; have hw1 := hx.holds))
    go_ret
    exact ⟨ret_bool (by rw [key.out]; rfl), hx.below⟩

set_option maxHeartbeats 1000000 in
theorem long_any (vp : Value) (p : List (List Int)) (H : Snap) (w : World) (hw : Holds H w) (hp : Sl H vp p) :
    Calls Tryz.prog 82 #[vp] w (PostV w (.bool (long p))) := by
  obtain ⟨ap, cp, rfl, hp1, hp2⟩ := hp.form
  cases g1 : decide (40 < (p.length : Int))
  · have key : Hid (long p = p.any fun l => decide (40 < l.length)) := by
      show _ = _
      unfold long
      rw [decide_eq_false (by have := of_decide_eq_false g1; omega), Bool.false_or]
    go_enter Tryz.func82, Tryz.ntmps82
    go_wp2
    go_loopw [3] (fun i wr => ∃ k : Nat, k ≤ p.length ∧ i = .int .i64 k ∧ Hid ((p.take k).any (fun l => decide (40 < l.length)) = false) ∧ Ext w H wr H) (fun i _ => p.length - (intOf i).toNat)
    case atStart => exact ⟨0, Nat.zero_le _, rfl, rfl, Ext.refl hw⟩
    case round =>
      obtain ⟨k, hk, rfl, hok, hxr⟩ := hrel
      have hwr := hxr.holds
      by_cases hlk : k < p.length
      · obtain ⟨l, hlk'⟩ := At.mk hlk
        obtain ⟨b, o, c, u, he, hu, hr⟩ := hp.list hlk'
        cases he
        obtain ⟨al, cl, rfl, _, _⟩ := hu.form
        cases g2 : decide (40 < (l.length : Int))
        · have h2 : Hid (decide (40 < l.length) = false) := Lib.hid (decide_eq_false (by have := of_decide_eq_false g2; omega))
          go_wp2_with fail
          go_roundw
          case rel => exact ⟨k + 1, by omega, by go_num, by show _ = _; rw [hlk'.take, List.any_append, hok.out]; simp only [List.any_cons, List.any_nil, h2.out]; rfl, hxr⟩
          case measure => simp [intOf]; omega
        · have h2 : Hid (decide (40 < l.length) = true) := Lib.hid (decide_eq_true (by have := of_decide_eq_true g2; omega))
          go_wp2_with fail
          go_ret
          exact ⟨ret_bool (by rw [key.out]; symm; rw [List.any_eq_true]; exact ⟨l, hlk'.mem, h2.out⟩), hxr.below⟩
      · go_wp2_with fail
        go_ret
        exact ⟨ret_bool (by rw [key.out, ← take_all (xs := p) (k := k) (by omega), hok.out]), hxr.below⟩
  · have key : Hid (long p = true) := by
      show _ = _
      unfold long
      rw [decide_eq_true (by have := of_decide_eq_true g1; omega), Bool.true_or]
    go_enter Tryz.func82, Tryz.ntmps82
    go_wp2
    go_ret
    exact ⟨ret_bool key.out.symm, Below.refl _ _⟩

end Go.Proofs.YtngdppajailpcaaGreat
