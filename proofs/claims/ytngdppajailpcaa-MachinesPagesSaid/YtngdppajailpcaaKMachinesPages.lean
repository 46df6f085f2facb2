/- Proved here: MachinesPagesSaid: the law MachinesPages returns true for every hall and any two numbers, and the hall reads afterwards as it did. Conditions: none beyond those of the given statement. -/
import Derived.Test.YtngdppajailpcaaG09
import Derived.Test.YtngdppajailpcaaG11
import Derived.Test.YtngdppajailpcaaG24
import Derived.Test.YtngdppajailpcaaRows
import Derived.ProofKit

set_option linter.all false

namespace Go.Proofs.Ytngdppajailpcaa
open Go.RowKit

theorem reps_set1 {α : Type} [Enc α] (h1 : Enc.sz α = 1) {H : Snap} {y : α} {a : Value} (hy : Enc.rep H y [a]) : ∀ {xs : List α} {cs : List Value} {k : Nat}, reps H xs cs → k < xs.length →
    reps H (xs.set k y) (cs.set k a)
  | [], _, _, _, hk => by simp at hk
  | x :: xs, cs, k, ⟨c1, c2, e, hx, h2⟩, hk => by
    have hl := Enc.len hx
    rw [h1] at hl
    match c1, hl with
    | [p], _ =>
      subst e
      cases k with
      | zero => exact ⟨[a], c2, rfl, hy, h2⟩
      | succ k => exact ⟨[p], _, rfl, hx, reps_set1 h1 hy h2 (k := k) (by simpa using hk)⟩

/-- The element at a place of a slice of the call's own, of one cell. -/
theorem Own.at1 {α : Type} [Enc α] (h1 : Enc.sz α = 1) {H : Snap} {base : Nat} {w : World} {e : TypeId} {v : Value} {xs : List α} {k : Nat} (h : Own H base w e v xs) (hk : k < xs.length) :
    ∃ g c, v = .slice (some ⟨g, 0, none⟩) xs.length c ∧ base ≤ g ∧ H g = none ∧ g < w.heap.size ∧ (∃ u, w.cell? ⟨g, k, none⟩ = some u) ∧ w.frozen? ⟨g, k, none⟩ = false ∧
      ∀ (y : α) (p : Value), Enc.rep H y [p] → Own H base (w.setCell ⟨g, k, none⟩ p) e v (xs.set k y) := by
  obtain ⟨cells, ⟨hl, ho⟩, hr, hf, hb⟩ := h
  rcases ho with ⟨rfl, hn⟩ | ⟨g, cap, cur, rfl, hbg, hg, hnc, hcm, hcs, htake⟩
  · omega
  · rw [h1, Nat.mul_one] at hl hcs htake
    have hk2 : k < cur.size := by omega
    refine ⟨g, cap, rfl, hbg, hf g rfl, (Array.getElem?_eq_some_iff.1 hg).1, ⟨cur[k], ?_⟩, by simp [World.frozen?, hg], fun y p hy => ?_⟩
    · rw [cell_of_row w g k cur e (0, 0) hg]; exact Array.getElem?_eq_getElem hk2
    refine ⟨_, ⟨?_, .inr ⟨g, cap, cur.setIfInBounds k p, by rw [List.length_set], hbg, heap_setCell_row hg _, by rw [List.length_set]; exact hnc, hcm, by simp [h1, hcs], ?_⟩⟩, reps_set1 h1 hy hr hk, hf, by rw [List.length_set]; exact hb⟩
    · simp [h1, hl]
    · rw [List.length_set, h1, Nat.mul_one]
      simp only [Array.toList_setIfInBounds]
      rw [List.take_set, htake]

theorem KBox.setE {H : Snap} {base C : Nat} {w : World} {um ub ut uo ue : Value} {h : Hall} {i : Nat} (x : KBox H base w C um ub ut uo ue h) (hi : i < h.ed.length) :
    ∃ g c, ue = .slice (some ⟨g, 0, none⟩) h.ed.length c ∧ (∃ u, w.cell? ⟨g, i, none⟩ = some u) ∧ w.frozen? ⟨g, i, none⟩ = false ∧ base ≤ g ∧ H g = none ∧ g < w.heap.size ∧ g ≠ C ∧
      (∀ (y : List Int) (u : Value), Sl H u y → KBox H base (w.setCell ⟨g, i, none⟩ u) C um ub ut uo ue { h with ed := h.ed.set i y }) := by
  obtain ⟨g, c, he, hg, hn, hlt, hc, hf, hset⟩ := x.k.e.at1 rfl hi
  have hgC : g ≠ C := fun e => x.rowNe.2.2.2.2 (by rw [he, e]; rfl)
  refine ⟨g, c, he, hc, hf, hg, hn, hlt, hgC, fun y u hu => ⟨(heap_setCell_off w _ _ (Ne.symm hgC)).trans x.row, x.hC, x.ge, x.k.m.setCell ?_ _, x.k.b.setCell ?_ _, x.k.t.setCell ?_ _, x.k.o.setCell ?_ _, hset y u ⟨u, rfl, hu⟩, x.k.ap, x.k.c⟩⟩
  · exact ne_block (x.k.m.apart x.k.e (by decide)) he
  · exact ne_block (x.k.b.apart x.k.e (by decide)) he
  · exact ne_block (x.k.t.apart x.k.e (by decide)) he
  · exact ne_block (x.k.o.apart x.k.e (by decide)) he

/-- 'xs[k:]' as the walk leaves it. -/
theorem Sl.from {α : Type} [Enc α] {H : Snap} {b o n c : Nat} {xs : List α} (h : Sl H (.slice (some ⟨b, o, none⟩) n c) xs) {k : Nat} (hk : k ≤ xs.length) (h1 : Enc.sz α = 1) :
    Sl H (.slice (if c = k then some ⟨b, o, none⟩ else some ⟨b, o + k, none⟩) (n - k) (c - k)) (xs.drop k) := by
  split
  · rename_i e
    obtain ⟨a', c', e', g1, g2, g3, g4⟩ := h
    cases e'
    have hkk : xs.length = k := by omega
    rw [List.drop_eq_nil_of_le (by omega), show xs.length - k = 0 by omega]
    exact Sl.nil _ _ (by omega)
  · have := h.drop hk
    rw [h1, Nat.mul_one] at this
    exact this

end Go.Proofs.Ytngdppajailpcaa

namespace Go.Proofs.Ytngdppajailpcaa
open Go.RowKit

attribute [local go_sem] Holds.drew Holds.alloc Holds.drewN WB.holds Oper.semAt_some FW_fn FW_dep FW_round

set_option maxRecDepth 100000 in
set_option maxHeartbeats 8000000 in
theorem machinesPages_any (vm vb vt vo ve : Value) (h : Hall) (p0 q0 : Int) (H : Snap) (w : World) (hw : Holds H w) (hh : Hal H vm vb vt vo ve h) (hi1 : I64 p0) (hi2 : I64 q0) :
    Calls Try.prog 5 #[halV vm vb vt vo ve h, .int .i64 p0, .int .i64 q0] w (PostV w (.bool true)) := by
  cases hr : ready9 h
  · go_enter Try.func5, Try.ntmps5
    go_wp2_with (first
      | (have hgd := x2; clear hgd; go_at_call 13; refine (works9_any H1 _ x2.holds).mono ?_; rintro e w3 ⟨rfl, hb3⟩; have x3 := x2.step (hb3.mono x2.below.size) (x2.holds.below hb3); have hw3 := x3.holds)
      | (have hgd := x1; clear hgd; go_at_call 11; refine (ready9_any _ _ _ _ _ _ H1 _ x1.holds (hh.mono hle)).mono ?_; rintro e w2 ⟨rfl, hb2⟩; rw [hr]; have x2 := x1.step (hb2.mono x1.below.size) (x1.holds.below hb2); have hw2 := x2.holds)
      | (have hgd := hw; clear hgd; refine wpList_boxF rfl _ rfl (Ext.refl hw) ?_; intro B w1 H1 hle hx hB hBw; obtain ⟨hc0, hc1, hc2, hc3, hc4, hc5⟩ := cellsHal hB; clear hB hw; have hw1 := hx.holds; have x1 := hx))
    go_ret
    exact ⟨rfl, x3.below⟩
  · have hv := ready9_valid hr
    obtain ⟨ae, ce, rfl, he1, he2⟩ := hh.ed.form
    cases m1 : within p0 0 ((h.ed.length : Int) - 1)
    · go_enter Try.func5, Try.ntmps5
      go_wp2_with (first
        | (have hgd := x3; clear hgd; go_at_call 13; refine (works9_any H1 _ x3.holds).mono ?_; rintro e w4 ⟨rfl, hb4⟩; have x4 := x3.step (hb4.mono x3.below.size) (x3.holds.below hb4); have hw4 := x4.holds)
        | (have hgd := x2; clear hgd; go_at_call 27; refine (within_any _ _ _ _).mono ?_; rintro e w3 ⟨rfl, rfl⟩; rw [m1]; have x3 := x2; have hw3 := x3.holds)
        | (have hgd := x1; clear hgd; go_at_call 11; refine (ready9_any _ _ _ _ _ _ H1 _ x1.holds (hh.mono hle)).mono ?_; rintro e w2 ⟨rfl, hb2⟩; rw [hr]; have x2 := x1.step (hb2.mono x1.below.size) (x1.holds.below hb2); have hw2 := x2.holds)
        | (have hgd := hw; clear hgd; refine wpList_boxF rfl _ rfl (Ext.refl hw) ?_; intro B w1 H1 hle hx hB hBw; obtain ⟨hc0, hc1, hc2, hc3, hc4, hc5⟩ := cellsHal hB; clear hB hw; have hw1 := hx.holds; have x1 := hx))
      go_ret
      exact ⟨rfl, x4.below⟩
    · have a1 := within_iff.1 m1
      obtain ⟨p, rfl⟩ : ∃ p : Nat, p0 = (p : Int) := ⟨p0.toNat, by omega⟩
      have hel : p < h.ed.length := by omega
      obtain ⟨l, hl⟩ := At.mk hel
      have hgl0 : h.ed.getD p [] = l := by rw [List.getD_eq_getElem?_getD, show h.ed[p]? = some l from hl]; rfl
      obtain ⟨eb, eo, ec, ul, hev, hul, hrl⟩ := hh.ed.list hl
      cases hev
      obtain ⟨al, cl, rfl, hl1, hl2⟩ := hul.form
      have e1 : (0 : Int) ≤ (p : Int) := by omega
      have e2 : (p : Int) < (h.ed.length : Int) := by omega
      cases m2 : within q0 0 ((l.length : Int) - 1)
      · go_enter Try.func5, Try.ntmps5
        go_wp2_with (first
          | (have hgd := x4; clear hgd; go_at_call 13; refine (works9_any H1 _ x4.holds).mono ?_; rintro e w5 ⟨rfl, hb5⟩; have x5 := x4.step (hb5.mono x4.below.size) (x4.holds.below hb5); have hw5 := x5.holds)
          | (have hgd := x3; clear hgd; go_at_call 27; refine (within_any _ _ _ _).mono ?_; rintro e w4 ⟨rfl, rfl⟩; rw [m2]; have x4 := x3; have hw4 := x4.holds)
          | (have hgd := x2; clear hgd; go_at_call 27; refine (within_any _ _ _ _).mono ?_; rintro e w3 ⟨rfl, rfl⟩; rw [m1]; have x3 := x2; have hw3 := x3.holds)
          | (have hgd := x1; clear hgd; go_at_call 11; refine (ready9_any _ _ _ _ _ _ H1 _ x1.holds (hh.mono hle)).mono ?_; rintro e w2 ⟨rfl, hb2⟩; rw [hr]; have x2 := x1.step (hb2.mono x1.below.size) (x1.holds.below hb2); have hw2 := x2.holds)
          | (have hgd := hw; clear hgd; refine wpList_boxF rfl _ rfl (Ext.refl hw) ?_; intro B w1 H1 hle hx hB hBw; obtain ⟨hc0, hc1, hc2, hc3, hc4, hc5⟩ := cellsHal hB; clear hB hw; have hw1 := hx.holds; have x1 := hx; replace hrl := lift hle hrl))
        go_ret
        exact ⟨rfl, x5.below⟩
      · obtain ⟨hsz, hs2⟩ := ed_small hv
        have a2 := within_iff.1 m2
        obtain ⟨q, rfl⟩ : ∃ q : Nat, q0 = (q : Int) := ⟨q0.toNat, by omega⟩
        have hql : q < l.length := by omega
        obtain ⟨x, hx0⟩ := At.mk hql
        obtain ⟨lb, lo, lc, hev, _, _⟩ := hul.int hx0
        cases hev
        have hll : l.length ≤ 1000000 := hs2 l hl.mem
        obtain ⟨hjj, hm1, hm2⟩ := pageless_fewer hv p q
        have hvp := pageless_valid hv p q
        have hn1 := fewest_num hv
        have hn2 := fewest_num hvp
        have hpl : ({ h with ed := h.ed.set p ((([] : List Int) ++ l.take q) ++ l.drop (q + 1)) } : Hall) = pageless h p q := by
          unfold pageless; rw [hgl0, List.nil_append, List.eraseIdx_eq_take_drop_succ]
        obtain ⟨NV, hNV⟩ : ∃ N, numC h zero12 = N := ⟨_, rfl⟩
        obtain ⟨MV, hMV⟩ : ∃ N, numC (pageless h p q) zero12 = N := ⟨_, rfl⟩
        have hcase : (NV = 10000 ∧ MV = 10000) ∨ (NV < 10000 ∧ MV < 10000 ∧ MV ≤ NV ∧ NV - (h.hs.ms.length : Int) ≤ MV) := by
          rw [hNV, hMV] at hm1 hm2
          rw [hNV] at hn1
          rw [hMV] at hn2
          rcases hn1 with ⟨g1, g2, g3, g4⟩ | ⟨g1, g2, g3, g4, g5⟩
          · rcases hn2 with ⟨k1, k2, k3, k4⟩ | ⟨k1, k2, k3, k4, k5⟩
            · exact .inl ⟨g4, k4⟩
            · exact absurd (hjj.1 g1) k1
          · rcases hn2 with ⟨k1, k2, k3, k4⟩ | ⟨k1, k2, k3, k4, k5⟩
            · exact absurd (hjj.2 k1) g1
            · have := hm2 g1
              exact .inr ⟨by omega, by omega, hm1, by omega⟩
        have hmb : 0 ≤ MV ∧ MV ≤ 10000 ∧ 0 ≤ NV ∧ NV ≤ 10000 := by
          rw [hNV] at hn1
          rw [hMV] at hn2
          rcases hn1 with ⟨g1, g2, g3, g4⟩ | ⟨g1, g2, g3, g4, g5⟩ <;> rcases hn2 with ⟨k1, k2, k3, k4⟩ | ⟨k1, k2, k3, k4, k5⟩ <;> omega
        have hm3 := hv.hs.m3
        clear hjj hm1 hm2 hn1 hn2
        replace hcase := Lib.hid hcase
        have e3 : (0 : Int) ≤ (q : Int) := by omega
        have e4 : (q : Int) < (l.length : Int) := by omega
        obtain ⟨am, cm, rfl, hvm1, hvm2⟩ := hh.hs.m.form
        have hqc : q ≤ cl := by omega
        have hqc1 : q + 1 ≤ cl := by omega
        have hqc2 : (0 : Int) ≤ (q : Int) + 1 := by omega
        have hqc3 : (q : Int) + 1 ≤ (l.length : Int) := by omega
        have hwrp : IntKind.i64.wrap ((q : Int) + 1) = (q : Int) + 1 := by rw [IntKind.wrap_i64]; omega
        obtain ⟨ao, co, rfl, ho1, ho2⟩ := hh.bo.form
        go_enter Try.func5, Try.ntmps5
        go_upto_region 4 with (first
          | (have hgd := x4; clear hgd; go_at_call 23; refine (copy9_any _ _ _ _ _ h H1 _ x4.holds (hh.mono hle) hsz hs2).mono ?_; rintro e w5 ⟨um, ub, ut, uo, ue, H5, rfl, x5, K⟩; obtain ⟨aM, cM, rfl, _, _⟩ := K.m.form; obtain ⟨aB, cB, rfl, _, _⟩ := K.b.form; obtain ⟨aT, cT, rfl, _, _⟩ := K.t.form; obtain ⟨aO, cO, rfl, _, _⟩ := K.o.form; obtain ⟨aE, cE, rfl, _, _⟩ := K.e.form)
          | (have hgd := x3; clear hgd; go_at_call 27; refine (within_any _ _ _ _).mono ?_; rintro e w4 ⟨rfl, rfl⟩; rw [m2]; have x4 := x3; have hw4 := x4.holds)
          | (have hgd := x2; clear hgd; go_at_call 27; refine (within_any _ _ _ _).mono ?_; rintro e w3 ⟨rfl, rfl⟩; rw [m1]; have x3 := x2; have hw3 := x3.holds)
          | (have hgd := x1; clear hgd; go_at_call 11; refine (ready9_any _ _ _ _ _ _ H1 _ x1.holds (hh.mono hle)).mono ?_; rintro e w2 ⟨rfl, hb2⟩; rw [hr]; have x2 := x1.step (hb2.mono x1.below.size) (x1.holds.below hb2); have hw2 := x2.holds)
          | (have hgd := hw; clear hgd; refine wpList_boxF rfl _ rfl (Ext.refl hw) ?_; intro B w1 H1 hle hx hB hBw; obtain ⟨hc0, hc1, hc2, hc3, hc4, hc5⟩ := cellsHal hB; clear hB hw; have hw1 := hx.holds; have x1 := hx; replace hrl := lift hle hrl))
        have l5 := x5.le x4.holds
        have hb6 := KBox.make K x5.holds x5.below.size
        have x6 := (x4.trans x5).alloc (.cells #[.slice aM h.hs.ms.length cM, .slice aB h.hs.bs.length cB, .slice aT h.hs.ts.length cT, .int .i64 h.hs.ch, .slice aO h.bo.length cO, .slice aE h.ed.length cE] 29)
        have hwb : w.heap.size ≤ w2.heap.size := x4.below.size
        have hh5 := (hh.mono hle).mono l5
        generalize w5.alloc (.cells #[.slice aM h.hs.ms.length cM, .slice aB h.hs.bs.length cB, .slice aT h.hs.ts.length cT, .int .i64 h.hs.ch, .slice aO h.bo.length cO, .slice aE h.ed.length cE] 29) = w6 at *
        generalize w5.heap.size = C at *
        clear K
        replace hc0 := lift l5 hc0
        replace hc1 := lift l5 hc1
        replace hc2 := lift l5 hc2
        replace hc3 := lift l5 hc3
        replace hc4 := lift l5 hc4
        replace hc5 := lift l5 hc5
        replace hrl := lift l5 hrl
        have hul5 := (hul.mono hle).mono l5
        have hst := hul5.take (k := q) (by omega)
        have hsd := hul5.from (k := q + 1) (by omega) rfl
        have hw6 := x6.holds
        obtain ⟨g, cg, heg, _, _, _, _, _, _, _⟩ := hb6.setE hel
        cases heg
        obtain ⟨c0, c1, c2, c3, c4, c5⟩ := hb6.cells
        clear x5
        go_upto_region 5 with fail
        go_cut [8] (fun _ wc => ∃ H7, SLe H5 H7 ∧ Ext w H wc H7 ∧ KBox H7 w2.heap.size wc C (.slice aM h.hs.ms.length cM) (.slice aB h.hs.bs.length cB) (.slice aT h.hs.ts.length cT) (.slice aO h.bo.length cO) (.slice (some ⟨g, 0, none⟩) h.ed.length cE) (pageless h p q))
        case first =>
            refine wp_region_held_drew (S := (fun w' => Holds H5 w' ∧ w'.cell? ⟨C, 5, none⟩ = some (.slice (some ⟨g, 0, none⟩) h.ed.length cE))) (by kernel_rfl) ?_ (fun hHeld0 => ?_)
            · (try dsimp only)
              exact ⟨hw6.drew, c5⟩
            refine wpAnyH_take (i := 0) (oi := ?oi1) (v := ?v1) ?hi1 (by kernel_rfl) (by kernel_rfl) (by kernel_rfl) ?hq1 ?hy1 (by assumption) ?rest1
            case hi1 => simp only [List.getElem?_toArray, List.getElem?_cons_zero] <;> rfl
            case hq1 => exact fun _ _ _ h => h
            case hy1 =>
              refine Or.inl ⟨by rfl, ?_⟩
              intro w hSw
              (try dsimp only at hSw)
              go_simp
              (try (with_reducible rfl))
            (try simp only [Act.put, List.setIfInBounds_toArray, List.set_cons_zero, List.set_cons_succ])
            refine wpAnyH_take (i := 1) (oi := ?oi2) (v := ?v2) ?hi2 (by kernel_rfl) (by kernel_rfl) (by kernel_rfl) ?hq2 ?hy2 (by assumption) ?rest2
            case hi2 => simp only [List.getElem?_toArray, List.getElem?_cons_succ, List.getElem?_cons_zero] <;> rfl
            case hq2 => exact fun _ _ _ h => h
            case hy2 =>
              refine Or.inl ⟨by rfl, ?_⟩
              intro w hSw
              (try dsimp only at hSw)
              go_simp
              (try (with_reducible rfl))
            (try simp only [Act.put, List.setIfInBounds_toArray, List.set_cons_zero, List.set_cons_succ])
            refine wpAnyH_take (i := 2) (oi := ?oi3) (v := ?v3) ?hi3 (by kernel_rfl) (by kernel_rfl) (by kernel_rfl) ?hq3 ?hy3 (by assumption) ?rest3
            case hi3 => simp only [List.getElem?_toArray, List.getElem?_cons_succ, List.getElem?_cons_zero] <;> rfl
            case hq3 => exact fun _ _ _ h => h
            case hy3 =>
              refine Or.inl ⟨by rfl, ?_⟩
              intro w hSw
              (try dsimp only at hSw)
              go_simp
              (try (with_reducible rfl))
            (try simp only [Act.put, List.setIfInBounds_toArray, List.set_cons_zero, List.set_cons_succ])
            refine wpAnyH_take (i := 4) (oi := ?oi4) (v := ?v4) ?hi4 (by kernel_rfl) (by kernel_rfl) (by kernel_rfl) ?hq4 ?hy4 (by assumption) ?rest4
            case hi4 => simp only [List.getElem?_toArray, List.getElem?_cons_succ, List.getElem?_cons_zero] <;> rfl
            case hq4 => exact fun _ _ _ h => h
            case hy4 =>
              refine Or.inl ⟨by rfl, ?_⟩
              intro w hSw
              (try dsimp only at hSw)
              go_simp
              (try (with_reducible rfl))
            (try simp only [Act.put, List.setIfInBounds_toArray, List.set_cons_zero, List.set_cons_succ])
            refine wpAnyH_take (i := 5) (oi := ?oi5) (v := ?v5) ?hi5 (by kernel_rfl) (by kernel_rfl) (by kernel_rfl) ?hq5 ?hy5 (by assumption) ?rest5
            case hi5 => simp only [List.getElem?_toArray, List.getElem?_cons_succ, List.getElem?_cons_zero] <;> rfl
            case hq5 => exact fun _ _ _ h => h
            case hy5 =>
              refine Or.inl ⟨by rfl, ?_⟩
              intro w hSw
              (try dsimp only at hSw)
              go_simp
              (try (with_reducible rfl))
            (try simp only [Act.put, List.setIfInBounds_toArray, List.set_cons_zero, List.set_cons_succ])
            refine wpAnyH_take (i := 6) (oi := ?oi6) (v := ?v6) ?hi6 (by kernel_rfl) (by kernel_rfl) (by kernel_rfl) ?hq6 ?hy6 (by assumption) ?rest6
            case hi6 => simp only [List.getElem?_toArray, List.getElem?_cons_succ, List.getElem?_cons_zero] <;> rfl
            case hq6 => exact fun _ _ _ h => h
            case hy6 =>
              refine Or.inl ⟨by rfl, ?_⟩
              intro w hSw
              (try dsimp only at hSw)
              go_simp
              (try (with_reducible rfl))
            (try simp only [Act.put, List.setIfInBounds_toArray, List.set_cons_zero, List.set_cons_succ])
            refine wpAnyH_take (i := 8) (oi := ?oi7) (v := ?v7) ?hi7 (by kernel_rfl) (by kernel_rfl) (by kernel_rfl) ?hq7 ?hy7 (by assumption) ?rest7
            case hi7 => simp only [List.getElem?_toArray, List.getElem?_cons_succ, List.getElem?_cons_zero] <;> rfl
            case hq7 => exact fun _ _ _ h => h
            case hy7 =>
              refine Or.inl ⟨by rfl, ?_⟩
              intro w hSw
              (try dsimp only at hSw)
              go_simp
              (try (with_reducible rfl))
            (try simp only [Act.put, List.setIfInBounds_toArray, List.set_cons_zero, List.set_cons_succ])
            refine wpAnyH_take (i := 9) (oi := ?oi8) (v := ?v8) ?hi8 (by kernel_rfl) (by kernel_rfl) (by kernel_rfl) ?hq8 ?hy8 (by assumption) ?rest8
            case hi8 => simp only [List.getElem?_toArray, List.getElem?_cons_succ, List.getElem?_cons_zero] <;> rfl
            case hq8 => exact fun _ _ _ h => h
            case hy8 =>
              refine Or.inl ⟨by rfl, ?_⟩
              intro w hSw
              (try dsimp only at hSw)
              go_simp
              (try (with_reducible rfl))
            (try simp only [Act.put, List.setIfInBounds_toArray, List.set_cons_zero, List.set_cons_succ])
            refine wpAnyH_take (i := 10) (oi := ?oi9) (v := ?v9) ?hi9 (by kernel_rfl) (by kernel_rfl) (by kernel_rfl) ?hq9 ?hy9 (by assumption) ?rest9
            case hi9 => simp only [List.getElem?_toArray, List.getElem?_cons_succ, List.getElem?_cons_zero] <;> rfl
            case hq9 => exact fun _ _ _ h => h
            case hy9 =>
              refine Or.inl ⟨by rfl, ?_⟩
              intro w hSw
              (try dsimp only at hSw)
              go_simp
              (try (with_reducible rfl))
            (try simp only [Act.put, List.setIfInBounds_toArray, List.set_cons_zero, List.set_cons_succ])
            refine wpAnyH_take (i := 11) (oi := ?oi10) (v := ?v10) ?hi10 (by kernel_rfl) (by kernel_rfl) (by kernel_rfl) ?hq10 ?hy10 (by assumption) ?rest10
            case hi10 => simp only [List.getElem?_toArray, List.getElem?_cons_succ, List.getElem?_cons_zero] <;> rfl
            case hq10 => exact fun _ _ _ h => h
            case hy10 =>
              refine Or.inl ⟨by rfl, ?_⟩
              intro w hSw
              (try dsimp only at hSw)
              go_simp
              (try (with_reducible rfl))
            (try simp only [Act.put, List.setIfInBounds_toArray, List.set_cons_zero, List.set_cons_succ])
            refine wpAnyH_ready (rs := [3]) (by kernel_rfl) (by simp) ?_
            refine AllReadyH.cons (o := ?o11) ?ho11 (fun K hK => ?step11) ?more11
            case ho11 => simp only [List.getElem?_toArray, List.getElem?_cons_succ, List.getElem?_cons_zero] <;> rfl
            case step11 =>
              go_simp
              have z7 : Ext w6 H5 (w6.drew.alloc (.cells #[] 3)) H5 := ((Ext.refl hw6).drew).alloc _
              have o7 : Own H5 w6.heap.size (w6.drew.alloc (.cells #[] 3)) 3 (.slice (some ⟨w6.heap.size, 0, none⟩) 0 0) ([] : List Int) := Own.empty H5 hw6.drew (Nat.le_refl _) 3
              refine hK.out _ _ ?_ (fun hHeld1 => ?_)
              · (try dsimp only)
                exact ⟨z7.holds, (hb6.ext hw6 z7).cells.2.2.2.2.2⟩
              clear hK K
              (try clear hHeld0)
              (try simp only [Act.put, List.setIfInBounds_toArray, List.set_cons_zero, List.set_cons_succ])
              refine wpAnyH_ready (rs := [7]) (by kernel_rfl) (by simp) ?_
              refine AllReadyH.cons (o := ?o12) ?ho12 (fun K hK => ?step12) ?more12
              case ho12 => simp only [List.getElem?_toArray, List.getElem?_cons_succ, List.getElem?_cons_zero] <;> rfl
              case step12 =>
                refine step_appX (w0 := w6) (H0 := H5) eInt rfl _ _ rfl z7 rfl o7 rfl hst (by simp [Enc.by_]; omega) (by simp; omega) ?_
                intro v8 w8 o8 z8 hh8 g8
                refine hK.out _ _ ?_ (fun hHeld2 => ?_)
                · (try dsimp only)
                  exact ⟨hh8, (hb6.ext hw6 z8).cells.2.2.2.2.2⟩
                clear hK K
                (try clear hHeld1)
                (try simp only [Act.put, List.setIfInBounds_toArray, List.set_cons_zero, List.set_cons_succ])
                refine wpAnyH_ready (rs := [12]) (by kernel_rfl) (by simp) ?_
                refine AllReadyH.cons (o := ?o13) ?ho13 (fun K hK => ?step13) ?more13
                case ho13 => simp only [List.getElem?_toArray, List.getElem?_cons_succ, List.getElem?_cons_zero] <;> rfl
                case step13 =>
                  refine step_appX (w0 := w6) (H0 := H5) eInt rfl _ _ rfl z8 rfl o8 rfl hsd (by simp [Enc.by_]; omega) (by simp; omega) ?_
                  intro v9 w9 o9 z9 hh9 g9
                  obtain ⟨a9, k9, e9, _, _⟩ := o9.form
                  generalize (([] : List Int) ++ l.take q ++ l.drop (q + 1)).length = n9 at e9
                  subst e9
                  have kb9' := hb6.ext hw6 z9
                  obtain ⟨g2, cg2, heg2, ⟨u9, hcl9⟩, hfz9, hgb9, hgH9, hgl9, hgC9, _⟩ := kb9'.setE hel
                  cases heg2
                  refine hK.out _ _ ?_ (fun hHeld3 => ?_)
                  · (try dsimp only)
                    exact ⟨hh9, kb9'.cells.2.2.2.2.2⟩
                  clear hK K
                  (try clear hHeld2)
                  (try simp only [Act.put, List.setIfInBounds_toArray, List.set_cons_zero, List.set_cons_succ])
                  refine wpAnyH_take (i := 13) (oi := ?oi14) (v := ?v14) ?hi14 (by kernel_rfl) (by kernel_rfl) (by kernel_rfl) ?hq14 ?hy14 (by assumption) ?rest14
                  case hi14 => simp only [List.getElem?_toArray, List.getElem?_cons_succ, List.getElem?_cons_zero] <;> rfl
                  case hq14 => exact fun _ _ _ h => h
                  case hy14 =>
                    refine Or.inl ⟨by rfl, ?_⟩
                    intro w hSw
                    (try dsimp only at hSw)
                    go_simp
                    (try (with_reducible rfl))
                  (try simp only [Act.put, List.setIfInBounds_toArray, List.set_cons_zero, List.set_cons_succ])
                  refine wpAnyH_ready (rs := [14]) (by kernel_rfl) (by simp) ?_
                  refine AllReadyH.cons (o := ?o15) ?ho15 (fun K hK => ?step15) ?more15
                  case ho15 => simp only [List.getElem?_toArray, List.getElem?_cons_succ, List.getElem?_cons_zero] <;> rfl
                  case step15 =>
                    go_simp
                    obtain ⟨H7, z9', l7, s9, hs9⟩ := o9.close z9
                    have kb9 := hb6.ext hw6 z9'
                    obtain ⟨g3, cg3, heg3, _, _, hgb3, hgH3, hgl3, hgC3, hset3⟩ := kb9.setE hel
                    cases heg3
                    have kb10 := hset3 _ _ s9
                    rw [hpl] at kb10
                    have x10 := (x6.trans z9').setCell (a := ⟨g, p, none⟩) (Nat.le_trans hwb hgb3) hgH3 (.slice a9 n9 k9)
                    refine hK.out _ _ ?_ (fun hHeld4 => ?_)
                    · (try dsimp only)
                      exact ⟨x10.holds.mono l7, kb10.cells.2.2.2.2.2⟩
                    clear hK K
                    (try clear hHeld3)
                    (try simp only [Act.put, List.setIfInBounds_toArray, List.set_cons_zero, List.set_cons_succ])
                    refine wpAnyH_done (by kernel_rfl) ?_ _
                    go_wp2_with fail
                    all_goals
                      go_meet
                      exact ⟨H7, l7, x10, kb10⟩
                  exact AllReadyH.nil
                exact AllReadyH.nil
              exact AllReadyH.nil
            exact AllReadyH.nil
        case rest =>
          obtain ⟨H7, l7, x7, kb7⟩ := hcut
          clear hb6 x6 c0 c1 c2 c3 c4 c5 hw6 hst hsd
          obtain ⟨H8, x8, l8, hho, hC8⟩ := (kb7.weaken hwb).closeC x7
          obtain ⟨hd0, hd1, hd2, hd3, hd4, hd5⟩ := cellsHal (h := pageless h p q) hC8
          have l78 := l7.trans l8
          have hh8 := hh5.mono l78
          have hw8 := x8.holds
          replace hc0 := lift l78 hc0
          replace hc1 := lift l78 hc1
          replace hc2 := lift l78 hc2
          replace hc3 := lift l78 hc3
          replace hc4 := lift l78 hc4
          replace hc5 := lift l78 hc5
          clear kb7 x7
          go_upto_region 8 with (first
            | (have hgd := x9; clear hgd; go_at_call 14; refine (fewestL9_any _ _ _ _ _ _ hvp H8 _ x9.holds hho).mono ?_; rintro e w10 ⟨rfl, hb10⟩; rw [hMV]; have x10 := x9.step (hb10.mono x9.below.size) (x9.holds.below hb10); have hw10 := x10.holds)
            | (have hgd := x8; clear hgd; go_at_call 14; refine (fewestL9_any _ _ _ _ _ _ hv H8 _ x8.holds hh8).mono ?_; rintro e w9 ⟨rfl, hb9⟩; rw [hNV]; have x9 := x8.step (hb9.mono x8.below.size) (x8.holds.below hb9); have hw9 := x9.holds))
          rcases hcase.out with ⟨rfl, rfl⟩ | ⟨b1, b2, b3, b4⟩
          · go_wp2_with (first | (go_at_call 13; refine (works9_any H8 _ hw10).mono ?_; rintro e w11 ⟨rfl, hb11⟩))
            go_ret
            exact ⟨rfl, x10.below.trans (hb11.mono x10.below.size)⟩
          · have hn1 : (NV == 10000) = false := by rw [beq_eq_false_iff_ne]; omega
            have hn2 : (MV == 10000) = false := by rw [beq_eq_false_iff_ne]; omega
            go_wp2_with (first | (go_at_call 13; refine (works9_any H8 _ hw10).mono ?_; rintro e w11 ⟨rfl, hb11⟩))
            go_ret
            exact ⟨rfl, x10.below.trans (hb11.mono x10.below.size)⟩

end Go.Proofs.Ytngdppajailpcaa

namespace Go.Proofs.Ytngdppajailpcaa
open Go.ChangeShapes Go.WideShapes Go.ChangeAt Go.RowKit

theorem machinesPages_own : ownKnob Try.prog.godebug = none := by kernel_rfl
theorem machinesPages_laid : laidOutB Try.prog = true := by kernel_rfl

set_option maxHeartbeats 1600000 in
set_option maxRecDepth 100000 in
theorem machinesPages_lifted (os : Os) (started : os.Started) (H : Type) (enc : TypeId × Value → H) :
    ReturnsInHanded {} Try.checked os 5 .any (Rows.machinesPagesSpec.pre6 enc Try.prog Try.f5 Rows.machinesPagesRow.domain false) (Rows.machinesPagesSpec.post enc Try.prog Try.f5 false true false false) := by
  refine returnsInHanded_of_change_sized (C := Try.checked) machinesPages_own started (by kernel_rfl) Try.func5
    (ChangeSpec.witness6 (enc := enc) (C := Try.checked) false ⟨#[], #[.agg #[.slice none 0 0, .slice none 0 0, .slice none 0 0, .int .i64 0, .slice none 0 0, .slice none 0 0], .int .i64 0, .int .i64 0], []⟩ 8 (by kernel_rfl) (by kernel_rfl) (by kernel_rfl) (by kernel_rfl)) ?_
  intro W base args ds gs before hval0 hW _ hsz _
  have hval : ∀ (j : Nat) t v, Try.f5.params[j]? = some t → args[j]? = some v → Value.okWide Try.prog W .any base t v := hval0
  have hW' := hW
  obtain ⟨p, q, hA0, hV, rfl, _, _⟩ := hW
  have hA : DataW.TrodAll enc Try.prog W 0 (fun _ => true) true Try.f5.params.toList args.toList ds p := hA0
  have hS : (DataW.weightsEach Try.prog (Try.f5.params.toList ++ []) (ds ++ gs)).all (· ≤ reachBytes) = true := hsz
  rw [Try.params5] at hA hval hS
  obtain ⟨v0, vs0, d0, ds0, p0, q0, hargs, rfl, rfl, h0, r0⟩ := trodAll_cons hA
  obtain ⟨v1, vs1, d1, ds1, p1, q1, rfl, rfl, rfl, h1, r1⟩ := trodAll_cons r0
  obtain ⟨v2, vs2, d2, ds2, p2, q2, rfl, rfl, rfl, h2, r2⟩ := trodAll_cons r1
  obtain ⟨rfl, rfl, rfl⟩ := trodAll_nil r2
  obtain rfl : args = #[v0, v1, v2] := by cases args; simp_all
  obtain ⟨rfl, rfl⟩ := trodVars_none hV
  clear hA0 hval0 hsz
  simp only [List.append_nil] at hW' hS
  have hlt : ∀ x ∈ p0 ++ (p1 ++ p2), x.block < W.heap.size := fun x hx => by simpa using hW'.lt x hx
  have harg0 : ∀ W', Below W.heap.size W W' → DataW.Trod enc Try.prog W' 0 (fun b => decide (b < W.heap.size)) true 29 v0 d0 p0 := fun W' hb =>
    Below.trod machinesPages_laid (by kernel_rfl) (of_decide_eq_true (by kernel_rfl)) h0 hb (fun x hx => hlt x (List.mem_append.2 (.inl hx)))
  have hw0 : ∀ k ∈ d0.weights Try.prog 29, k ≤ reachBytes := fun k hk => by
    simpa using List.all_eq_true.1 hS k (DataW.weights_mem_each (j := 0) rfl rfl k hk)
  obtain ⟨vm, vb, vt, vo, ve, hs, rfl, hh⟩ := hall_opened (hval 0 29 v0 rfl rfl) h0 hw0
  obtain ⟨z1, rfl, rfl, rfl, wz1⟩ := open_int Try.underlying3 (hval 1 3 v1 rfl rfl) h1
  have hz1 := i64_of_wf wz1
  obtain ⟨z2, rfl, rfl, rfl, wz2⟩ := open_int Try.underlying3 (hval 2 3 v2 rfl rfl) h2
  have hz2 := i64_of_wf wz2
  refine (machinesPages_any vm vb vt vo ve hs z1 z2 (snapOf W) W (snapOf_holds W) hh hz1 hz2).mono fun e W' ⟨he, hb⟩ => ?_
  subst he
  refine ⟨_, rfl, _, _, _, [], _, [], hW', ?_, trodAll_cons_mk (harg0 W' hb) (trodAll_cons_mk (shut_int Try.underlying3 wz1) (trodAll_cons_mk (shut_int Try.underlying3 wz2) trodAll_mk0)), rfl, hb.frame _, fun h => by cases h⟩
  exact trodAll_mk1 (shut_bool Try.underlying4 _)

theorem machinesPages_said : Rows.MachinesPagesSaid :=
  OpenClaim.holds_of_wide 5 Try.f5 rfl rfl rfl rfl rfl rfl rfl ⟨rfl, rfl, rfl, rfl, rfl⟩ rfl rfl rfl rfl rfl (by kernel_rfl) Try.func5 (by kernel_rfl)
    (of_decide_eq_true (by kernel_rfl)) (by unfold Func.isWrapper; first | (rw [if_pos (by decide +kernel)]; kernel_rfl) | (rw [if_neg (by decide +kernel)]; exact ⟨rfl, rfl⟩))
    (fun os started H enc _ => machinesPages_lifted os started H enc)

end Go.Proofs.Ytngdppajailpcaa
