/- Elements of three cells written in place, in a slice of the call's own. It speaks of no program. The walk of flonglaw04.Same at equal houses; a copied house or plan as a house or plan like any other. -/
import Derived.Test.YteijmboophnmgaaData
import Derived.Test.YteijmboophnmgaaBase
import Derived.Test.YteijmboophnmgaaCopy2
import Derived.Test.YteijmboophnmgaaRef4a

namespace Go.Proofs.Yteijmboophnmgaa
open Go.RowKit

theorem reps_set3 {α : Type} [Enc α] (h3 : Enc.sz α = 3) {H : Snap} {y : α} {a b c : Value} (hy : Enc.rep H y [a, b, c]) : ∀ {xs : List α} {cs : List Value} {k : Nat}, reps H xs cs → k < xs.length →
    reps H (xs.set k y) (((cs.set (k * 3) a).set (k * 3 + 1) b).set (k * 3 + 2) c)
  | [], _, _, _, hk => by simp at hk
  | x :: xs, cs, k, ⟨c1, c2, e, h1, h2⟩, hk => by
    have hl := Enc.len h1
    rw [h3] at hl
    match c1, hl with
    | [p, q, r], _ =>
      subst e
      cases k with
      | zero => exact ⟨[a, b, c], c2, rfl, hy, h2⟩
      | succ k =>
        have hi := reps_set3 h3 hy h2 (k := k) (by simpa using hk)
        rw [show (k + 1) * 3 = k * 3 + 3 by omega]
        exact ⟨[p, q, r], _, rfl, h1, hi⟩

/-- The element at a place of a slice of the call's own: where it lies, and what is left if another one is written there. -/
theorem Own.at3 {α : Type} [Enc α] (h3 : Enc.sz α = 3) {H : Snap} {base : Nat} {w : World} {e : TypeId} {v : Value} {xs : List α} {k : Nat} (h : Own H base w e v xs) (hk : k < xs.length) :
    ∃ g c, v = .slice (some ⟨g, 0, none⟩) xs.length c ∧ base ≤ g ∧ H g = none ∧ g < w.heap.size ∧ (∃ cur : Array Value, w.heap[g]? = some (.cells cur e (0, 0)) ∧ xs.length * 3 ≤ cur.size) ∧
      ∀ (y : α) (p q r : Value), Enc.rep H y [p, q, r] → Own H base (((w.setCell ⟨g, k * 3, none⟩ p).setCell ⟨g, k * 3 + 1, none⟩ q).setCell ⟨g, k * 3 + 2, none⟩ r) e v (xs.set k y) := by
  obtain ⟨cells, ⟨hl, ho⟩, hr, hf, hb⟩ := h
  rcases ho with ⟨rfl, hn⟩ | ⟨g, cap, cur, rfl, hbg, hg, hnc, hcm, hcs, htake⟩
  · omega
  · rw [h3] at hl hcs htake
    have hle : xs.length * 3 ≤ cur.size := by rw [hcs]; exact Nat.mul_le_mul_right _ hnc
    refine ⟨g, cap, rfl, hbg, hf g rfl, (Array.getElem?_eq_some_iff.1 hg).1, ⟨cur, hg, hle⟩, fun y p q r hy => ?_⟩
    refine ⟨_, ⟨?_, .inr ⟨g, cap, ((cur.setIfInBounds (k * 3) p).setIfInBounds (k * 3 + 1) q).setIfInBounds (k * 3 + 2) r, by rw [List.length_set], hbg, heap_setCell_row (heap_setCell_row (heap_setCell_row hg _) _) _, by rw [List.length_set]; exact hnc, hcm, by simp [h3, hcs], ?_⟩⟩, reps_set3 h3 hy hr hk, hf, by rw [List.length_set]; exact hb⟩
    · simp [h3, hl]
    · rw [List.length_set, h3]
      simp only [Array.toList_setIfInBounds]
      rw [List.take_set, List.take_set, List.take_set, htake]

theorem Rdy.other {rb : Nat} {t : TypeId} {w : World} (h : Rdy rb t w) {a : Addr} (ha : a.block ≠ rb) (v : Value) : Rdy rb t (w.setCell a v) := by
  obtain ⟨x, y, z, u, e⟩ := h
  refine ⟨x, y, z, u, ?_⟩
  show (w.heap.modify a.block _)[rb]? = _
  rw [Array.getElem?_modify, if_neg ha]
  exact e

theorem results_cell_row2 {P : Program} {fn : Func} {p q : Tmp} {ty tz : TypeId} (h : fn.results = #[.cell p ty, .cell q tz]) (tmps : Array Value) (w : World) (g k : Nat) (t u : TypeId) (cs ds : Array Value) (fr gr : Nat × Nat) (d e : TypeDesc)
    (hp : tmps.getD p undef = .pointer (some ⟨g, 0, none⟩)) (hq : tmps.getD q undef = .pointer (some ⟨k, 0, none⟩)) (hg : w.heap[g]? = some (.cells cs t fr)) (hk : w.heap[k]? = some (.cells ds u gr))
    (hu : P.underlying ty = some d) (hd : (match d with | .struct _ | .array _ _ => true | _ => false) = true) (hi : (P.info? ty).map (·.size) = some cs.size)
    (hu' : P.underlying tz = some e) (hd' : (match e with | .struct _ | .array _ _ => true | _ => false) = true) (hi' : (P.info? tz).map (·.size) = some ds.size) :
    (results fn tmps).run P w = .ok (.tuple #[.agg cs, .agg ds]) w := by
  have hp' : tmps[p]?.getD undef = .pointer (some ⟨g, 0, none⟩) := by simpa using hp
  have hq' : tmps[q]?.getD undef = .pointer (some ⟨k, 0, none⟩) := by simpa using hq
  simp [results, h, hp', hq', asAddr, Sem.run_bind, run_loadVar_row w g t ty cs fr d hg hu hd hi, run_loadVar_row w k u tz ds gr e hk hu' hd' hi']

theorem Own.snapS {α : Type} [Enc α] {H H' : Snap} {base : Nat} {w : World} {e : TypeId} {v : Value} {xs : List α} (h : Own H base w e v xs) (k : SLe H H') (hf : ∀ b, v.ownBlock = some b → H' b = none) : Own H' base w e v xs := by
  obtain ⟨cells, ho, hr, _, hb⟩ := h
  exact ⟨cells, ho, hr.mono k, hf, hb⟩
/-- Three slices of the call's own, of three types, are frozen. -/
theorem Own.close3 {α β γ : Type} [Enc α] [Enc β] [Enc γ] {w0 W : World} {H0 H : Snap} {t1 t2 t3 : TypeId} {v1 v2 v3 : Value} {xs : List α} {ys : List β} {zs : List γ} (hx : Ext w0 H0 W H)
    (h1 : Own H w0.heap.size W t1 v1 xs) (h2 : Own H w0.heap.size W t2 v2 ys) (h3 : Own H w0.heap.size W t3 v3 zs) (n12 : t1 ≠ t2) (n13 : t1 ≠ t3) (n23 : t2 ≠ t3) :
    ∃ H', Ext w0 H0 W H' ∧ SLe H H' ∧ Sl H' v1 xs ∧ Sl H' v2 ys ∧ Sl H' v3 zs := by
  obtain ⟨HA, xA, lA, sA, nA⟩ := h1.close hx
  have k2 : Own HA w0.heap.size W t2 v2 ys := h2.snapS lA (fun b hb => by
    rw [nA b (by rcases h1.apart h2 n12 with e | e; · rw [e]; simp
                 · rw [← hb]; exact e)]
    exact h2.free b hb)
  have k3 : Own HA w0.heap.size W t3 v3 zs := h3.snapS lA (fun b hb => by
    rw [nA b (by rcases h1.apart h3 n13 with e | e; · rw [e]; simp
                 · rw [← hb]; exact e)]
    exact h3.free b hb)
  obtain ⟨HB, xB, lB, sB, nB⟩ := k2.close xA
  have m3 : Own HB w0.heap.size W t3 v3 zs := k3.snapS lB (fun b hb => by
    rw [nB b (by rcases h2.apart h3 n23 with e | e; · rw [e]; simp
                 · rw [← hb]; exact e)]
    exact k3.free b hb)
  obtain ⟨HC, xC, lC, sC, _⟩ := m3.close xB
  exact ⟨HC, xC, (lA.trans lB).trans lC, (sA.mono lB).mono lC, sB.mono lC, sC⟩

end Go.Proofs.Yteijmboophnmgaa

namespace Go.Proofs.Yteijmboophnmgaa
open Go.RowKit

attribute [local go_sem] Holds.drew Holds.alloc Holds.drewN WB.holds

theorem copyH_any (vm vb vt : Value) (h : House) (H : Snap) (w : World) (hw : Holds H w) (hh : Hou H vm vb vt h) :
    Calls Try.prog 29 #[houV vm vb vt h] w (Post w H fun v H' => ∃ um ub ut, v = houV um ub ut h ∧ Hou H' um ub ut h) := by
  refine (copy4_any vm vb vt h H w hw hh).mono ?_
  rintro e w' ⟨um, ub, ut, H', rfl, hx, om, ob, ot⟩
  obtain ⟨H2, hx2, _, s1, s2, s3⟩ := Own.close3 hx om ob ot (by decide) (by decide) (by decide)
  exact ⟨_, H2, rfl, hx2, um, ub, ut, rfl, s1, s2, s3, hh.c⟩
theorem copyP_any (vp : Value) (plan : List (List Int)) (H : Snap) (w : World) (hw : Holds H w) (hp : Sl H vp plan) (hsz : plan.length ≤ 1000000) (hs2 : ∀ l ∈ plan, l.length ≤ 1000000) :
    Calls Try.prog 47 #[vp] w (Post w H fun v H' => Sl H' v plan) :=
  (copyPlan4_any vp plan H w hw hp hsz hs2).mono fun _ _ h => h.post

set_option maxRecDepth 100000 in
set_option maxHeartbeats 4000000 in
theorem same_any (um ub ut vm vb vt : Value) (h : House) (H : Snap) (w : World) (hw : Holds H w) (ho : Hou H um ub ut h) (hh : Hou H vm vb vt h) :
    Calls Try.prog 32 #[houV um ub ut h, houV vm vb vt h] w (PostV w (.bool true)) := by
  obtain ⟨am, cm, rfl, hm1, hm2⟩ := hh.m.form
  obtain ⟨ab, cb, rfl, hb1, hb2⟩ := hh.b.form
  obtain ⟨at', ct, rfl, ht1, ht2⟩ := hh.t.form
  obtain ⟨dm, em, rfl, hm3, hm4⟩ := ho.m.form
  obtain ⟨db, eb, rfl, hb3, hb4⟩ := ho.b.form
  obtain ⟨dt, et, rfl, ht3, ht4⟩ := ho.t.form
  have hsame : ∀ (H' : Snap) (w : World), Holds H' w → SLe H H' → Calls Try.prog 36 #[.slice dt h.ts.length et, .slice at' h.ts.length ct] w (PostV w (.bool true)) := fun H' w hw k => by
    have h := sameInts_any _ _ _ _ H' w hw (ho.t.mono k) (hh.t.mono k)
    simpa using h
  replace hsame := Lib.hid hsame
  go_enter Try.func32, Try.ntmps32
  go_wp2_with (first | ((have hgd := hx; refine wpList_boxF rfl _ rfl hx ?_; intro C w2 H2 hle2 hx2 hC hCw; obtain ⟨hd0, hd1, hd2, hd3⟩ := cellsHou hC; replace hc0 := lift hle2 hc0; replace hc1 := lift hle2 hc1; replace hc2 := lift hle2 hc2; replace hc3 := lift hle2 hc3; clear hC hx hw1; have hw2 := hx2.holds; have hl2 := hle.trans hle2)) | (refine wpList_boxF rfl _ rfl (Ext.refl hw) ?_; intro B w1 H1 hle hx hB hBw; obtain ⟨hc0, hc1, hc2, hc3⟩ := cellsHou hB; clear hB hw; have hw1 := hx.holds) | ((go_at_call 36; refine (hsame.out H2 _ hw2 hl2).mono ?_; rintro e w3 ⟨rfl, hb3⟩; have hw3 := hw2.below hb3; have hx3 := hx2.step (hb3.mono hx2.below.size) hw3)))
  have hhm := hh.mono hl2
  have hom := ho.mono hl2
  clear hh ho hgd hw2 hx2 hb3
  go_loopw [5] (fun i wr => ∃ k : Nat, k ≤ h.ms.length ∧ i = .int .i64 k ∧ Ext w H wr H2) (fun i _ => h.ms.length - (intOf i).toNat)
  case atStart => exact ⟨0, Nat.zero_le _, rfl, hx3⟩
  case round =>
    clear hx3 hw3
    obtain ⟨k, hk, rfl, hxr⟩ := hrel
    have hwr := hxr.holds
    by_cases hlk : k < h.ms.length
    · obtain ⟨z, hzk⟩ := At.mk hlk
      obtain ⟨bb, ob', cb', hez, ⟨hy1, hy2, hy3⟩, q0, q1, q2⟩ := hhm.m.mach hzk
      cases hez
      obtain ⟨bo, oo, co, hez, _, p0, p1, p2⟩ := hom.m.mach hzk
      cases hez
      go_upto_region 6 with fail
      refine wp_region_quietB H2 (by kernel_rfl) (by kernel_rfl) hwr (fun hne => ?_)
      repeat go_big_quiet_step ((first | fail))
      refine wpQuiet_nil ?_
      rintro ⟨w2, hw2, hb2⟩
      clear hne
      go_wp2_with fail
      go_roundw
      case rel => exact ⟨k + 1, by omega, by go_num, hxr.step (hb2.mono hxr.below.size) hw2⟩
      case measure => simp [intOf]; omega
    · go_wp2_with fail
      go_loopw [6] (fun i wr => ∃ k : Nat, k ≤ h.bs.length ∧ i = .int .i64 k ∧ Ext w H wr H2) (fun i _ => h.bs.length - (intOf i).toNat)
      case atStart => exact ⟨0, Nat.zero_le _, rfl, hxr⟩
      case round =>
        clear hxr hwr
        obtain ⟨k, hk, rfl, hxr⟩ := hrel
        have hwr := hxr.holds
        by_cases hlk : k < h.bs.length
        · obtain ⟨z, hzk⟩ := At.mk hlk
          obtain ⟨bb, ob', cb', hez, ⟨hy1, hy2, hy3⟩, q0, q1, q2⟩ := hhm.b.bund hzk
          cases hez
          obtain ⟨bo, oo, co, hez, _, p0, p1, p2⟩ := hom.b.bund hzk
          cases hez
          go_upto_region 11 with fail
          refine wp_region_quietB H2 (by kernel_rfl) (by kernel_rfl) hwr (fun hne => ?_)
          repeat go_big_quiet_step ((first | fail))
          refine wpQuiet_nil ?_
          rintro ⟨w2, hw2, hb2⟩
          clear hne
          go_wp2_with fail
          go_roundw
          case rel => exact ⟨k + 1, by omega, by go_num, hxr.step (hb2.mono hxr.below.size) hw2⟩
          case measure => simp [intOf]; omega
        · go_wp2_with fail
          go_ret
          exact ⟨rfl, hxr.below⟩

end Go.Proofs.Yteijmboophnmgaa
