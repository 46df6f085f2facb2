/- The walk of flonglaw04.TrainsEarliest. -/
import Derived.Test.YteijmboophnmgaaHelp
import Derived.Test.YteijmboophnmgaaBehind
import Derived.Test.YteijmboophnmgaaEarlP
import Derived.Test.YteijmboophnmgaaLTold
namespace Go.Proofs.Yteijmboophnmgaa
open Go.RowKit

attribute [local go_sem] Holds.drew Holds.alloc Holds.drewN WB.holds

def mi (o : House) (b : Int) : Int := o.ts.getD (bund o b).t.toNat 0
/-- The bundles chosen so far. -/
structure Part (o : House) (L : List Int) : Prop where
  good : goodAll o.bs.length L = true
  sorted : ∀ i j x y, i ≤ j → At L i x → At L j y → mi o x ≤ mi o y
  rest : ∀ x ∈ L, ∀ b : Nat, b < o.bs.length → (b : Int) ∉ L → mi o x ≤ mi o b
/-- The next one, of the first k. -/
def Sel (o : House) (L : List Int) (k : Nat) (nx : Int) : Prop :=
  (nx = -1 ∧ ∀ b : Nat, b < k → (b : Int) ∈ L) ∨ (∃ j : Nat, nx = (j : Int) ∧ j < k ∧ (j : Int) ∉ L ∧ ∀ b : Nat, b < k → (b : Int) ∉ L → mi o j ≤ mi o b)
theorem Sel.zero (o : House) (L : List Int) : Sel o L 0 (-1) := .inl ⟨rfl, fun b hb => by omega⟩
theorem Sel.skip {o : House} {L : List Int} {k : Nat} {nx : Int} (h : Sel o L k nx) (hk : (k : Int) ∈ L) : Sel o L (k + 1) nx := by
  rcases h with ⟨h1, h2⟩ | ⟨j, h1, h2, h3, h4⟩
  · refine .inl ⟨h1, fun b hb => ?_⟩
    by_cases e : b = k
    · subst e; exact hk
    · exact h2 b (by omega)
  · refine .inr ⟨j, h1, by omega, h3, fun b hb hn => ?_⟩
    by_cases e : b = k
    · subst e; exact absurd hk hn
    · exact h4 b (by omega) hn
theorem Sel.first {o : House} {L : List Int} {k : Nat} (h : Sel o L k (-1)) (hk : (k : Int) ∉ L) : Sel o L (k + 1) k := by
  rcases h with ⟨_, h2⟩ | ⟨j, h1, _⟩
  · refine .inr ⟨k, rfl, by omega, hk, fun b hb hn => ?_⟩
    by_cases e : b = k
    · subst e; exact Int.le_refl _
    · exact absurd (h2 b (by omega)) hn
  · omega
theorem Sel.less {o : House} {L : List Int} {k j : Nat} (h : Sel o L k (j : Int)) (hk : (k : Int) ∉ L) (hl : mi o k < mi o j) : Sel o L (k + 1) k := by
  rcases h with ⟨h1, _⟩ | ⟨i, h1, h2, h3, h4⟩
  · omega
  · obtain rfl : j = i := by omega
    refine .inr ⟨k, rfl, by omega, hk, fun b hb hn => ?_⟩
    by_cases e : b = k
    · subst e; exact Int.le_refl _
    · have := h4 b (by omega) hn; omega
theorem Sel.keep {o : House} {L : List Int} {k j : Nat} (h : Sel o L k (j : Int)) (hl : ¬ mi o k < mi o j) : Sel o L (k + 1) (j : Int) := by
  rcases h with ⟨h1, _⟩ | ⟨i, h1, h2, h3, h4⟩
  · omega
  · obtain rfl : j = i := by omega
    refine .inr ⟨j, rfl, by omega, h3, fun b hb hn => ?_⟩
    by_cases e : b = k
    · subst e; omega
    · exact h4 b (by omega) hn
theorem Part.nil (o : House) : Part o [] := ⟨goodAll_nil _, fun i _ _ _ _ h => by simp [At] at h, fun x hx => by simp at hx⟩
theorem Part.snoc {o : House} {L : List Int} (h : Part o L) {nx : Int} (hs : Sel o L o.bs.length nx) (hl : L.length < o.bs.length) : ∃ j : Nat, nx = (j : Int) ∧ j < o.bs.length ∧ Part o (L ++ [(j : Int)]) := by
  rcases hs with ⟨_, h2⟩ | ⟨j, h1, h2, h3, h4⟩
  · exfalso
    have hnd : ((List.range o.bs.length).map Int.ofNat).Nodup := List.pairwise_map.2 (List.nodup_range.imp fun {a b} hab e => hab (Int.ofNat.inj e))
    have hsub : ∀ x ∈ (List.range o.bs.length).map Int.ofNat, x ∈ L := fun x hx => by
      obtain ⟨y, hy, rfl⟩ := List.mem_map.1 hx
      exact h2 y (List.mem_range.1 hy)
    have := sumZ_sub (f := fun _ => 1) hnd hsub (fun _ _ => by omega)
    have hc : ∀ l : List Int, sumZ (fun _ => 1) l = (l.length : Int) := fun l => by
      induction l with
      | nil => rfl
      | cons a l ih => simp only [sumZ, ih, List.length_cons]; omega
    rw [hc, hc, List.length_map, List.length_range] at this
    omega
  · refine ⟨j, h1, h2, goodAll_snoc h.good (within_iff.2 (by omega)) h3, ?_, ?_⟩
    · intro a b x y hab hx hy
      have hxm := hx.mem
      have hym := hy.mem
      have hlb := hy.lt
      rw [List.length_append] at hlb
      simp at hlb
      by_cases hb : b < L.length
      · have hx' : At L a x := by unfold At at hx ⊢; rwa [List.getElem?_append_left (by omega)] at hx
        have hy' : At L b y := by unfold At at hy ⊢; rwa [List.getElem?_append_left hb] at hy
        exact h.sorted a b x y hab hx' hy'
      · have hyj : y = (j : Int) := by
          unfold At at hy
          rw [List.getElem?_append_right (by omega), show b - L.length = 0 by omega] at hy
          simpa using hy.symm
        subst hyj
        rcases List.mem_append.1 hxm with hxm | hxm
        · exact h.rest x hxm j h2 h3
        · rw [List.mem_singleton.1 hxm]; exact Int.le_refl _
    · intro x hx b hb hn
      have hn' : (b : Int) ∉ L := fun c => hn (List.mem_append_left _ c)
      rcases List.mem_append.1 hx with hx | hx
      · exact h.rest x hx b hb hn'
      · rw [List.mem_singleton.1 hx]; exact h4 b hb hn'
theorem Part.edf {o : House} {L : List Int} (h : Part o L) (hl : L.length = o.bs.length) : Edf o L := ⟨h.good, hl, h.sorted⟩

theorem Own.take {α : Type} [Enc α] {H : Snap} {base : Nat} {w : World} {e : TypeId} {a : Option Addr} {n c : Nat} {xs : List α} (o : Own H base w e (.slice a n c) xs) {k : Nat} (hk : k ≤ xs.length) (hk0 : 0 < k) : Own H base w e (.slice a k c) (xs.take k) := by
  obtain ⟨cells, ⟨hl, ho⟩, hr, hf, hb⟩ := o
  have hlen : (xs.take k).length = k := by simp; omega
  rcases ho with ⟨_, hn⟩ | ⟨g, cap, cur, hv, hbg, hg, hnc, hcm, hcs, htake⟩
  · omega
  · cases hv
    have e1 : xs = xs.take k ++ xs.drop k := (List.take_append_drop k xs).symm
    rw [e1] at hr
    obtain ⟨c1, c2, e2, hr1, _⟩ := hr.split
    have hl1 := hr1.len
    rw [hlen] at hl1
    refine ⟨c1, ⟨by rw [hlen]; exact hl1, .inr ⟨g, c, cur, by rw [hlen], hbg, hg, by rw [hlen]; omega, hcm, hcs, ?_⟩⟩, hr1, hf, Nat.le_trans (Nat.mul_le_mul_right _ (by omega)) hb⟩
    rw [hlen]
    have h5 := congrArg (List.take (k * Enc.sz α)) htake
    rw [List.take_take, Nat.min_eq_left (Nat.mul_le_mul_right _ hk), e2, ← hl1, List.take_left] at h5
    rw [← hl1]; exact h5

def lenV : Value → Nat
  | .slice _ n _ => n
  | _ => 0

set_option maxRecDepth 100000 in
set_option maxHeartbeats 8000000 in
theorem trainsEarliest_any (vm vb vt : Value) (h : House) (H : Snap) (w : World) (hw : Holds H w) (hh : Hou H vm vb vt h) :
    Calls Try.prog 10 #[houV vm vb vt h] w (PostV w (.bool true)) := by
  cases hr : readyB h
  · go_enter Try.func10, Try.ntmps10
    go_wp2_with (first
      | (have hgd := x2; clear hgd; go_at_call 16; refine (works_any H1 _ x2.holds).mono ?_; rintro e w3 ⟨rfl, hb3⟩; have x3 := x2.step (hb3.mono x2.below.size) (x2.holds.below hb3))
      | (have hgd := hx; clear hgd; go_at_call 15; refine (ready_any _ _ _ _ H1 _ hw1 (hh.mono hle)).mono ?_; rintro e w2 ⟨rfl, hb2⟩; rw [hr]; have x2 := hx.step (hb2.mono hx.below.size) (hw1.below hb2))
      | (refine wpList_boxF rfl _ rfl (Ext.refl hw) ?_; intro B w1 H1 hle hx hB hBw; obtain ⟨hc0, hc1, hc2, hc3⟩ := cellsHou hB; clear hB hw; have hw1 := hx.holds))
    go_ret
    exact ⟨rfl, x3.below⟩
  · have hv := readyB_valid hr
    have hm1 := hv.m1
    have hm1I : (1 : Int) ≤ (h.ms.length : Int) := by omega
    go_enter Try.func10, Try.ntmps10
    go_upto_region 4 with (first
      | (have hgd := x2; clear hgd; go_at_call 29; refine (copy4_any _ _ _ _ H1 _ x2.holds (hh.mono hle)).mono ?_; rintro e w3 ⟨um, ub, ut, H3, rfl, y3, om, ob, ot⟩; obtain ⟨am, cm, rfl, hcap, _⟩ := om.form; obtain ⟨ab, cb, rfl, _, _⟩ := ob.form; obtain ⟨at', ct, rfl, _, _⟩ := ot.form)
      | (have hgd := hx; clear hgd; go_at_call 15; refine (ready_any _ _ _ _ H1 _ hw1 (hh.mono hle)).mono ?_; rintro e w2 ⟨rfl, hb2⟩; rw [hr]; have x2 := hx.step (hb2.mono hx.below.size) (hw1.below hb2); have hw2 := x2.holds)
      | (refine wpList_boxF rfl _ rfl (Ext.refl hw) ?_; intro B w1 H1 hle hx hB hBw; obtain ⟨hc0, hc1, hc2, hc3⟩ := cellsHou hB; clear hB hw; have hw1 := hx.holds))
    have hb4 := HBox.make (h := h) om ob ot hh.c y3.holds y3.below.size
    have x4 := (x2.trans y3).alloc (.cells #[.slice am h.ms.length cm, .slice ab h.bs.length cb, .slice at' h.ts.length ct, .int .i64 h.ch] 26)
    have hwb : w.heap.size ≤ w2.heap.size := x2.below.size
    have hcapI : (1 : Int) ≤ (cm : Int) := by omega
    have hcapN : 1 ≤ cm := by omega
    clear om ob ot y3 hw2 hb2 x2 hle hh hx hw1 hc0 hc1 hc2 hc3
    generalize w3.alloc (.cells #[.slice am h.ms.length cm, .slice ab h.bs.length cb, .slice at' h.ts.length ct, .int .i64 h.ch] 26) = w4 at *
    generalize w3.heap.size = C at *
    obtain ⟨e0, e1, e2, e3⟩ := hb4.cells
    have f0 := hb4.fz 0
    have f3 := hb4.fz 3
    go_upto_region 5 with fail
    have hb5 := (hb4.putM (hb4.m.take (k := 1) hm1 (by omega))).putC 0 (by omega)
    have x5 := (x4.setCell (a := ⟨C, 0, none⟩) (Nat.le_trans hwb hb4.ge) hb4.hC (.slice am 1 cm)).setCell (a := ⟨C, 3, none⟩) (Nat.le_trans hwb hb4.ge) hb4.hC (.int .i64 0)
    obtain ⟨o, ho⟩ : ∃ o : House, o = ⟨h.ms.take 1, h.bs, h.ts, 0⟩ := ⟨_, rfl⟩
    replace hb5 : HBox H3 w2.heap.size ((w4.setCell ⟨C, 0, none⟩ (.slice am 1 cm)).setCell ⟨C, 3, none⟩ (.int .i64 0)) C (.slice am 1 cm) (.slice ab h.bs.length cb) (.slice at' h.ts.length ct) o := by rw [ho]; exact hb5
    have hov : Valid o := by
      rw [ho]
      refine ⟨by show 1 ≤ (h.ms.take 1).length; rw [List.length_take]; omega, by show (h.ms.take 1).length ≤ 3; rw [List.length_take]; omega, hv.t4, hv.b5, by show within 0 0 9 = true; decide, ?_, hv.ts, hv.bs⟩
      rw [List.all_eq_true]
      exact fun x hx => List.all_eq_true.1 hv.ms x (List.mem_of_mem_take hx)
    have hom : o.ms.length = 1 := by rw [ho]; show (h.ms.take 1).length = 1; rw [List.length_take]; omega
    have hoc : o.ch = 0 := by rw [ho]
    obtain ⟨H6, x6, l6, hho, hC6⟩ := (hb5.weaken hwb).closeC x5
    clear hb5 hb4 x4 x5 l6 e0 e1 e2 e3 f0 f3 hv hr hm1 hm1I hcapI hcapN ho hcap
    generalize (w4.setCell ⟨C, 0, none⟩ (.slice am 1 cm)).setCell ⟨C, 3, none⟩ (.int .i64 0) = w6 at *
    obtain ⟨hd0, hd1, hd2, hd3⟩ := cellsHou (h := o) hC6
    generalize Value.slice am 1 cm = um at *
    generalize Value.slice ab h.bs.length cb = ub at *
    generalize Value.slice at' h.ts.length ct = ut at *
    obtain ⟨ab, cb, rfl, _, _⟩ := hho.b.form
    obtain ⟨at', ct, rfl, _, _⟩ := hho.t.form
    have hbd5 := hov.b5
    have hw6 := x6.holds
    replace hom := Lib.hid hom
    replace hoc := Lib.hid hoc
    clear hC6
    go_wp2_with fail
    go_loopw [4] (fun v wr => ∃ L : List Int, Own H6 w.heap.size wr 3 v L ∧ Hid (Part o L) ∧ L.length ≤ o.bs.length ∧ Ext w H wr H6) (fun v _ => o.bs.length - lenV v)
    case atStart => exact ⟨[], Own.nil _ _ _ _, Part.nil o, Nat.zero_le _, x6⟩
    case round =>
      clear x6 hw6
      obtain ⟨L, hown, hpart, hLl, hxr⟩ := hrel
      have hwr := hxr.holds
      obtain ⟨av, cv, rfl, _, _⟩ := hown.form
      by_cases hlk : L.length < o.bs.length
      · have hlkI : (L.length : Int) < (o.bs.length : Int) := by omega
        go_wp2_with fail
        go_loopw [5, 6] (fun nx i wr => ∃ (k : Nat) (z : Int), k ≤ o.bs.length ∧ i = .int .i64 k ∧ nx = .int .i64 z ∧ Hid (Sel o L k z) ∧ Own H6 w.heap.size wr 3 (.slice av L.length cv) L ∧ Ext w H wr H6) (fun _ i _ => o.bs.length - (intOf i).toNat)
        case atStart => exact ⟨0, -1, Nat.zero_le _, rfl, rfl, Sel.zero _ _, hown, hxr⟩
        case round =>
          clear hown hxr hwr
          obtain ⟨k, z, hk, rfl, rfl, hsel, hown, hxr⟩ := hrel
          have hwr := hxr.holds
          by_cases hkl : k < o.bs.length
          · obtain ⟨zk, hzk⟩ := At.mk hkl
            obtain ⟨bb, bo, bc, hez, ⟨hy1, _, _⟩, q0, _, _⟩ := hho.b.bund hzk
            cases hez
            have hko := bund_ok hov hkl
            rw [hzk.bund] at hko
            obtain ⟨tk, htk⟩ := Int.eq_ofNat_of_zero_le hko.2.1
            have htkl : tk < o.ts.length := by omega
            obtain ⟨mk, hmk⟩ := At.mk htkl
            obtain ⟨tb, tof, tc, hez, _, r0⟩ := hho.t.int hmk
            cases hez
            have hmik : mi o (k : Int) = mk := by unfold mi; rw [hzk.bund, htk, Int.toNat_natCast, hmk.getD]
            obtain ⟨Hq, hleq, hq, hs, _⟩ := hown.freeze hwr
            have p0 := lift hleq hd0
            have p1 := lift hleq hd1
            have p2 := lift hleq hd2
            have p3 := lift hleq hd3
            replace q0 := lift hleq q0
            replace r0 := lift hleq r0
            rw [htk] at q0
            have hk0 : 0 ≤ (k : Int) := by omega
            have hk1 : (k : Int) < (o.bs.length : Int) := by omega
            have ht0 : 0 ≤ (tk : Int) := by omega
            have ht1 : (tk : Int) < (o.ts.length : Int) := by omega
            replace hmik := Lib.hid hmik
            cases hin : decide ((k : Int) ∈ L)
            · have hnin : (k : Int) ∉ L := of_decide_eq_false hin
              have cIn : ∀ (x : WB Hq wr), Calls Try.prog 37 #[.slice av L.length cv, .int .i64 (k : Int)] x.w (PostV x.w (.bool false)) := fun x => by rw [← hin]; exact in_any _ _ _ _ _ x.h hs
              replace cIn := Lib.hid cIn
              replace hnin := Lib.hid hnin
              rcases hsel.out with ⟨rfl, hA⟩ | ⟨j, rfl, hj1, hj2, hj3⟩
              · replace hA := Lib.hid hA
                go_upto_region 11 with fail
                refine wp_region_quietB Hq (by kernel_rfl) (by kernel_rfl) hq (fun hne => ?_)
                repeat go_big_quiet_step ((go_at_call 37; exact Calls.quietB (cIn.out _)))
                refine wpQuiet_nil ?_
                rintro ⟨w2, hw2, hb2⟩
                clear hne
                have hw2' := hw2.mono hleq
                have hown' := hown.ext hwr ⟨hb2, hw2', fun _ _ => rfl⟩
                have hxr' := hxr.step (hb2.mono hxr.below.size) hw2'
                go_wp2_with fail
                go_roundw
                case rel => exact ⟨k + 1, (k : Int), by omega, by go_num, rfl, Sel.first hsel.out hnin.out, hown', hxr'⟩
                case measure => simp [intOf]; omega
              · have hjl : j < o.bs.length := by omega
                obtain ⟨zj, hzj⟩ := At.mk hjl
                obtain ⟨bb', bo', bc', hez, _, qj0, _, _⟩ := hho.b.bund hzj
                cases hez
                have hjo := bund_ok hov hjl
                rw [hzj.bund] at hjo
                obtain ⟨tj, htj⟩ := Int.eq_ofNat_of_zero_le hjo.2.1
                have htjl : tj < o.ts.length := by omega
                obtain ⟨mj, hmj⟩ := At.mk htjl
                obtain ⟨tb', tof', tc', hez, _, rj0⟩ := hho.t.int hmj
                cases hez
                have hmij : mi o (j : Int) = mj := by unfold mi; rw [hzj.bund, htj, Int.toNat_natCast, hmj.getD]
                replace qj0 := lift hleq qj0
                replace rj0 := lift hleq rj0
                rw [htj] at qj0
                have hj0 : 0 ≤ (j : Int) := by omega
                have hj1' : (j : Int) < (o.bs.length : Int) := by omega
                have htj0 : 0 ≤ (tj : Int) := by omega
                have htj1 : (tj : Int) < (o.ts.length : Int) := by omega
                have hjn : decide ((j : Int) < 0) = false := decide_eq_false (by omega)
                replace hmij := Lib.hid hmij
                replace hj3 := Lib.hid hj3
                cases hlt : decide (mk < mj)
                · go_upto_region 11 with fail
                  refine wp_region_quietB Hq (by kernel_rfl) (by kernel_rfl) hq (fun hne => ?_)
                  repeat go_big_quiet_step ((go_at_call 37; exact Calls.quietB (cIn.out _)))
                  refine wpQuiet_nil ?_
                  rintro ⟨w2, hw2, hb2⟩
                  clear hne
                  have hw2' := hw2.mono hleq
                  have hown' := hown.ext hwr ⟨hb2, hw2', fun _ _ => rfl⟩
                  have hxr' := hxr.step (hb2.mono hxr.below.size) hw2'
                  go_wp2_with fail
                  go_roundw
                  case rel => exact ⟨k + 1, (j : Int), by omega, by go_num, rfl, Sel.keep hsel.out (by rw [hmik.out, hmij.out]; exact of_decide_eq_false hlt), hown', hxr'⟩
                  case measure => simp [intOf]; omega
                · go_upto_region 11 with fail
                  refine wp_region_quietB Hq (by kernel_rfl) (by kernel_rfl) hq (fun hne => ?_)
                  repeat go_big_quiet_step ((go_at_call 37; exact Calls.quietB (cIn.out _)))
                  refine wpQuiet_nil ?_
                  rintro ⟨w2, hw2, hb2⟩
                  clear hne
                  have hw2' := hw2.mono hleq
                  have hown' := hown.ext hwr ⟨hb2, hw2', fun _ _ => rfl⟩
                  have hxr' := hxr.step (hb2.mono hxr.below.size) hw2'
                  go_wp2_with fail
                  go_roundw
                  case rel => exact ⟨k + 1, (k : Int), by omega, by go_num, rfl, Sel.less hsel.out hnin.out (by rw [hmik.out, hmij.out]; exact of_decide_eq_true hlt), hown', hxr'⟩
                  case measure => simp [intOf]; omega
            · have hin' : (k : Int) ∈ L := of_decide_eq_true hin
              have cIn : ∀ (x : WB Hq wr), Calls Try.prog 37 #[.slice av L.length cv, .int .i64 (k : Int)] x.w (PostV x.w (.bool true)) := fun x => by rw [← hin]; exact in_any _ _ _ _ _ x.h hs
              replace cIn := Lib.hid cIn
              replace hin' := Lib.hid hin'
              go_upto_region 11 with fail
              refine wp_region_quietB Hq (by kernel_rfl) (by kernel_rfl) hq (fun hne => ?_)
              repeat go_big_quiet_step ((go_at_call 37; exact Calls.quietB (cIn.out _)))
              refine wpQuiet_nil ?_
              rintro ⟨w2, hw2, hb2⟩
              clear hne
              have hw2' := hw2.mono hleq
              have hown' := hown.ext hwr ⟨hb2, hw2', fun _ _ => rfl⟩
              have hxr' := hxr.step (hb2.mono hxr.below.size) hw2'
              go_wp2_with fail
              go_roundw
              case rel => exact ⟨k + 1, z, by omega, by go_num, rfl, Sel.skip hsel.out hin'.out, hown', hxr'⟩
              case measure => simp [intOf]; omega
          · obtain rfl : k = o.bs.length := by omega
            obtain ⟨j, rfl, hjl, hpart2⟩ := hpart.out.snoc hsel.out hlk
            replace hpart2 := Lib.hid hpart2
            go_wp2_with (at_builtin; refine wpList_app1I eInt _ _ hxr hown (j : Int) (by unfold I64; omega) (by omega) rfl rfl rfl rfl ?_; intro vD wD hownD hxD hwD; obtain ⟨aD, cD, rfl, _, _⟩ := hownD.form)
            rw [show (L ++ [(j : Int)]).length = L.length + 1 by simp] at hownD
            go_roundw
            case rel => exact ⟨L ++ [(j : Int)], hownD, hpart2, by simp; omega, hxD⟩
            case measure => simp [lenV]; omega
      · have hLe : L.length = o.bs.length := by omega
        have hlkI : ¬ ((L.length : Int) < (o.bs.length : Int)) := by omega
        have E := hpart.out.edf hLe
        have hbest := edf_best hov hom.out hoc.out E
        have hpl : isPlan o [L] = true := by unfold isPlan; rw [hom.out]; simp [E.good]
        have hfb := (fewestOf_bd hov).1
        have hfe : (fewestOf o == 0) = (((lateOf o [L]).length : Int) == 0) := by
          unfold fewestOf
          rw [valid_iff.2 hov, if_pos rfl, Bool.eq_iff_iff, beq_iff_eq, beq_iff_eq]
          have := List.length_eq_zero_iff (l := lateOf o [L])
          constructor
          · intro e; have := this.2 (hbest.1 (by omega)); omega
          · intro e; have := hbest.2 (this.1 (by omega)); omega
        have cF : ∀ (H' : Snap) (w : World), Holds H' w → SLe H6 H' → Calls Try.prog 34 #[houV um (.slice ab o.bs.length cb) (.slice at' o.ts.length ct) o] w (PostV w (.int .i64 (fewestOf o))) := fun H' w hw k => fewestL_any _ _ _ _ hov H' w hw (hho.mono k)
        have cL : ∀ (vq : Value) (H' : Snap) (w : World), Holds H' w → SLe H6 H' → Sl H' vq [L] → Calls Try.prog 38 #[houV um (.slice ab o.bs.length cb) (.slice at' o.ts.length ct) o, vq] w (Post w H' fun v H' => ∃ u, v = .tuple #[u, .int .i64 0] ∧ Sl H' u (lateOf o [L])) := fun vq H' w hw k hq => by
          have h1 := lateA_any _ _ _ _ _ _ H' w hw (hho.mono k) hq
          have e1 : lateA o [L] = lateOf o [L] := by unfold lateA; rw [valid_iff.2 hov, hpl]; rfl
          have e2 : errA (valid o) (isPlan o [L]) = 0 := by rw [valid_iff.2 hov, hpl]; rfl
          rw [e1, e2] at h1; exact h1
        obtain ⟨Hq, hxq, hleq, hs, _⟩ := hown.close hxr
        have p0 := lift hleq hd0
        have p1 := lift hleq hd1
        have p2 := lift hleq hd2
        have p3 := lift hleq hd3
        have hwq := hxq.holds
        have hrep : reps Hq [L] [.slice av L.length cv] := reps.single (show Enc.rep Hq L [.slice av L.length cv] from ⟨_, rfl, hs⟩)
        generalize fewestOf o = f at *
        generalize lateOf o [L] = LL at *
        clear hpart E hbest hpl hown hxr
        replace cF := Lib.hid cF
        replace cL := Lib.hid cL
        replace hLe := Lib.hid hLe
        cases hz : ((LL.length : Int) == 0)
        all_goals
          rw [hz] at hfe
          go_wp2_with (first
            | (have hgd := x9; clear hgd; go_at_call 16; refine (works_any H9 _ x9.holds).mono ?_; rintro e w10 ⟨rfl, hb10⟩; have x10 := x9.step (hb10.mono x9.below.size) (x9.holds.below hb10))
            | (have hgd := x7; clear hgd; go_at_call 38; obtain ⟨H8, l8, x8, s8⟩ := Ext.lit (xs := [L]) (cs := [.slice av L.length cv]) x7 hrep 24 (by simp [Enc.by_]) (by simp); refine (cL.out _ H8 _ x8.holds (hleq.trans l8) s8).mono ?_; rintro e w9 ⟨v9, H9, rfl, y9, u9, rfl, s9⟩; obtain ⟨a9, c9, rfl, _, _⟩ := s9.form; have x9 := x8.trans y9)
            | (go_at_call 34; refine (cF.out Hq _ hwq hleq).mono ?_; rintro e w7 ⟨rfl, hb7⟩; have x7 := hxq.step (hb7.mono hxq.below.size) (hwq.below hb7); have hw7 := x7.holds))
          go_ret
          exact ⟨rfl, x10.below⟩

end Go.Proofs.Yteijmboophnmgaa
