/- The walks of flonglaw04: SamePlan. The walks of flonglaw04: Huge, Far, Long. -/
import Derived.Test.YteijmboophnmgaaRef4a

namespace Go.Proofs.Yteijmboophnmgaa
open Go.RowKit

attribute [local go_sem] Holds.drew Holds.alloc Holds.drewN WB.holds

set_option maxHeartbeats 1000000 in
theorem samePlan_any (va vb : Value) (xs ys : List (List Int)) (H : Snap) (w : World) (hw : Holds H w) (ha : Sl H va xs) (hb : Sl H vb ys) :
    Calls Try.prog 54 #[va, vb] w (PostV w (.bool (decide (xs = ys)))) := by
  obtain ⟨aa, ca, rfl, ha1, ha2⟩ := ha.form
  obtain ⟨ab, cb, rfl, hb1, hb2⟩ := hb.form
  cases hl : ((xs.length : Int) != ys.length)
  · have HL : Hid (xs.length = ys.length) := Lib.hid (by have := bne_eq_false_iff_eq.1 hl; omega)
    go_enter Try.func54, Try.ntmps54
    go_wp2
    go_loopw [4, 5] (fun _ i wr => ∃ k : Nat, k ≤ xs.length ∧ i = .int .i64 k ∧ Hid (xs.take k = ys.take k) ∧ Ext w H wr H) (fun _ i _ => xs.length - (intOf i).toNat)
    case atStart => exact ⟨0, Nat.zero_le _, rfl, rfl, Ext.refl hw⟩
    case round =>
      obtain ⟨k, hk, rfl, hok, hxr⟩ := hrel
      have hwr := hxr.holds
      by_cases hlt : k < xs.length
      · obtain ⟨x, hxk⟩ := At.mk hlt
        have hlt2 : k < ys.length := by rw [← HL.out]; exact hlt
        obtain ⟨y, hyk⟩ := At.mk hlt2
        obtain ⟨b, o, c, u, he, hi, hr⟩ := ha.list hxk
        cases he
        obtain ⟨b', o', c', u', he, hi', hr'⟩ := hb.list hyk
        cases he
        go_wp2
        refine wp_region_quietB H (by kernel_rfl) (by kernel_rfl) hwr (fun hne => ?_)
        repeat go_big_quiet_step ((go_at_call 36; exact Calls.quietB (sameInts_any _ _ _ _ _ _ (WB.holds _) hi hi')))
        refine wpQuiet_nil ?_
        rintro ⟨w2, hw2, hb2⟩
        go_wp2
        all_goals clear hne
        · go_ret
          exact ⟨ret_bool (by symm; rw [decide_eq_false_iff_not]; rintro rfl; have := hxk.uniq hyk; subst this; simp_all), (hxr.step (hb2.mono hxr.below.size) hw2).below⟩
        · go_roundw
          case rel => exact ⟨k + 1, by omega, by go_num, by show List.take (k + 1) xs = List.take (k + 1) ys; rw [hxk.take, hyk.take, hok.out, show x = y by simp_all], hxr.step (hb2.mono hxr.below.size) hw2⟩
          case measure => simp [intOf]; omega
      · go_wp2
        go_ret
        have h1 : xs.take k = ys.take k := hok.out
        rw [List.take_of_length_le (by omega), List.take_of_length_le (by rw [← HL.out]; omega)] at h1
        exact ⟨ret_bool (by simp [h1]), hxr.below⟩
  · go_enter Try.func54, Try.ntmps54
    go_wp2
    go_ret
    exact ⟨ret_bool (by symm; rw [decide_eq_false_iff_not]; rintro rfl; simp at hl), Below.refl _ _⟩

end Go.Proofs.Yteijmboophnmgaa

namespace Go.Proofs.Yteijmboophnmgaa
open Go.RowKit

attribute [local go_sem] Holds.drew Holds.alloc Holds.drewN WB.holds

def huge (h : House) : Bool := decide (40 < h.ms.length) || (decide (40 < h.bs.length) || decide (40 < h.ts.length))
def far (h : House) : Bool := huge h || (decide (4 < h.bs.length) && valid h)
def long (p : List (List Int)) : Bool := decide (40 < p.length) || p.any fun l => decide (40 < l.length)

theorem huge_any (vm vb vt : Value) (h : House) (H : Snap) (w : World) (hw : Holds H w) (hh : Hou H vm vb vt h) :
    Calls Try.prog 45 #[houV vm vb vt h] w (PostV w (.bool (huge h))) := by
  obtain ⟨am, cm, rfl, hm1, hm2⟩ := hh.m.form
  obtain ⟨ab, cb, rfl, hb1, hb2⟩ := hh.b.form
  obtain ⟨at', ct, rfl, ht1, ht2⟩ := hh.t.form
  have key : Hid (huge h = (decide (40 < (h.ms.length : Int)) || (decide (40 < (h.bs.length : Int)) || decide (40 < (h.ts.length : Int))))) := by
    show _ = _
    unfold huge
    congr 1
    · exact decide_eq_decide.2 (by omega)
    · congr 1
      · exact decide_eq_decide.2 (by omega)
      · exact decide_eq_decide.2 (by omega)
  cases g1 : decide (40 < (h.ms.length : Int))
  all_goals cases g2 : decide (40 < (h.bs.length : Int))
  all_goals cases g3 : decide (40 < (h.ts.length : Int))
  all_goals
    rw [g1, g2, g3] at key
    go_enter Try.func45, Try.ntmps45
    go_wp2_with (first | (refine wpList_boxF rfl _ rfl (Ext.refl hw) ?_; intro B w1 H1 hle hx hB hBw; obtain ⟨hc0, hc1, hc2, hc3⟩ := cellsHou hB; clear hB hw; have hw1 := hx.holds))
    go_ret
    exact ⟨ret_bool (by rw [key.out]; rfl), hx.below⟩

set_option maxRecDepth 100000 in
set_option maxHeartbeats 2000000 in
theorem far_any (vm vb vt : Value) (h : House) (H : Snap) (w : World) (hw : Holds H w) (hh : Hou H vm vb vt h) :
    Calls Try.prog 28 #[houV vm vb vt h] w (PostV w (.bool (far h))) := by
  obtain ⟨ab, cb, rfl, hb1, hb2⟩ := hh.b.form
  have key : Hid (far h = (huge h || (decide (4 < (h.bs.length : Int)) && valid h))) := by
    show _ = _
    unfold far
    congr 2
    exact decide_eq_decide.2 (by omega)
  cases g1 : huge h
  · cases g2 : decide (4 < (h.bs.length : Int))
    · rw [g1, g2] at key
      go_enter Try.func28, Try.ntmps28
      go_wp2_with (first | (refine wpList_boxF rfl _ rfl (Ext.refl hw) ?_; intro B w1 H1 hle hx hB hBw; obtain ⟨hc0, hc1, hc2, hc3⟩ := cellsHou hB; clear hB hw; have hw1 := hx.holds) | (go_at_call 45; refine (huge_any _ _ _ _ _ _ hw1 (hh.mono hle)).mono ?_; rintro e w' ⟨rfl, hb2⟩; have hw2 := hw1.below hb2))
      go_ret
      exact ⟨ret_bool (by rw [key.out]; rfl), hx.below.trans (hb2.mono hx.below.size)⟩
    · cases hv : valid h
      all_goals
        have he : errT (valid h) = if valid h then 0 else 40 := rfl
        rw [hv] at he
        rw [g1, g2, hv] at key
        go_enter Try.func28, Try.ntmps28
        go_wp2_with (first | (refine wpList_boxF rfl _ rfl (Ext.refl hw) ?_; intro B w1 H1 hle hx hB hBw; obtain ⟨hc0, hc1, hc2, hc3⟩ := cellsHou hB; clear hB hw; have hw1 := hx.holds) | (go_at_call 45; refine (huge_any _ _ _ _ _ _ hw1 (hh.mono hle)).mono ?_; rintro e w' ⟨rfl, hb2⟩; have hw2 := hw1.below hb2) | (go_at_call 35; refine (check4_any _ _ _ _ _ _ hw2 (hh.mono hle)).mono ?_; rintro e w' ⟨rfl, hb3⟩))
        go_ret
        exact ⟨ret_bool (by rw [key.out]; rfl), (hx.below.trans (hb2.mono hx.below.size)).trans (hb3.mono (Nat.le_trans hx.below.size hb2.size))⟩
  · rw [g1] at key
    go_enter Try.func28, Try.ntmps28
    go_wp2_with (first | (refine wpList_boxF rfl _ rfl (Ext.refl hw) ?_; intro B w1 H1 hle hx hB hBw; obtain ⟨hc0, hc1, hc2, hc3⟩ := cellsHou hB; clear hB hw; have hw1 := hx.holds) | (go_at_call 45; refine (huge_any _ _ _ _ _ _ hw1 (hh.mono hle)).mono ?_; rintro e w' ⟨rfl, hb2⟩; have hw2 := hw1.below hb2))
    go_ret
    exact ⟨ret_bool (by rw [key.out]; rfl), hx.below.trans (hb2.mono hx.below.size)⟩

set_option maxHeartbeats 1000000 in
theorem long_any (vp : Value) (p : List (List Int)) (H : Snap) (w : World) (hw : Holds H w) (hp : Sl H vp p) :
    Calls Try.prog 46 #[vp] w (PostV w (.bool (long p))) := by
  obtain ⟨ap, cp, rfl, hp1, hp2⟩ := hp.form
  cases g1 : decide (40 < (p.length : Int))
  · have key : Hid (long p = p.any fun l => decide (40 < l.length)) := by
      show _ = _
      unfold long
      rw [decide_eq_false (by have := of_decide_eq_false g1; omega), Bool.false_or]
    go_enter Try.func46, Try.ntmps46
    go_wp2
    go_loopw [3] (fun i wr => ∃ k : Nat, k ≤ p.length ∧ i = .int .i64 k ∧ Hid ((p.take k).any (fun l => decide (40 < l.length)) = false) ∧ Ext w H wr H) (fun i _ => p.length - (intOf i).toNat)
    case atStart => exact ⟨0, Nat.zero_le _, rfl, rfl, Ext.refl hw⟩
    case round =>
      obtain ⟨k, hk, rfl, hok, hxr⟩ := hrel
      have hwr := hxr.holds
      by_cases hlk : k < p.length
      · obtain ⟨l, hlk'⟩ := At.mk hlk
        obtain ⟨b, o, c, u, he, hu, hr⟩ := hp.list hlk'
        cases he
        obtain ⟨al, cl, rfl, _, _⟩ := hu.form
        cases g2 : decide (40 < (l.length : Int))
        · have h2 : Hid (decide (40 < l.length) = false) := Lib.hid (decide_eq_false (by have := of_decide_eq_false g2; omega))
          go_wp2_with fail
          go_roundw
          case rel => exact ⟨k + 1, by omega, by go_num, by show _ = _; rw [hlk'.take, List.any_append, hok.out]; simp only [List.any_cons, List.any_nil, h2.out]; rfl, hxr⟩
          case measure => simp [intOf]; omega
        · have h2 : Hid (decide (40 < l.length) = true) := Lib.hid (decide_eq_true (by have := of_decide_eq_true g2; omega))
          go_wp2_with fail
          go_ret
          exact ⟨ret_bool (by rw [key.out]; symm; rw [List.any_eq_true]; exact ⟨l, hlk'.mem, h2.out⟩), hxr.below⟩
      · go_wp2_with fail
        go_ret
        exact ⟨ret_bool (by rw [key.out, ← take_all (xs := p) (k := k) (by omega), hok.out]), hxr.below⟩
  · have key : Hid (long p = true) := by
      show _ = _
      unfold long
      rw [decide_eq_true (by have := of_decide_eq_true g1; omega), Bool.true_or]
    go_enter Try.func46, Try.ntmps46
    go_wp2
    go_ret
    exact ⟨ret_bool key.out.symm, Below.refl _ _⟩

end Go.Proofs.Yteijmboophnmgaa
