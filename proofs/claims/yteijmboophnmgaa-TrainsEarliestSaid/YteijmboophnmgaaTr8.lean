/- The walks of trains: ask. The walk of trains.isPlan. The walks of trains: planned, Good. -/
import Derived.Test.YteijmboophnmgaaTr5
import Derived.Test.YteijmboophnmgaaBits

namespace Go.Proofs.Yteijmboophnmgaa
open Go.RowKit

attribute [local go_sem] Holds.drew Holds.alloc Holds.drewN WB.holds

theorem askT_any (vm vb vt : Value) (h : House) (is : Bool) (H : Snap) (w : World) (hw : Holds H w) (hh : Hou H vm vb vt h) :
    Calls Try.prog 68 #[houV vm vb vt h, .bool is] w (PostV w (.int .i64 (errA (valid h) is))) := by
  cases hv : valid h
  · have he : errT (valid h) = 40 := by rw [hv]; rfl
    go_enter Try.func68, Try.ntmps68
    go_wp2_with (first | (refine wpList_boxF rfl _ rfl (Ext.refl hw) ?_; intro B w1 H1 hle hx hB hBw; obtain ⟨hc0, hc1, hc2, hc3⟩ := cellsHou hB; clear hB hw; have hw1 := hx.holds) | (go_at_call 48; refine (checkT_any _ _ _ _ _ _ hw1 (hh.mono hle)).mono ?_; rintro e w' ⟨rfl, hb2⟩))
    go_ret
    exact ⟨rfl, hx.below.trans (hb2.mono hx.below.size)⟩
  · have he : errT (valid h) = 0 := by rw [hv]; rfl
    cases is
    all_goals
      go_enter Try.func68, Try.ntmps68
      go_wp2_with (first | (refine wpList_boxF rfl _ rfl (Ext.refl hw) ?_; intro B w1 H1 hle hx hB hBw; obtain ⟨hc0, hc1, hc2, hc3⟩ := cellsHou hB; clear hB hw; have hw1 := hx.holds) | (go_at_call 48; refine (checkT_any _ _ _ _ _ _ hw1 (hh.mono hle)).mono ?_; rintro e w' ⟨rfl, hb2⟩))
      go_ret
      exact ⟨rfl, hx.below.trans (hb2.mono hx.below.size)⟩

end Go.Proofs.Yteijmboophnmgaa

namespace Go.Proofs.Yteijmboophnmgaa
open Go.RowKit

attribute [local go_sem] Holds.drew Holds.alloc Holds.drewN WB.holds

set_option maxRecDepth 100000 in
set_option maxHeartbeats 4000000 in
theorem isPlanT_any (vm vb vt vp : Value) (h : House) (plan : List (List Int)) (H : Snap) (w : World) (hw : Holds H w) (hh : Hou H vm vb vt h) (hp : Sl H vp plan) (hb5 : h.bs.length ≤ 5) :
    Calls Try.prog 94 #[houV vm vb vt h, vp] w (PostV w (.bool (isPlan h plan))) := by
  obtain ⟨am, cm, rfl, hm1, hm2⟩ := hh.m.form
  obtain ⟨ab, cb, rfl, hb1, hb2⟩ := hh.b.form
  obtain ⟨ap, cp, rfl, hp1, hp2⟩ := hp.form
  go_enter Try.func94, Try.ntmps94
  go_wp2_with (first | (refine wpList_boxF rfl _ rfl (Ext.refl hw) ?_; intro B w1 H1 hle hx hB hBw; obtain ⟨hc0, hc1, hc2, hc3⟩ := cellsHou hB; clear hB hw; have hw1 := hx.holds))
  have hpm := hp.mono hle
  go_loopw [5, 7, 9, 12] (fun u _ _ i wr => ∃ (k : Nat) (acc : List Int), k ≤ plan.length ∧ i = .int .i64 k ∧ u = .int .i64 (ub acc : Nat) ∧ Hid (acc = (plan.take k).flatten) ∧ Hid (goodAll h.bs.length acc = true) ∧ Ext w H wr H1) (fun _ _ _ i _ => plan.length - (intOf i).toNat)
  case atStart => exact ⟨0, [], Nat.zero_le _, rfl, rfl, rfl, goodAll_nil _, hx⟩
  case round =>
    clear hx hw1
    obtain ⟨m, acc, hm, rfl, rfl, hacc, hok, hxr⟩ := hrel
    have hwr := hxr.holds
    by_cases hlm : m < plan.length
    · obtain ⟨l, hml⟩ := At.mk hlm
      obtain ⟨b, o, c, u, he, hu, hr⟩ := hpm.list hml
      cases he
      obtain ⟨al, cl, rfl, hl1, hl2⟩ := hu.form
      go_wp2_with fail
      go_loopw [5, 9, 18] (fun u _ i wr => ∃ (k : Nat) (ac : List Int), k ≤ l.length ∧ i = .int .i64 k ∧ u = .int .i64 (ub ac : Nat) ∧ Hid (ac = acc ++ l.take k) ∧ Hid (goodAll h.bs.length ac = true) ∧ Ext w H wr H1) (fun _ _ i _ => l.length - (intOf i).toNat)
      case atStart => exact ⟨0, acc, Nat.zero_le _, rfl, rfl, by simp [Hid], hok, hxr⟩
      case round =>
        clear hxr hwr
        obtain ⟨k, ac, hk, rfl, rfl, hac, hok2, hxr⟩ := hrel
        have hwr := hxr.holds
        by_cases hlk : k < l.length
        · obtain ⟨x, hxk⟩ := At.mk hlk
          obtain ⟨b', o', c', he, hi, hr'⟩ := hu.int hxk
          cases he
          have hin := (goodAll_iff.1 hok2.out).1
          have hsplit : ∃ r, plan.flatten = (ac ++ [x]) ++ r := by
            obtain ⟨r, hr⟩ := flatten_split hml hxk
            exact ⟨r, by rw [hr, hac.out, hacc.out]⟩
          have hno : goodAll h.bs.length (ac ++ [x]) = false → Hid (isPlan h plan = false) := fun e => by
            show _ = _
            obtain ⟨r, hr⟩ := hsplit
            have : goodAll h.bs.length plan.flatten = false := by
              cases hg : goodAll h.bs.length plan.flatten with
              | false => rfl
              | true => rw [hr] at hg; rw [goodAll_pre hg] at e; cases e
            simp [isPlan, this]
          cases g1 : within x 0 ((h.bs.length : Int) - 1)
          · have hno' := hno (by
              cases hg : goodAll h.bs.length (ac ++ [x]) with
              | false => rfl
              | true => rw [within_iff.2 ((goodAll_iff.1 hg).1 x (by simp))] at g1; cases g1)
            clear hno hsplit hin
            go_wp2_with (first | (go_at_call 87; refine (withinT_any _ _ _ _).mono ?_; rintro e w' ⟨rfl, rfl⟩))
            go_ret
            exact ⟨ret_bool hno'.out.symm, hxr.below⟩
          · have g1b := within_iff.1 g1
            obtain ⟨j, rfl⟩ := Int.eq_ofNat_of_zero_le g1b.1
            have hj : j < h.bs.length := by omega
            have hubit := used_bit hb5 hin hj
            have huor := used_or hb5 hin hj
            have hub := ub_lt hb5 hin
            by_cases hmem : (j : Int) ∈ ac
            · rw [if_pos hmem] at hubit
              have hno' := hno (by
                cases hg : goodAll h.bs.length (ac ++ [(j : Int)]) with
                | false => rfl
                | true => exact absurd rfl ((List.nodup_append.1 (goodAll_iff.1 hg).2).2.2 _ hmem _ (by simp)))
              replace hmem := Lib.hid hmem
              clear hno hsplit hin
              go_wp2_with (first | (go_at_call 87; refine (withinT_any _ _ _ _).mono ?_; rintro e w' ⟨rfl, rfl⟩))
              go_ret
              exact ⟨ret_bool hno'.out.symm, hxr.below⟩
            · rw [if_neg hmem] at hubit
              have hgood := Lib.hid (goodAll_snoc hok2.out g1 hmem)
              replace hmem := Lib.hid hmem
              clear hno hsplit hin
              go_wp2_with (first | (go_at_call 87; refine (withinT_any _ _ _ _).mono ?_; rintro e w' ⟨rfl, rfl⟩))
              go_roundw
              case rel => exact ⟨k + 1, ac ++ [(j : Int)], by omega, by go_num, by rw [pow_wrap (by omega), huor], by show _ = _; rw [hac.out, hxk.take, List.append_assoc], hgood, hxr⟩
              case measure => simp [intOf]; omega
        · go_wp2_with fail
          go_roundw
          case rel => exact ⟨m + 1, ac, by omega, by go_num, rfl, by show _ = _; rw [hac.out, hacc.out, flatten_take hml, take_all (xs := l) (k := k) (by omega)], hok2, hxr⟩
          case measure => simp [intOf]; omega
    · have hall : goodAll h.bs.length plan.flatten = true := by
        have := hok.out
        rw [hacc.out, take_all (xs := plan) (k := m) (by omega)] at this
        exact this
      replace hall := Lib.hid hall
      go_wp2_with fail
      go_ret
      refine ⟨ret_bool ?_, hxr.below⟩
      unfold isPlan
      rw [hall.out, Bool.and_true]
      by_cases e : plan.length = h.ms.length
      · simp [e]
      · rw [decide_eq_false e]
        simp; omega

end Go.Proofs.Yteijmboophnmgaa

namespace Go.Proofs.Yteijmboophnmgaa
open Go.RowKit

attribute [local go_sem] Holds.drew Holds.alloc Holds.drewN WB.holds

theorem goodT_any (vm vb vt vp : Value) (h : House) (plan : List (List Int)) (H : Snap) (w : World) (hw : Holds H w) (hh : Hou H vm vb vt h) (hp : Sl H vp plan) :
    Calls Try.prog 49 #[houV vm vb vt h, vp] w (PostV w (.tuple #[.bool (valid h && isPlan h plan), .int .i64 (errT (valid h))])) := by
  cases hv : valid h
  · have he : errT (valid h) = 40 := by rw [hv]; rfl
    go_enter Try.func49, Try.ntmps49
    go_wp2_with (first | (refine wpList_boxF rfl _ rfl (Ext.refl hw) ?_; intro B w1 H1 hle hx hB hBw; obtain ⟨hc0, hc1, hc2, hc3⟩ := cellsHou hB; clear hB hw; have hw1 := hx.holds) | (go_at_call 48; refine (checkT_any _ _ _ _ _ _ hw1 (hh.mono hle)).mono ?_; rintro e w' ⟨rfl, hb2⟩))
    go_ret2
    exact ⟨rfl, hx.below.trans (hb2.mono hx.below.size)⟩
  · have he : errT (valid h) = 0 := by rw [hv]; rfl
    have hV := valid_iff.1 hv
    go_enter Try.func49, Try.ntmps49
    go_wp2_with (first | (refine wpList_boxF rfl _ rfl (Ext.refl hw) ?_; intro B w1 H1 hle hx hB hBw; obtain ⟨hc0, hc1, hc2, hc3⟩ := cellsHou hB; clear hB hw; have hw1 := hx.holds) | (go_at_call 48; refine (checkT_any _ _ _ _ _ _ hw1 (hh.mono hle)).mono ?_; rintro e w' ⟨rfl, hb2⟩; have hw2 := hw1.below hb2) | (go_at_call 94; refine (isPlanT_any _ _ _ _ _ _ _ _ hw2 (hh.mono hle) (hp.mono hle) hV.b5).mono ?_; rintro e w' ⟨rfl, hb3⟩))
    go_ret2
    exact ⟨by simp [errT], (hx.below.trans (hb2.mono hx.below.size)).trans (hb3.mono (Nat.le_trans hx.below.size hb2.size))⟩

theorem plannedT_any (vm vb vt vp : Value) (h : House) (plan : List (List Int)) (H : Snap) (w : World) (hw : Holds H w) (hh : Hou H vm vb vt h) (hp : Sl H vp plan) :
    Calls Try.prog 77 #[houV vm vb vt h, vp] w (PostV w (.int .i64 (errA (valid h) (isPlan h plan)))) := by
  cases hv : valid h
  · have he : errT (valid h) = 40 := by rw [hv]; rfl
    go_enter Try.func77, Try.ntmps77
    go_wp2_with (first | (refine wpList_boxF rfl _ rfl (Ext.refl hw) ?_; intro B w1 H1 hle hx hB hBw; obtain ⟨hc0, hc1, hc2, hc3⟩ := cellsHou hB; clear hB hw; have hw1 := hx.holds) | (go_at_call 48; refine (checkT_any _ _ _ _ _ _ hw1 (hh.mono hle)).mono ?_; rintro e w' ⟨rfl, hb2⟩))
    go_ret
    exact ⟨rfl, hx.below.trans (hb2.mono hx.below.size)⟩
  · have he : errT (valid h) = 0 := by rw [hv]; rfl
    have hV := valid_iff.1 hv
    go_enter Try.func77, Try.ntmps77
    go_wp2_with (first | (refine wpList_boxF rfl _ rfl (Ext.refl hw) ?_; intro B w1 H1 hle hx hB hBw; obtain ⟨hc0, hc1, hc2, hc3⟩ := cellsHou hB; clear hB hw; have hw1 := hx.holds) | (go_at_call 48; refine (checkT_any _ _ _ _ _ _ hw1 (hh.mono hle)).mono ?_; rintro e w' ⟨rfl, hb2⟩; have hw2 := hw1.below hb2))
    try clear h
    have hx2 := hx.step (hb2.mono hx.below.size) hw2
    refine wp_region_quietB H1 (by kernel_rfl) (by kernel_rfl) hw2 (fun hne => ?_)
    repeat go_big_quiet_step ((first | (go_at_call 94; exact Calls.quietB (isPlanT_any _ _ _ _ _ _ _ _ (WB.holds _) (hh.mono hle) (hp.mono hle) hV.b5)) | (go_at_call 68; exact Calls.quietB (askT_any _ _ _ _ _ _ _ (WB.holds _) (hh.mono hle)))))
    refine wpQuiet_nil ?_
    rintro ⟨w3, hw3, hb3⟩
    clear hne
    go_wp2_with fail
    go_ret
    exact ⟨by rw [hv]; rfl, (hx2.step (hb3.mono hx2.below.size) hw3).below⟩

end Go.Proofs.Yteijmboophnmgaa
