/- The walks of flongref04: bestOf, Plan, Fewest, Without, Times, Late, CasesOf, reach. The walks of flongref04: over, Key, Wait, Spare. -/
import Derived.Test.YteijmboophnmgaaRef4e
import Derived.Test.YteijmboophnmgaaTr13

namespace Go.Proofs.Yteijmboophnmgaa
open Go.RowKit

attribute [local go_sem] Holds.drew Holds.alloc Holds.drewN WB.holds

set_option maxRecDepth 100000 in
set_option maxHeartbeats 4000000 in
theorem bestOf4_any (vm vb vt : Value) (h : House) (stop : Int) (H : Snap) (w : World) (hw : Holds H w) (hh : Hou H vm vb vt h) (hv : Valid h) (hst : -1 ≤ stop ∧ stop ≤ 3) :
    Calls Try.prog 85 #[houV vm vb vt h, .int .i64 stop] w (Post w H fun v H' => Sl H' v (bestOf h stop)) := by
  have hpl := plansOf_isPlan hv stop
  have hne := plansOf_ne hv stop
  have hln := plansOf_len hv stop
  have hbest : Hid (bestOf h stop = firstBest (lateN h) (plansOf h stop)) := rfl
  obtain ⟨l, hl⟩ : ∃ l, Hid (l = plansOf h stop) := ⟨_, rfl⟩
  rw [← hl.out] at hpl hne hln hbest
  have hN : ∀ p, lateN h p ≤ 4 := fun p => Nat.le_trans (lateN_le h p) hv.t4
  go_enter Try.func85, Try.ntmps85
  go_wp2_with (first | (refine wpList_boxF rfl _ rfl (Ext.refl hw) ?_; intro B w1 H1 hle hx hB hBw; obtain ⟨hc0, hc1, hc2, hc3⟩ := cellsHou hB; clear hB hw; have hw1 := hx.holds) | (go_at_call 75; refine (plansOf4_any _ _ _ _ _ _ _ hw1 (hh.mono hle) hv hst).mono ?_; rintro e w' ⟨v5, H2, rfl, hx5, ho5⟩; rw [← hl.out] at ho5; obtain ⟨H3, hx3, hle3, hs3, _⟩ := ho5.close hx5; have hw3 := hx3.holds; have hle13 := hx3.le hw1; have hx3' := hx.trans hx3; clear ho5 hx5; obtain ⟨a5, c5, e5, _, _⟩ := hs3.form; subst e5))
  replace hc0 := lift hle13 hc0
  replace hc1 := lift hle13 hc1
  replace hc2 := lift hle13 hc2
  replace hc3 := lift hle13 hc3
  have hhm := (hh.mono hle).mono hle13
  clear hx hw1 hle hle3 hle13 hx3
  obtain ⟨x0, hx0⟩ := At.mk hne
  obtain ⟨b, o, c, u, he, hu, hr⟩ := hs3.list hx0
  cases he
  rw [Nat.add_zero] at hr
  go_cut [6, 7] (fun b n wx => b = .int .i64 0 ∧ n = .int .i64 (lateN h x0 : Nat) ∧ Ext w H wx H3)
  case first =>
    go_region_held3 (fun w' => Holds H3 w' ∧ Ext w H w' H3)
      (first | assumption | exact ⟨by assumption, by assumption⟩ | (go_split_ands; exact ⟨Holds.drew (by assumption), Ext.drew (by assumption)⟩))
      (first
        | (go_split_ands; go_at_call 63; refine (lateOf4_any _ _ _ _ _ _ H3 _ (by assumption) hhm hu hv (hpl _ hx0.mem)).mono ?_; rintro e w' ⟨v, H4, rfl, hx4, hs4⟩; obtain ⟨a4, c4, rfl, _, _⟩ := hs4.form; have hk1 : Holds H3 w' := hx4.old (by assumption); have hk2 : Ext w H w' H3 := (by assumption : Ext w H _ H3).step (hx4.below.mono (by assumption : Ext w H _ H3).below.size) hk1))
    all_goals
      go_wp2_with fail
      go_meet
      exact ⟨rfl, rfl, by assumption⟩
  case rest =>
    obtain ⟨rfl, rfl, hxc⟩ := hcut
    clear hx3' hw3
    go_wp2_with fail
    go_loopw [6, 7, 8, 9] (fun b n i _ wr => ∃ (k j : Nat) (x : List (List Int)), 1 ≤ k ∧ k ≤ l.length ∧ i = .int .i64 k ∧ b = .int .i64 j ∧ n = .int .i64 (lateN h x : Nat) ∧ Hid (At l j x ∧ x = bst (lateN h) (l.take k) x0) ∧ Ext w H wr H3) (fun _ _ i _ _ => l.length - (intOf i).toNat)
    case atStart => exact ⟨1, 0, x0, by omega, by omega, rfl, rfl, rfl, ⟨hx0, by rw [bst_take hx0]; simp [bst]⟩, hxc⟩
    case round =>
      clear hxc
      obtain ⟨k, j, x, hk1, hk, rfl, rfl, rfl, hjx, hxr⟩ := hrel
      have hwr := hxr.holds
      by_cases hlk : k < l.length
      · obtain ⟨y, hyk⟩ := At.mk hlk
        obtain ⟨b, o, c, u, he, hu, hr⟩ := hs3.list hyk
        cases he
        have hNy := hN y
        have hNx := hN x
        have hsucc : Hid (bst (lateN h) (l.take (k + 1)) x0 = if lateN h y < lateN h x then y else x) := by
          show _ = _
          rw [bst_take hyk, ← hjx.out.2]
        cases hlt : decide (lateN h y < lateN h x)
        all_goals
          go_upto_region 6 with fail
          go_cut [9] (fun n wx => n = .int .i64 (lateN h y : Nat) ∧ Ext w H wx H3)
          case first =>
            go_region_held3 (fun w' => Holds H3 w' ∧ Ext w H w' H3)
              (first | assumption | exact ⟨by assumption, by assumption⟩ | (go_split_ands; exact ⟨Holds.drew (by assumption), Ext.drew (by assumption)⟩))
              (first
                | (go_split_ands; go_at_call 63; refine (lateOf4_any _ _ _ _ _ _ H3 _ (by assumption) hhm hu hv (hpl _ hyk.mem)).mono ?_; rintro e w' ⟨v, H4, rfl, hx4, hs4⟩; obtain ⟨a4, c4, rfl, _, _⟩ := hs4.form; have hk1 : Holds H3 w' := hx4.old (by assumption); have hk2 : Ext w H w' H3 := (by assumption : Ext w H _ H3).step (hx4.below.mono (by assumption : Ext w H _ H3).below.size) hk1))
            all_goals
              go_wp2_with fail
              go_meet
              exact ⟨rfl, by assumption⟩
        · case rest =>
            obtain ⟨rfl, hxc⟩ := hcut
            go_wp2_with fail
            go_roundw
            case rel => exact ⟨k + 1, j, x, by omega, by omega, by go_num, rfl, rfl, ⟨hjx.out.1, by rw [hsucc.out, if_neg (by simpa using hlt)]⟩, hxc⟩
            case measure => simp [intOf]; omega
        · case rest =>
            obtain ⟨rfl, hxc⟩ := hcut
            go_wp2_with fail
            go_roundw
            case rel => exact ⟨k + 1, k, y, by omega, by omega, by go_num, rfl, rfl, ⟨hyk, by rw [hsucc.out, if_pos (by simpa using hlt)]⟩, hxc⟩
            case measure => simp [intOf]; omega
      · obtain ⟨hjx1, hjx2⟩ := hjx.out
        obtain ⟨b, o, c, u, he, hu, hr⟩ := hs3.list hjx1
        cases he
        have hjl := hjx1.lt
        have hjx' := Lib.hid hjx2
        clear hjx2 hjx
        go_wp2_with fail
        go_ret
        refine ⟨_, H3, rfl, hxr, ?_⟩
        rw [hbest.out]
        unfold firstBest
        rw [hx0.getD, ← take_all (xs := l) (k := k) (by omega), ← hjx'.out]
        exact hu

def planOf (h : House) : List (List Int) := if valid h then bestOf h (-1) else []

theorem plan4_any (vm vb vt : Value) (h : House) (H : Snap) (w : World) (hw : Holds H w) (hh : Hou H vm vb vt h) :
    Calls Try.prog 58 #[houV vm vb vt h] w (Post w H fun v H' => ∃ u, v = .tuple #[u, .int .i64 (errT (valid h))] ∧ Sl H' u (planOf h)) := by
  cases hv : valid h
  · have he : errT (valid h) = 40 := by rw [hv]; rfl
    go_enter Try.func58, Try.ntmps58
    go_wp2_with (first | (refine wpList_boxF rfl _ rfl (Ext.refl hw) ?_; intro B w1 H1 hle hx hB hBw; obtain ⟨hc0, hc1, hc2, hc3⟩ := cellsHou hB; clear hB hw; have hw1 := hx.holds) | (go_at_call 35; refine (check4_any _ _ _ _ _ _ hw1 (hh.mono hle)).mono ?_; rintro e w' ⟨rfl, hb2⟩))
    go_ret2
    exact ⟨_, H1, rfl, hx.step (hb2.mono hx.below.size) (hw1.below hb2), _, rfl, by unfold planOf; rw [hv]; exact Sl.nil0 _⟩
  · have he : errT (valid h) = 0 := by rw [hv]; rfl
    have hV := valid_iff.1 hv
    go_enter Try.func58, Try.ntmps58
    go_wp2_with (first | (refine wpList_boxF rfl _ rfl (Ext.refl hw) ?_; intro B w1 H1 hle hx hB hBw; obtain ⟨hc0, hc1, hc2, hc3⟩ := cellsHou hB; clear hB hw; have hw1 := hx.holds) | (go_at_call 35; refine (check4_any _ _ _ _ _ _ hw1 (hh.mono hle)).mono ?_; rintro e w' ⟨rfl, hb2⟩; have hw2 := hw1.below hb2) | (go_at_call 85; refine (bestOf4_any _ _ _ _ _ _ _ hw2 (hh.mono hle) hV (by omega)).mono ?_; rintro e w' ⟨v, H3, rfl, hx3, hs3⟩))
    go_ret2
    exact ⟨_, H3, rfl, (hx.step (hb2.mono hx.below.size) hw2).trans hx3, _, rfl, by unfold planOf; rw [hv]; exact hs3⟩

def fewestOf (h : House) : Int := if valid h then (lateN h (bestOf h (-1)) : Nat) else 0

theorem fewest4_any (vm vb vt : Value) (h : House) (H : Snap) (w : World) (hw : Holds H w) (hh : Hou H vm vb vt h) :
    Calls Try.prog 56 #[houV vm vb vt h] w (PostV w (.tuple #[.int .i64 (fewestOf h), .int .i64 (errT (valid h))])) := by
  cases hv : valid h
  · have he : errT (valid h) = 40 := by rw [hv]; rfl
    have hf : fewestOf h = 0 := by unfold fewestOf; rw [hv]; rfl
    go_enter Try.func56, Try.ntmps56
    go_wp2_with (first | (refine wpList_boxF rfl _ rfl (Ext.refl hw) ?_; intro B w1 H1 hle hx hB hBw; obtain ⟨hc0, hc1, hc2, hc3⟩ := cellsHou hB; clear hB hw; have hw1 := hx.holds) | (go_at_call 58; refine (plan4_any _ _ _ _ _ _ hw1 (hh.mono hle)).mono ?_; rintro e w' ⟨v, H2, rfl, hx2, u, rfl, hs2⟩; rw [he]))
    go_ret2
    exact ⟨by rw [hf]; rfl, (hx.trans hx2).below⟩
  · have he : errT (valid h) = 0 := by rw [hv]; rfl
    have hV := valid_iff.1 hv
    have hp : planOf h = bestOf h (-1) := by unfold planOf; rw [hv]; rfl
    have hf : fewestOf h = (lateN h (bestOf h (-1)) : Nat) := by unfold fewestOf; rw [hv]; rfl
    go_enter Try.func56, Try.ntmps56
    go_wp2_with (first | (refine wpList_boxF rfl _ rfl (Ext.refl hw) ?_; intro B w1 H1 hle hx hB hBw; obtain ⟨hc0, hc1, hc2, hc3⟩ := cellsHou hB; clear hB hw; have hw1 := hx.holds) | (go_at_call 58; refine (plan4_any _ _ _ _ _ _ hw1 (hh.mono hle)).mono ?_; rintro e w' ⟨v, H2, rfl, hx2, u, rfl, hs2⟩; rw [he]; have hw2 := hx2.holds; have hle2 := hx2.le hw1; rw [hp] at hs2; have hd0 := lift hle2 hc0; have hd1 := lift hle2 hc1; have hd2 := lift hle2 hc2; have hd3 := lift hle2 hc3) | (go_at_call 63; refine (lateOf4_any _ _ _ _ _ _ _ _ hw2 ((hh.mono hle).mono hle2) hs2 hV (bestOf_isPlan hV _)).mono ?_; rintro e w' ⟨v, H3, rfl, hx3, hs3⟩; obtain ⟨a', c', rfl, _, _⟩ := hs3.form))
    go_ret2
    exact ⟨by rw [hf]; rfl, ((hx.trans hx2).trans hx3).below⟩

def withoutOf (h : House) (m : Int) : List (List Int) := if valid h && within m 0 ((h.ms.length : Int) - 1) then bestOf h m else []

theorem without4_any (vm vb vt : Value) (h : House) (m : Int) (H : Snap) (w : World) (hw : Holds H w) (hh : Hou H vm vb vt h) :
    Calls Try.prog 60 #[houV vm vb vt h, .int .i64 m] w (Post w H fun v H' => ∃ u, v = .tuple #[u, .int .i64 (errA (valid h) (within m 0 ((h.ms.length : Int) - 1)))] ∧ Sl H' u (withoutOf h m)) := by
  obtain ⟨am, cm, rfl, hm1, hm2⟩ := hh.m.form
  cases hv : (valid h && within m 0 ((h.ms.length : Int) - 1))
  · have he : errA (valid h) (within m 0 ((h.ms.length : Int) - 1)) = 40 ∨ errA (valid h) (within m 0 ((h.ms.length : Int) - 1)) = 1 := by
      cases h1 : valid h <;> cases h2 : within m 0 ((h.ms.length : Int) - 1) <;> simp_all [errA]
    have hwo : withoutOf h m = [] := by unfold withoutOf; rw [hv]; rfl
    rcases he with he | he
    all_goals
      go_enter Try.func60, Try.ntmps60
      go_wp2_with (first | (refine wpList_boxF rfl _ rfl (Ext.refl hw) ?_; intro B w1 H1 hle hx hB hBw; obtain ⟨hc0, hc1, hc2, hc3⟩ := cellsHou hB; clear hB hw; have hw1 := hx.holds))
      refine wp_region_quietB H1 (by kernel_rfl) (by kernel_rfl) hw1 (fun hne => ?_)
      repeat go_big_quiet_step ((first | (go_at_call 65; exact Calls.quietB (isMachine4_any _ _ _ _ _ _ _ (WB.holds _) (hh.mono hle))) | (go_at_call 73; exact Calls.quietB (ask4_any _ _ _ _ _ _ _ (WB.holds _) (hh.mono hle)))))
      refine wpQuiet_nil ?_
      rintro ⟨w2, hw2, hb2⟩
      clear hne
      go_wp2_with fail
      go_ret2
      exact ⟨_, H1, rfl, hx.step (hb2.mono hx.below.size) hw2, by rw [he, hwo]; exact ⟨_, rfl, Sl.nil0 _⟩⟩
  · simp only [Bool.and_eq_true] at hv
    obtain ⟨hv1, hv2⟩ := hv
    have he : errA (valid h) (within m 0 ((h.ms.length : Int) - 1)) = 0 := by simp [errA, hv1, hv2]
    have hwo : withoutOf h m = bestOf h m := by unfold withoutOf; rw [hv1, hv2]; rfl
    have hV := valid_iff.1 hv1
    have hm3 := hV.m3
    have hmb := within_iff.1 hv2
    clear hv1 hv2
    go_enter Try.func60, Try.ntmps60
    go_wp2_with (first | (refine wpList_boxF rfl _ rfl (Ext.refl hw) ?_; intro B w1 H1 hle hx hB hBw; obtain ⟨hc0, hc1, hc2, hc3⟩ := cellsHou hB; clear hB hw; have hw1 := hx.holds))
    refine wp_region_quietB H1 (by kernel_rfl) (by kernel_rfl) hw1 (fun hne => ?_)
    repeat go_big_quiet_step ((first | (go_at_call 65; exact Calls.quietB (isMachine4_any _ _ _ _ _ _ _ (WB.holds _) (hh.mono hle))) | (go_at_call 73; exact Calls.quietB (ask4_any _ _ _ _ _ _ _ (WB.holds _) (hh.mono hle)))))
    refine wpQuiet_nil ?_
    rintro ⟨w2, hw2, hb2⟩
    clear hne
    go_wp2_with (first | (go_at_call 85; refine (bestOf4_any _ _ _ _ _ _ _ hw2 (hh.mono hle) hV (by omega)).mono ?_; rintro e w' ⟨v, H3, rfl, hx3, hs3⟩))
    go_ret2
    exact ⟨_, H3, rfl, (hx.step (hb2.mono hx.below.size) hw2).trans hx3, by rw [he, hwo]; exact ⟨_, rfl, hs3⟩⟩


theorem times4_any (vm vb vt vp : Value) (h : House) (plan : List (List Int)) (H : Snap) (w : World) (hw : Holds H w) (hh : Hou H vm vb vt h) (hp : Sl H vp plan) (hsz : plan.flatten.length ≤ 1000000) :
    Calls Try.prog 52 #[houV vm vb vt h, vp] w (Post w H fun v H' => ∃ u, v = .tuple #[u, .int .i64 (errA (valid h) (isPlan h plan))] ∧ Sl H' u (timesA h plan)) := by
  cases hv : (valid h && isPlan h plan)
  · have he : errA (valid h) (isPlan h plan) = 40 ∨ errA (valid h) (isPlan h plan) = 1 := by
      cases h1 : valid h <;> cases h2 : isPlan h plan <;> simp_all [errA]
    have hwo : timesA h plan = [] := by unfold timesA; rw [hv]; rfl
    rcases he with he | he
    all_goals
      go_enter Try.func52, Try.ntmps52
      go_wp2_with (first | (refine wpList_boxF rfl _ rfl (Ext.refl hw) ?_; intro B w1 H1 hle hx hB hBw; obtain ⟨hc0, hc1, hc2, hc3⟩ := cellsHou hB; clear hB hw; have hw1 := hx.holds) | (go_at_call 96; refine (given4_any _ _ _ _ _ _ _ _ hw1 (hh.mono hle) (hp.mono hle) hsz).mono ?_; rintro e w' ⟨rfl, hb2⟩))
      go_ret2
      exact ⟨_, H1, rfl, hx.step (hb2.mono hx.below.size) (hw1.below hb2), by rw [he, hwo]; exact ⟨_, rfl, Sl.nil0 _⟩⟩
  · simp only [Bool.and_eq_true] at hv
    obtain ⟨hv1, hv2⟩ := hv
    have he : errA (valid h) (isPlan h plan) = 0 := by simp [errA, hv1, hv2]
    have hwo : timesA h plan = timesOf h plan := by unfold timesA; rw [hv1, hv2]; rfl
    have hV := valid_iff.1 hv1
    clear hv1
    replace hv2 := Lib.hid hv2
    go_enter Try.func52, Try.ntmps52
    go_wp2_with (first | (refine wpList_boxF rfl _ rfl (Ext.refl hw) ?_; intro B w1 H1 hle hx hB hBw; obtain ⟨hc0, hc1, hc2, hc3⟩ := cellsHou hB; clear hB hw; have hw1 := hx.holds) | (go_at_call 96; refine (given4_any _ _ _ _ _ _ _ _ hw1 (hh.mono hle) (hp.mono hle) hsz).mono ?_; rintro e w' ⟨rfl, hb2⟩; have hw2 := hw1.below hb2) | (go_at_call 97; refine (timesOf4_any _ _ _ _ _ _ _ _ hw2 (hh.mono hle) (hp.mono hle) hV hv2.out).mono ?_; rintro e w' ⟨v, H3, rfl, hx3, hs3⟩))
    go_ret2
    exact ⟨_, H3, rfl, (hx.step (hb2.mono hx.below.size) hw2).trans hx3, by rw [he, hwo]; exact ⟨_, rfl, hs3⟩⟩

theorem late4_any (vm vb vt vp : Value) (h : House) (plan : List (List Int)) (H : Snap) (w : World) (hw : Holds H w) (hh : Hou H vm vb vt h) (hp : Sl H vp plan) (hsz : plan.flatten.length ≤ 1000000) :
    Calls Try.prog 53 #[houV vm vb vt h, vp] w (Post w H fun v H' => ∃ u, v = .tuple #[u, .int .i64 (errA (valid h) (isPlan h plan))] ∧ Sl H' u (lateA h plan)) := by
  cases hv : (valid h && isPlan h plan)
  · have he : errA (valid h) (isPlan h plan) = 40 ∨ errA (valid h) (isPlan h plan) = 1 := by
      cases h1 : valid h <;> cases h2 : isPlan h plan <;> simp_all [errA]
    have hwo : lateA h plan = [] := by unfold lateA; rw [hv]; rfl
    rcases he with he | he
    all_goals
      go_enter Try.func53, Try.ntmps53
      go_wp2_with (first | (refine wpList_boxF rfl _ rfl (Ext.refl hw) ?_; intro B w1 H1 hle hx hB hBw; obtain ⟨hc0, hc1, hc2, hc3⟩ := cellsHou hB; clear hB hw; have hw1 := hx.holds) | (go_at_call 96; refine (given4_any _ _ _ _ _ _ _ _ hw1 (hh.mono hle) (hp.mono hle) hsz).mono ?_; rintro e w' ⟨rfl, hb2⟩))
      go_ret2
      exact ⟨_, H1, rfl, hx.step (hb2.mono hx.below.size) (hw1.below hb2), by rw [he, hwo]; exact ⟨_, rfl, Sl.nil0 _⟩⟩
  · simp only [Bool.and_eq_true] at hv
    obtain ⟨hv1, hv2⟩ := hv
    have he : errA (valid h) (isPlan h plan) = 0 := by simp [errA, hv1, hv2]
    have hwo : lateA h plan = lateOf h plan := by unfold lateA; rw [hv1, hv2]; rfl
    have hV := valid_iff.1 hv1
    clear hv1
    replace hv2 := Lib.hid hv2
    go_enter Try.func53, Try.ntmps53
    go_wp2_with (first | (refine wpList_boxF rfl _ rfl (Ext.refl hw) ?_; intro B w1 H1 hle hx hB hBw; obtain ⟨hc0, hc1, hc2, hc3⟩ := cellsHou hB; clear hB hw; have hw1 := hx.holds) | (go_at_call 96; refine (given4_any _ _ _ _ _ _ _ _ hw1 (hh.mono hle) (hp.mono hle) hsz).mono ?_; rintro e w' ⟨rfl, hb2⟩; have hw2 := hw1.below hb2) | (go_at_call 63; refine (lateOf4_any _ _ _ _ _ _ _ _ hw2 (hh.mono hle) (hp.mono hle) hV hv2.out).mono ?_; rintro e w' ⟨v, H3, rfl, hx3, hs3⟩))
    go_ret2
    exact ⟨_, H3, rfl, (hx.step (hb2.mono hx.below.size) hw2).trans hx3, by rw [he, hwo]; exact ⟨_, rfl, hs3⟩⟩

set_option maxHeartbeats 4000000 in
theorem casesOf4_any (vm vb vt : Value) (h : House) (H : Snap) (w : World) (hw : Holds H w) (hh : Hou H vm vb vt h) (hv : Valid h) :
    Calls Try.prog 74 #[houV vm vb vt h] w (Post w H fun v H' => Sl H' v (casesOf h)) := by
  obtain ⟨am, cm, rfl, hm1, hm2⟩ := hh.m.form
  have hm3 := hv.m3
  go_enter Try.func74, Try.ntmps74
  go_wp2_with (first | (refine wpList_boxF rfl _ rfl (Ext.refl hw) ?_; intro B w1 H1 hle hx hB hBw; obtain ⟨hc0, hc1, hc2, hc3⟩ := cellsHou hB; clear hB hw; have hw1 := hx.holds))
  have hmm := hh.m.mono hle
  go_loopw [3, 4] (fun v i wr => ∃ (k : Nat) (acc : List Int), k ≤ h.ms.length ∧ i = .int .i64 k ∧ Hid (acc = casesTo h k) ∧ Ext w H wr H1 ∧ Own H1 w.heap.size wr 3 v acc) (fun _ i _ => h.ms.length - (intOf i).toNat)
  case atStart =>
    exact ⟨0, [-1], Nat.zero_le _, rfl, rfl, hx.alloc _, Own.lit (xs := [-1]) (cs := [.int .i64 (-1)]) hw1 (reps_int.2 ⟨rfl, by simp [I64]⟩) _ hx.below.size (by simp [Enc.by_]) (by simp)⟩
  case round =>
    clear hx hw1
    obtain ⟨k, acc, hk, rfl, hacc, hxr, hown⟩ := hrel
    have hwr := hxr.holds
    by_cases hlk : k < h.ms.length
    · obtain ⟨mc, hmc⟩ := At.mk hlk
      obtain ⟨bm, om, cm', he, ⟨hmr, hmp, hms⟩, hcr, hcp, hcs⟩ := hmm.mach hmc
      cases he
      have hsucc := casesTo_succ h k
      rw [hmc.mach] at hsucc
      have hacl : acc.length ≤ 4 := by rw [hacc.out]; exact Nat.le_trans (casesTo_len h k) (by omega)
      cases hl : (mc.s == 1)
      · rw [if_neg (by simpa using hl)] at hsucc
        replace hsucc := Lib.hid hsucc
        go_wp2_with fail
        go_roundw
        case rel => exact ⟨k + 1, acc, by omega, by go_num, by show acc = _; rw [hacc.out, hsucc.out], hxr, hown⟩
        case measure => simp [intOf]; omega
      · rw [if_pos (by simpa using hl)] at hsucc
        replace hsucc := Lib.hid hsucc
        go_wp2_with (first | ((at_builtin; have hgd := hown; clear hgd; refine wpList_app1I eInt _ _ hxr hown (k : Int) (by unfold I64; omega) (by omega) rfl rfl rfl rfl ?_; intro vA wA hownA hxA hwA)))
        go_roundw
        case rel => exact ⟨k + 1, _, by omega, by go_num, by show _ = _; rw [hsucc.out, ← hacc.out], hxA, hownA⟩
        case measure => simp [intOf]; omega
    · go_wp2_with fail
      go_ret
      obtain ⟨H', hx', hle', hs', _⟩ := hown.close hxr
      refine ⟨_, H', rfl, hx', ?_⟩
      rw [hacc.out, show k = h.ms.length by omega] at hs'
      exact hs'

theorem reach4_any (va vb : Value) (late : List (List Int)) (told : List Int) (H : Snap) (w : World) (hw : Holds H w) (ha : Sl H va late) (hb : Sl H vb told) :
    Calls Try.prog 106 #[va, vb] w (PostV w (.bool (reach late told))) := by
  obtain ⟨aa, ca, rfl, ha1, ha2⟩ := ha.form
  obtain ⟨ab, cb, rfl, hb1, hb2⟩ := hb.form
  go_enter Try.func106, Try.ntmps106
  go_wp2
  go_loopw [5, 6, 7] (fun i _ _ wr => ∃ k : Nat, k ≤ late.length ∧ i = .int .i64 k ∧ Hid (reach (late.take k) told = false) ∧ Ext w H wr H) (fun i _ _ _ => late.length - (intOf i).toNat)
  case atStart => exact ⟨0, Nat.zero_le _, rfl, rfl, Ext.refl hw⟩
  case round =>
    obtain ⟨k, hk, rfl, hok, hxr⟩ := hrel
    have hwr := hxr.holds
    by_cases hlk : k < late.length
    · obtain ⟨l, hml⟩ := At.mk hlk
      obtain ⟨b, o, c, u, he, hu, hr⟩ := ha.list hml
      cases he
      obtain ⟨al, cl, rfl, hl1, hl2⟩ := hu.form
      go_wp2_with fail
      go_loopw [6, 7] (fun x i wr => ∃ j : Nat, j ≤ l.length ∧ i = .int .i64 j ∧ x = .bool ((l.take j).all fun t => decide (t ∈ told)) ∧ Ext w H wr H) (fun _ i _ => l.length - (intOf i).toNat)
      case atStart => exact ⟨0, Nat.zero_le _, rfl, by simp, hxr⟩
      case round =>
        clear hxr hwr
        obtain ⟨j, hj, rfl, rfl, hxr⟩ := hrel
        have hwr := hxr.holds
        by_cases hlj : j < l.length
        · obtain ⟨x, hxj⟩ := At.mk hlj
          obtain ⟨b', o', c', he, hi, hr'⟩ := hu.int hxj
          cases he
          have hsucc : Hid (((l.take (j + 1)).all fun t => decide (t ∈ told)) = (((l.take j).all fun t => decide (t ∈ told)) && decide (x ∈ told))) := by
            show _ = _
            rw [hxj.take, List.all_append]; simp
          cases hin : (l.take j).all fun t => decide (t ∈ told)
          · go_wp2_with fail
            go_roundw
            case rel => exact ⟨j + 1, by omega, by go_num, by rw [hsucc.out, hin]; rfl, hxr⟩
            case measure => simp [intOf]; omega
          · go_wp2_with (first | (go_at_call 37; refine (in_any _ _ _ _ _ hwr hb).mono ?_; rintro e w' ⟨rfl, hb2⟩))
            go_roundw
            case rel => exact ⟨j + 1, by omega, by go_num, by rw [hsucc.out, hin]; simp, hxr.step (hb2.mono hxr.below.size) (hwr.below hb2)⟩
            case measure => simp [intOf]; omega
        · have hall : l.take j = l := take_all (xs := l) (k := j) (by omega)
          cases hin : (l.take j).all fun t => decide (t ∈ told)
          · replace hall := Lib.hid hall
            go_wp2_with fail
            go_roundw
            case rel => exact ⟨k + 1, by omega, by go_num, by show reach _ _ = _; rw [hall.out] at hin; unfold reach; rw [hml.take, List.any_append, show (late.take k).any _ = _ from hok.out]; simp only [List.any_cons, hin]; rfl, hxr⟩
            case measure => simp [intOf]; omega
          · replace hall := Lib.hid hall
            go_wp2_with fail
            go_ret
            exact ⟨ret_bool (by rw [hall.out] at hin; unfold reach; symm; rw [List.any_eq_true]; exact ⟨l, hml.mem, hin⟩), hxr.below⟩
    · go_wp2_with fail
      go_ret
      have h1 := hok.out
      rw [take_all (xs := late) (k := k) (by omega)] at h1
      exact ⟨ret_bool h1.symm, hxr.below⟩

end Go.Proofs.Yteijmboophnmgaa

namespace Go.Proofs.Yteijmboophnmgaa
open Go.RowKit

attribute [local go_sem] Holds.drew Holds.alloc Holds.drewN WB.holds

set_option maxRecDepth 100000 in
set_option maxHeartbeats 4000000 in
theorem over4_any (vm vb vt vp : Value) (h : House) (plan : List (List Int)) (t : Nat) (H : Snap) (w : World) (hw : Holds H w) (hh : Hou H vm vb vt h) (hp : Sl H vp plan) (hv : Valid h) (hpl : isPlan h plan = true) (ht : t < h.ts.length) :
    Calls Try.prog 76 #[houV vm vb vt h, vp, .int .i64 t] w (PostV w (.int .i64 (overOf h plan t))) := by
  obtain ⟨ab, cb, rfl, hb1, hb2⟩ := hh.b.form
  obtain ⟨at', ct, rfl, ht1, ht2⟩ := hh.t.form
  have hb5 := hv.b5
  have ht4 := hv.t4
  have htb := timesOf_bd hv hpl
  have hob : ∀ (k : Nat) (o : Int), overTo h (timesOf h plan) t k = some o → -100000 ≤ o ∧ o ≤ 1000 := overTo_bd htb (fun x hx => by have := List.all_eq_true.1 hv.ts x hx; exact within_iff.1 this)
  have hover : Hid (overOf h plan t = (overTo h (timesOf h plan) t h.bs.length).getD 100000) := rfl
  obtain ⟨tr, htr⟩ := At.mk ht
  have htrb := ts_bd hv htr
  go_enter Try.func76, Try.ntmps76
  go_wp2_with (first | (refine wpList_boxF rfl _ rfl (Ext.refl hw) ?_; intro B w1 H1 hle hx hB hBw; obtain ⟨hc0, hc1, hc2, hc3⟩ := cellsHou hB; clear hB hw; have hw1 := hx.holds) | (go_at_call 97; refine (timesOf4_any _ _ _ _ _ _ _ _ hw1 (hh.mono hle) (hp.mono hle) hv hpl).mono ?_; rintro e w' ⟨v5, H2, rfl, hx5, hs5⟩; have hw2 := hx5.holds; have hw2' := hx5.old hw1))
  have hle5 := hx5.le hw1
  have hx2 := hx.trans hx5
  replace hc0 := lift hle5 hc0
  replace hc1 := lift hle5 hc1
  replace hc2 := lift hle5 hc2
  replace hc3 := lift hle5 hc3
  have htm := (hh.t.mono hle).mono hle5
  have hbm := (hh.b.mono hle).mono hle5
  obtain ⟨a5, c5, e5, _, _⟩ := hs5.form
  have htl0 := timesOf_len h plan
  obtain ⟨times, htimes⟩ : ∃ times, Hid (times = timesOf h plan) := ⟨_, rfl⟩
  rw [← htimes.out] at hs5 e5 htb hob hover htl0
  have htl : Hid (times.length = h.bs.length) := Lib.hid htl0
  clear htl0
  rw [htl.out] at e5
  subst e5
  clear hx hx5 hw1 hw2' hle
  obtain ⟨bt, ot, ctt, het, hit, hct⟩ := htm.int htr
  cases het
  go_loopw [8, 9] (fun o i wr => ∃ (k : Nat) (ov : Int), k ≤ h.bs.length ∧ i = .int .i64 k ∧ o = .int .i64 ov ∧ Hid (overTo h times t k = some ov) ∧ (-100000 ≤ ov ∧ ov ≤ 1000) ∧ Ext w H wr H2) (fun _ i _ => h.bs.length - (intOf i).toNat)
  case atStart => exact ⟨0, -100000, Nat.zero_le _, rfl, rfl, rfl, by omega, hx2⟩
  case round =>
    obtain ⟨k, ov, hk, rfl, rfl, hov, hovb, hxr⟩ := hrel
    have hwr := hxr.holds
    by_cases hlk : k < h.bs.length
    · obtain ⟨y, hyk⟩ := At.mk hlk
      obtain ⟨x, hxk⟩ := At.mk (xs := times) (k := k) (by rw [htl.out]; exact hlk)
      obtain ⟨bb, ob, cb', he, ⟨hy1, hy2, hy3⟩, hcyt, hchh, hce⟩ := hbm.bund hyk
      cases he
      obtain ⟨bx, ox, cx, he, hix, hcx⟩ := hs5.int hxk
      rw [htl.out] at he
      cases he
      have hxb := htb x hxk.mem
      have hsucc : Hid (overTo h times t (k + 1) = if y.t = (t : Int) then (if x < 0 then none else some (max ov (x - tr))) else some ov) := by
        show _ = _
        simp only [overTo, hov.out, hyk.bund, hxk.getD, Int.toNat_natCast, htr.getD]
      cases g1 : (y.t != (t : Int))
      · have g1' : Hid (y.t = (t : Int)) := Lib.hid (by simpa using g1)
        cases g2 : decide (x < 0)
        · have g2' : Hid (¬ x < 0) := Lib.hid (by simpa using g2)
          go_wp2_with fail
          refine wp_region_quietB H2 (by kernel_rfl) (by kernel_rfl) hwr (fun hne => ?_)
          repeat go_big_quiet_step ((first | fail))
          refine wpQuiet_nil ?_
          rintro ⟨w2, hw2, hb2⟩
          clear hne
          go_wp2_with fail
          have hs2 := hsucc.out
          rw [if_pos g1'.out, if_neg (by have := g2'.out; omega)] at hs2
          have hnew := hob _ _ hs2
          replace hs2 := Lib.hid hs2
          go_roundw
          case rel => exact ⟨k + 1, max ov (x - tr), by omega, by go_num, by go_num, hs2, hnew, hxr.step (hb2.mono hxr.below.size) hw2⟩
          case measure => simp [intOf]; omega
        · have g2' : Hid (x < 0) := Lib.hid (by simpa using g2)
          go_wp2_with fail
          go_ret
          refine ⟨ret_int ?_, hxr.below⟩
          rw [hover.out]
          have hs2 := hsucc.out
          rw [if_pos g1'.out, if_pos g2'.out] at hs2
          have := overTo_none hs2 (h.bs.length - (k + 1))
          rw [show k + 1 + (h.bs.length - (k + 1)) = h.bs.length by omega] at this
          rw [this]; rfl
      · have g1' : Hid (¬ y.t = (t : Int)) := Lib.hid (by simpa using g1)
        go_wp2_with fail
        go_roundw
        case rel => exact ⟨k + 1, ov, by omega, by go_num, rfl, by show _ = _; rw [hsucc.out, if_neg g1'.out], hovb, hxr⟩
        case measure => simp [intOf]; omega
    · go_wp2_with fail
      go_ret
      refine ⟨ret_int ?_, hxr.below⟩
      rw [hover.out, show h.bs.length = k by omega, hov.out]; rfl

set_option maxRecDepth 100000 in
set_option maxHeartbeats 4000000 in
theorem key4_any (vm vb vt : Value) (h : House) (H : Snap) (w : World) (hw : Holds H w) (hh : Hou H vm vb vt h) :
    Calls Try.prog 44 #[houV vm vb vt h] w (PostV w (.tuple #[.int .i64 (if valid h then keyOf h else 0), .int .i64 (errT (valid h))])) := by
  obtain ⟨am, cm, rfl, hm1, hm2⟩ := hh.m.form
  cases hv : valid h
  · have he : errT (valid h) = 40 := by rw [hv]; rfl
    go_enter Try.func44, Try.ntmps44
    go_wp2_with (first | (refine wpList_boxF rfl _ rfl (Ext.refl hw) ?_; intro B w1 H1 hle hx hB hBw; obtain ⟨hc0, hc1, hc2, hc3⟩ := cellsHou hB; clear hB hw; have hw1 := hx.holds) | (go_at_call 35; refine (check4_any _ _ _ _ _ _ hw1 (hh.mono hle)).mono ?_; rintro e w' ⟨rfl, hb2⟩))
    go_ret2
    exact ⟨rfl, hx.below.trans (hb2.mono hx.below.size)⟩
  · have he : errT (valid h) = 0 := by rw [hv]; rfl
    have hV := valid_iff.1 hv
    have hm3 := hV.m3
    have ht4 := hV.t4
    have hN : ∀ p, lateN h p ≤ 4 := fun p => Nat.le_trans (lateN_le h p) ht4
    rw [if_pos rfl]
    have hkey : Hid (keyOf h = (keyTo h h.ms.length).1) := rfl
    go_enter Try.func44, Try.ntmps44
    go_wp2_with (first | (refine wpList_boxF rfl _ rfl (Ext.refl hw) ?_; intro B w1 H1 hle hx hB hBw; obtain ⟨hc0, hc1, hc2, hc3⟩ := cellsHou hB; clear hB hw; have hw1 := hx.holds) | (go_at_call 35; refine (check4_any _ _ _ _ _ _ hw1 (hh.mono hle)).mono ?_; rintro e w' ⟨rfl, hb2⟩; have hw2 := hw1.below hb2))
    try clear h
    have hx2 := hx.step (hb2.mono hx.below.size) hw2
    go_loopw [5, 6, 7, 8] (fun b n i _ wr => ∃ (k : Nat) (bb nn : Int), k ≤ h.ms.length ∧ i = .int .i64 k ∧ b = .int .i64 bb ∧ n = .int .i64 nn ∧ Hid (keyTo h k = (bb, nn)) ∧ (0 ≤ bb ∧ bb ≤ k) ∧ (-1 ≤ nn ∧ nn ≤ 4) ∧ Ext w H wr H1) (fun _ _ i _ _ => h.ms.length - (intOf i).toNat)
    case atStart => exact ⟨0, 0, -1, Nat.zero_le _, rfl, rfl, rfl, rfl, by omega, by omega, hx2⟩
    case round =>
      clear hx hx2 hw2 hb2 hw1
      obtain ⟨k, bb, nn, hk, rfl, rfl, rfl, hkt, hbb, hnn, hxr⟩ := hrel
      have hwr := hxr.holds
      by_cases hlk : k < h.ms.length
      · have hNk := hN (bestOf h (k : Nat))
        have hsucc : Hid (keyTo h (k + 1) = if nn < (lateN h (bestOf h (k : Nat)) : Nat) then ((k : Int), ((lateN h (bestOf h (k : Nat)) : Nat) : Int)) else (bb, nn)) := by
          show _ = _
          simp only [keyTo, hkt.out]
        obtain ⟨n, hn⟩ : ∃ n, Hid (n = lateN h (bestOf h (k : Nat))) := ⟨_, rfl⟩
        rw [← hn.out] at hsucc hNk
        cases hlt : decide (nn < (n : Int))
        all_goals
          go_upto_region 8 with fail
          go_cut [8] (fun m wx => m = .int .i64 (n : Nat) ∧ Ext w H wx H1)
          case first =>
            go_region_held3 (fun w' => Holds H1 w' ∧ Ext w H w' H1) (first | assumption | exact ⟨by assumption, by assumption⟩ | (go_split_ands; exact ⟨Holds.drew (by assumption), Ext.drew (by assumption)⟩) | (go_split_ands; exact ⟨Holds.alloc (by assumption) _, Ext.alloc (by assumption) _⟩) | (go_split_ands; exact ⟨Holds.drew (Holds.alloc (by assumption) _), Ext.drew (Ext.alloc (by assumption) _)⟩)) (first | ((go_split_ands; go_at_call 85; refine (bestOf4_any _ _ _ _ (k : Int) H1 _ (by assumption) (hh.mono hle) hV (by omega)).mono ?_; rintro e w' ⟨v, H', rfl, hx', hs'⟩; have hk0 := hx'.holds; have hleB := hx'.le (by assumption); have hk1 : Holds H1 w' := hx'.old (by assumption); have hk2 : Ext w H w' H1 := (by assumption : Ext w H _ H1).step (hx'.below.mono (by assumption : Ext w H _ H1).below.size) hk1)) | ((go_split_ands; go_at_call 63; refine (lateOf4_any _ _ _ _ _ _ H' _ (by assumption) ((hh.mono hle).mono hleB) hs' hV (bestOf_isPlan hV _)).mono ?_; rintro e w'' ⟨v, H4, rfl, hx4, hs4⟩; obtain ⟨a4, c4, e4, _, _⟩ := hs4.form; rw [show (lateOf h (bestOf h (k : Nat))).length = n from hn.out.symm] at e4; subst e4; have hk3 : Holds H1 w'' := (hx4.old (by assumption)).mono hleB; have hk4 : Ext w H w'' H1 := (by assumption : Ext w H _ H1).step (hx4.below.mono (by assumption : Ext w H _ H1).below.size) hk3)))
            all_goals
              go_wp2_with fail
              go_meet
              exact ⟨rfl, by assumption⟩
        · case rest =>
            obtain ⟨rfl, hxc⟩ := hcut
            go_wp2_with fail
            go_roundw
            case rel => exact ⟨k + 1, bb, nn, by omega, by go_num, rfl, rfl, by show _ = _; rw [hsucc.out, if_neg (by simpa using hlt)], by omega, hnn, hxc⟩
            case measure => simp [intOf]; omega
        · case rest =>
            obtain ⟨rfl, hxc⟩ := hcut
            go_wp2_with fail
            go_roundw
            case rel => exact ⟨k + 1, k, n, by omega, by go_num, rfl, rfl, by show _ = _; rw [hsucc.out, if_pos (by simpa using hlt)], by omega, by omega, hxc⟩
            case measure => simp [intOf]; omega
      · go_wp2_with fail
        try clear h
        go_ret2
        refine ⟨?_, hxr.below⟩
        rw [hkey.out, show h.ms.length = k by omega, hkt.out]; rfl

end Go.Proofs.Yteijmboophnmgaa
