/- Lemmas and walks on which the claims of this seat lean: Ref4a. -/
import Derived.Test.YtngdppajailpcaaGreatG02

set_option linter.all false

namespace Go.Proofs.YtngdppajailpcaaGreat
open Go.RowKit

attribute [local go_sem] Holds.drew Holds.alloc Holds.drewN WB.holds

theorem within_any (n lo hi : Int) (w : World) :
    Calls Tryz.prog 118 #[.int .i64 n, .int .i64 lo, .int .i64 hi] w fun e w' => e = .returned (.bool (within n lo hi)) ∧ w = w' := by
  go_enter Tryz.func118, Tryz.ntmps118
  go_wp2
  all_goals
    go_ret
    simp [within]
  all_goals (intros; omega)

theorem sameInts_any (va vb : Value) (xs ys : List Int) (H : Snap) (w : World) (hw : Holds H w) (ha : Sl H va xs) (hb : Sl H vb ys) :
    Calls Tryz.prog 26 #[va, vb] w (PostV w (.bool (decide (xs = ys)))) := by
  obtain ⟨aa, ca, rfl, ha1, ha2⟩ := ha.form
  obtain ⟨ab, cb, rfl, hb1, hb2⟩ := hb.form
  cases hl : ((xs.length : Int) != ys.length)
  · have HL : Hid (xs.length = ys.length) := Lib.hid (by have := bne_eq_false_iff_eq.1 hl; omega)
    go_enter Tryz.func26, Tryz.ntmps26
    go_wp2
    go_loopw [4, 5] (fun _ i wr => ∃ k : Nat, k ≤ xs.length ∧ i = .int .i64 k ∧ xs.take k = ys.take k ∧ Ext w H wr H) (fun _ i _ => xs.length - (intOf i).toNat)
    case atStart => exact ⟨0, Nat.zero_le _, rfl, rfl, Ext.refl hw⟩
    case round =>
      obtain ⟨k, hk, rfl, hok, hxr⟩ := hrel
      have hwr := hxr.holds
      replace hok := Lib.hid hok
      by_cases hlt : k < xs.length
      · obtain ⟨x, hxk⟩ := At.mk hlt
        have hlt2 : k < ys.length := by rw [← HL.out]; exact hlt
        obtain ⟨y, hyk⟩ := At.mk hlt2
        obtain ⟨b, o, c, he, hi, hr⟩ := ha.int hxk
        cases he
        obtain ⟨b', o', c', he, hi', hr'⟩ := hb.int hyk
        cases he
        go_wp2
        go_quiet (fail)
        go_wp2
        · go_ret
          exact ⟨ret_bool (by symm; rw [decide_eq_false_iff_not]; rintro rfl; have := hxk.uniq hyk; subst this; simp_all), (hxr.drewN _).below⟩
        · go_roundw
          case rel => exact ⟨k + 1, by omega, by go_num, by rw [hxk.take, hyk.take, hok.out, show x = y by simp_all], hxr.drewN _⟩
          case measure => simp [intOf]; omega
      · go_wp2
        go_ret
        have h1 : xs.take k = ys.take k := hok.out
        rw [List.take_of_length_le (by omega), List.take_of_length_le (by rw [← HL.out]; omega)] at h1
        exact ⟨ret_bool (by simp [h1]), hxr.below⟩
  · go_enter Tryz.func26, Tryz.ntmps26
    go_wp2
    go_ret
    exact ⟨ret_bool (by symm; rw [decide_eq_false_iff_not]; rintro rfl; simp at hl), Below.refl _ _⟩

theorem in_any (va : Value) (xs : List Int) (n : Int) (H : Snap) (w : World) (hw : Holds H w) (ha : Sl H va xs) :
    Calls Tryz.prog 144 #[va, .int .i64 n] w (PostV w (.bool (decide (n ∈ xs)))) := by
  obtain ⟨aa, ca, rfl, ha1, ha2⟩ := ha.form
  go_enter Tryz.func144, Tryz.ntmps144
  go_wp2
  go_loop [4, 5] (fun _ i => ∃ k : Nat, k ≤ xs.length ∧ i = .int .i64 k ∧ n ∉ xs.take k) (fun _ i => xs.length - (intOf i).toNat)
  case atStart => exact ⟨0, Nat.zero_le _, rfl, by simp⟩
  case round =>
    obtain ⟨k, hk, rfl, hok⟩ := hrel
    replace hok := Lib.hid hok
    by_cases hlt : k < xs.length
    · obtain ⟨x, hxk⟩ := At.mk hlt
      obtain ⟨b, o, c, he, hi, hr⟩ := ha.int hxk
      cases he
      go_wp2
      · go_ret
        exact ⟨ret_bool (by symm; rw [decide_eq_true_iff]; rw [show n = x by simp_all]; exact hxk.mem), Below.refl _ _⟩
      · go_round
        case rel => exact ⟨k + 1, by omega, by go_num, by rw [mem_take_succ hxk]; rintro (h | h); exact hok.out h; simp_all⟩
        case measure => simp [intOf]; omega
    · go_wp2
      go_ret
      have h1 := hok.out
      rw [List.take_of_length_le (by omega)] at h1
      exact ⟨ret_bool (by simp [h1]), Below.refl _ _⟩

theorem rising_any (va : Value) (xs : List Int) (lo hi : Int) (H : Snap) (w : World) (hw : Holds H w) (ha : Sl H va xs) :
    Calls Tryz.prog 85 #[va, .int .i64 lo, .int .i64 hi] w (PostV w (.bool (rising lo hi xs))) := by
  obtain ⟨aa, ca, rfl, ha1, ha2⟩ := ha.form
  go_enter Tryz.func85, Tryz.ntmps85
  go_wp2
  go_loopw [6, 7] (fun _ i wr => ∃ k : Nat, k ≤ xs.length ∧ i = .int .i64 k ∧ rising lo hi (xs.take k) = true ∧ Ext w H wr H) (fun _ i _ => xs.length - (intOf i).toNat)
  case atStart => exact ⟨0, Nat.zero_le _, rfl, by simp [rising], Ext.refl hw⟩
  case round =>
    obtain ⟨k, hk, rfl, hok, hxr⟩ := hrel
    have hwr := hxr.holds
    replace hok := Lib.hid hok
    by_cases hlt : k < xs.length
    · obtain ⟨x, hxk⟩ := At.mk hlt
      obtain ⟨b, o, c, he, hi', hr⟩ := ha.int hxk
      cases he
      cases g1 : within x lo hi
      · go_wp2
        refine wp_region_quietB H (by kernel_rfl) (by kernel_rfl) hwr (fun hne => ?_)
        repeat go_big_quiet_step ((first | (go_at_call 118; exact Calls.quietS (within_any _ _ _ _))))
        refine wpQuiet_nil ?_
        rintro ⟨w2, hw2, hb2⟩
        clear hne
        go_wp2
        go_ret
        exact ⟨ret_bool (rising_bad hxk (.inl (fun h => by rw [within_iff.2 h] at g1; cases g1))).symm, (hxr.step (hb2.mono hxr.below.size) hw2).below⟩
      · by_cases g2 : 0 < k
        · obtain ⟨y, hyk⟩ := At.mk (show k - 1 < xs.length by omega)
          obtain ⟨b', o', c', he, hi'', hr'⟩ := ha.int hyk
          cases he
          go_wp2
          refine wp_region_quietB H (by kernel_rfl) (by kernel_rfl) hwr (fun hne => ?_)
          repeat go_big_quiet_step ((first | (go_at_call 118; exact Calls.quietS (within_any _ _ _ _))))
          refine wpQuiet_nil ?_
          rintro ⟨w2, hw2, hb2⟩
          clear hne
          go_wp2
          · go_ret
            exact ⟨ret_bool (rising_bad hxk (.inr ⟨y, g2, hyk, by assumption⟩)).symm, (hxr.step (hb2.mono hxr.below.size) hw2).below⟩
          · go_roundw
            case rel => exact ⟨k + 1, by omega, by go_num, rising_step hok.out hxk (within_iff.1 g1) (fun z _ hz => by rw [hz.uniq hyk]; assumption), hxr.step (hb2.mono hxr.below.size) hw2⟩
            case measure => simp [intOf]; omega
        · have g2' : decide (0 < k) = false := by simp; omega
          replace g2 := Lib.hid g2
          go_wp2
          refine wp_region_quietB H (by kernel_rfl) (by kernel_rfl) hwr (fun hne => ?_)
          repeat go_big_quiet_step ((first | (go_at_call 118; exact Calls.quietS (within_any _ _ _ _))))
          refine wpQuiet_nil ?_
          rintro ⟨w2, hw2, hb2⟩
          clear hne
          go_wp2
          go_roundw
          case rel => exact ⟨k + 1, by omega, by go_num, rising_step hok.out hxk (within_iff.1 g1) (fun z h0 hz => absurd h0 g2.out), hxr.step (hb2.mono hxr.below.size) hw2⟩
          case measure => simp [intOf]; omega
    · go_wp2
      go_ret
      have h1 := hok.out
      rw [List.take_of_length_le (by omega)] at h1
      exact ⟨ret_bool (by simp [h1]), hxr.below⟩

theorem earlier_any (va vb : Value) (xs ys : List Int) (H : Snap) (w : World) (hw : Holds H w) (ha : Sl H va xs) (hb : Sl H vb ys) :
    Calls Tryz.prog 41 #[va, vb] w (PostV w (.bool (earlier xs ys))) := by
  obtain ⟨aa, ca, rfl, ha1, ha2⟩ := ha.form
  obtain ⟨ab, cb, rfl, hb1, hb2⟩ := hb.form
  go_enter Tryz.func41, Tryz.ntmps41
  go_wp2
  go_loopw [4, 5] (fun _ i wr => ∃ k : Nat, k ≤ xs.length ∧ i = .int .i64 k ∧ Hid (xs.take k = ys.take k) ∧ Ext w H wr H) (fun _ i _ => xs.length - (intOf i).toNat)
  case atStart => exact ⟨0, Nat.zero_le _, rfl, rfl, Ext.refl hw⟩
  case round =>
    obtain ⟨k, hk, rfl, hok, hxr⟩ := hrel
    have hwr := hxr.holds
    by_cases hlt : k < xs.length
    · by_cases hlt2 : k < ys.length
      · obtain ⟨x, hxk⟩ := At.mk hlt
        obtain ⟨y, hyk⟩ := At.mk hlt2
        obtain ⟨b, o, c, he, hi, hr⟩ := ha.int hxk
        cases he
        obtain ⟨b', o', c', he, hi', hr'⟩ := hb.int hyk
        cases he
        cases hne : (x != y)
        · go_wp2
          go_quiet (fail)
          go_wp2
          go_roundw
          case rel => exact ⟨k + 1, by omega, by go_num, by show List.take (k + 1) xs = List.take (k + 1) ys; rw [hxk.take, hyk.take, hok.out, bne_eq_false_iff_eq.1 hne], hxr.drewN _⟩
          case measure => simp [intOf]; omega
        · go_wp2
          go_quiet (fail)
          go_wp2
          go_quiet (fail)
          go_wp2
          go_ret
          exact ⟨ret_bool (earlier_at hok.out hxk hyk (bne_iff_ne.1 hne)).symm, ((hxr.drewN _).drewN _).below⟩
      · go_wp2
        go_ret
        exact ⟨ret_bool (earlier_none hok.out (.inr (by omega))).symm, hxr.below⟩
    · go_wp2
      go_ret
      exact ⟨ret_bool (earlier_none hok.out (.inl (by omega))).symm, hxr.below⟩

end Go.Proofs.YtngdppajailpcaaGreat

namespace Go.Proofs.YtngdppajailpcaaGreat
open Go.RowKit

attribute [local go_sem] Holds.drew Holds.alloc Holds.drewN WB.holds

theorem within4_any (n lo hi : Int) (w : World) :
    Calls Tryz.prog 88 #[.int .i64 n, .int .i64 lo, .int .i64 hi] w fun e w' => e = .returned (.bool (within n lo hi)) ∧ w = w' := by
  go_enter Tryz.func88, Tryz.ntmps88
  go_wp2_with (go_at_call 118; refine (within_any _ _ _ _).mono ?_; rintro e w' ⟨rfl, rfl⟩)
  go_ret
  exact ⟨rfl, rfl⟩

theorem isTrain4_any (vm vb vt : Value) (h : House) (n : Int) (H : Snap) (w : World) (hw : Holds H w) (hh : Hou H vm vb vt h) :
    Calls Tryz.prog 117 #[houV vm vb vt h, .int .i64 n] w (PostV w (.bool (within n 0 ((h.ts.length : Int) - 1)))) := by
  obtain ⟨at', ct, rfl, ht1, ht2⟩ := hh.t.form
  go_enter Tryz.func117, Tryz.ntmps117
  go_wp2_with (first | (refine wpList_boxF rfl _ rfl (Ext.refl hw) ?_; intro B w1 H1 hle hx hB hBw; obtain ⟨hc0, hc1, hc2, hc3⟩ := cellsHou hB; clear hB hw; have hw1 := hx.holds) | (go_at_call 88; refine (within4_any _ _ _ _).mono ?_; rintro e w' ⟨rfl, rfl⟩))
  go_ret
  exact ⟨rfl, hx.below⟩

set_option maxHeartbeats 1000000 in
theorem check4_any (vm vb vt : Value) (h : House) (H : Snap) (w : World) (hw : Holds H w) (hh : Hou H vm vb vt h) :
    Calls Tryz.prog 83 #[houV vm vb vt h] w (PostV w (.int .i64 (errT (valid h)))) := by
  obtain ⟨am, cm, rfl, hm1, hm2⟩ := hh.m.form
  obtain ⟨ab, cb, rfl, hb1, hb2⟩ := hh.b.form
  obtain ⟨at', ct, rfl, ht1, ht2⟩ := hh.t.form
  have hch := hh.c
  have HE : ¬(within (h.ms.length : Int) 1 3 = true ∧ (h.ts.length : Int) ≤ 4 ∧ (h.bs.length : Int) ≤ 5 ∧ within h.ch 0 9 = true) → errT (valid h) = 40 :=
    fun hgo => errT_no fun hv => hgo ⟨within_iff.2 ⟨by have := hv.m1; omega, by have := hv.m3; omega⟩, by have := hv.t4; omega, by have := hv.b5; omega, hv.ch⟩
  rcases (by cases within (h.ms.length : Int) 1 3 <;> cases within h.ch 0 9 <;> simp <;> omega : within (h.ms.length : Int) 1 3 = false ∨ (within (h.ms.length : Int) 1 3 = true ∧ (4 : Int) < h.ts.length) ∨ (within (h.ms.length : Int) 1 3 = true ∧ (h.ts.length : Int) ≤ 4 ∧ (5 : Int) < h.bs.length) ∨
      (within (h.ms.length : Int) 1 3 = true ∧ (h.ts.length : Int) ≤ 4 ∧ (h.bs.length : Int) ≤ 5 ∧ within h.ch 0 9 = false) ∨ (within (h.ms.length : Int) 1 3 = true ∧ (h.ts.length : Int) ≤ 4 ∧ (h.bs.length : Int) ≤ 5 ∧ within h.ch 0 9 = true)) with g1 | ⟨g1, g2⟩ | ⟨g1, g2, g3⟩ | ⟨g1, g2, g3, g4⟩ | ⟨g1, g2, g3, g4⟩
  iterate 4
    · replace HE := Lib.hid (HE (by rintro ⟨k1, k2, k3, k4⟩; first | omega | (rw [k1] at g1; cases g1; done) | (rw [k4] at g4; cases g4; done)))
      go_enter Tryz.func83, Tryz.ntmps83
      go_wp2_with (first | (refine wpList_boxF rfl _ rfl (Ext.refl hw) ?_; intro B w1 H1 hle hx hB hBw; obtain ⟨hc0, hc1, hc2, hc3⟩ := cellsHou hB; clear hB hw; have hw1 := hx.holds) | (go_at_call 88; refine (within4_any _ _ _ _).mono ?_; rintro e w' ⟨rfl, rfl⟩))
      go_ret
      exact ⟨ret_int HE.out.symm, hx.below⟩
  clear HE
  go_enter Tryz.func83, Tryz.ntmps83
  go_wp2_with (first | (refine wpList_boxF rfl _ rfl (Ext.refl hw) ?_; intro B w1 H1 hle hx hB hBw; obtain ⟨hc0, hc1, hc2, hc3⟩ := cellsHou hB; clear hB hw; have hw1 := hx.holds) | (go_at_call 88; refine (within4_any _ _ _ _).mono ?_; rintro e w' ⟨rfl, rfl⟩))
  have hmm := hh.m.mono hle
  have htm := hh.t.mono hle
  have hbm := hh.b.mono hle
  go_loopw [3, 4] (fun i _ wr => ∃ k : Nat, k ≤ h.ms.length ∧ i = .int .i64 k ∧ okTo okMach h.ms k ∧ Ext w H wr H1) (fun i _ _ => h.ms.length - (intOf i).toNat)
  case atStart => exact ⟨0, Nat.zero_le _, rfl, okTo.zero _ _, hx⟩
  case round =>
    obtain ⟨k, hk, rfl, hok, hxr⟩ := hrel
    have hwr := hxr.holds
    by_cases hlt : k < h.ms.length
    · obtain ⟨m, hmk⟩ := At.mk hlt
      obtain ⟨b, o, c, he, ⟨hi1, hi2, hi3⟩, hr, hp, hs⟩ := hmm.mach hmk
      cases he
      go_wp2_with ((go_at_call 88; refine (within4_any _ _ _ _).mono ?_; rintro e w' ⟨rfl, rfl⟩))
      all_goals try (go_ret; refine ⟨ret_int (errT_no fun hv => ?_).symm, (hxr.alloc _).below⟩; have := hv.ms; rw [hmk.not_all (by simp_all [okMach])] at this; cases this)
      go_roundw
      case rel => exact ⟨k + 1, by omega, by go_num, hok.succ hmk (by simp_all [okMach]), hxr.alloc _⟩
      case measure => simp [intOf]; omega
    · go_wp2_with fail
      have hoks := hok.all (by omega)
      go_loopw [5] (fun i wr => ∃ k : Nat, k ≤ h.ts.length ∧ i = .int .i64 k ∧ okTo (fun t => within t 0 99) h.ts k ∧ Ext w H wr H1) (fun i _ => h.ts.length - (intOf i).toNat)
      case atStart => exact ⟨0, Nat.zero_le _, rfl, okTo.zero _ _, hxr⟩
      case round =>
        clear hxr hwr hok
        obtain ⟨k', hk', rfl, hok, hxr⟩ := hrel
        have hwr := hxr.holds
        by_cases hlt' : k' < h.ts.length
        · obtain ⟨x, hxk⟩ := At.mk hlt'
          obtain ⟨b, o, c, he, hi, hr⟩ := htm.int hxk
          cases he
          go_wp2_with ((go_at_call 88; refine (within4_any _ _ _ _).mono ?_; rintro e w' ⟨rfl, rfl⟩))
          · go_ret; refine ⟨ret_int (errT_no fun hv => ?_).symm, hxr.below⟩; have := hv.ts; rw [hxk.not_all (by simp_all)] at this; cases this
          · go_roundw
            case rel => exact ⟨k' + 1, by omega, by go_num, hok.succ hxk (by simp_all), hxr⟩
            case measure => simp [intOf]; omega
        · go_wp2_with fail
          have hokt := hok.all (by omega)
          go_loopw [6, 7] (fun i _ wr => ∃ k : Nat, k ≤ h.bs.length ∧ i = .int .i64 k ∧ okTo (okBund h.ts.length) h.bs k ∧ Ext w H wr H1) (fun i _ _ => h.bs.length - (intOf i).toNat)
          case atStart => exact ⟨0, Nat.zero_le _, rfl, okTo.zero _ _, hxr⟩
          case round =>
            clear hxr hwr hok
            obtain ⟨k'', hk'', rfl, hok, hxr⟩ := hrel
            have hwr := hxr.holds
            by_cases hlt'' : k'' < h.bs.length
            · obtain ⟨x, hxk⟩ := At.mk hlt''
              obtain ⟨b, o, c, he, ⟨hi1, hi2, hi3⟩, hr, hp, hs⟩ := hbm.bund hxk
              cases he
              go_wp2_with (first | (go_at_call 88; refine (within4_any _ _ _ _).mono ?_; rintro e w' ⟨rfl, rfl⟩) | (go_at_call 117; refine (isTrain4_any _ _ _ _ _ _ _ (hxr.holds.alloc _) (hh.mono hle)).mono ?_; rintro e w2 ⟨rfl, hbw⟩; have hw2 := (hxr.holds.alloc _).below hbw; have hcb := bcell hbw))
              all_goals try (go_ret; refine ⟨ret_int (errT_no fun hv => ?_).symm, by first | exact (hxr.alloc _).below | exact ((hxr.alloc _).below.trans (hbw.mono ((hxr.alloc _).below.size)))⟩; have := hv.bs; rw [hxk.not_all (by simp_all [okBund])] at this; cases this)
              go_roundw
              case rel => exact ⟨k'' + 1, by omega, by go_num, hok.succ hxk (by simp_all [okBund]), (hxr.alloc _).step (hbw.mono ((hxr.alloc _).below.size)) (by assumption)⟩
              case measure => simp [intOf]; omega
            · go_wp2_with fail
              go_ret
              exact ⟨ret_int (errT_yes ⟨by have := within_iff.1 g1; omega, by have := within_iff.1 g1; omega, by omega, by omega, g4, hoks, hokt, hok.all (by omega)⟩).symm, hxr.below⟩

theorem isMachine4_any (vm vb vt : Value) (h : House) (n : Int) (H : Snap) (w : World) (hw : Holds H w) (hh : Hou H vm vb vt h) :
    Calls Tryz.prog 51 #[houV vm vb vt h, .int .i64 n] w (PostV w (.bool (within n 0 ((h.ms.length : Int) - 1)))) := by
  obtain ⟨am, cm, rfl, hm1, hm2⟩ := hh.m.form
  go_enter Tryz.func51, Tryz.ntmps51
  go_wp2_with (first | (refine wpList_boxF rfl _ rfl (Ext.refl hw) ?_; intro B w1 H1 hle hx hB hBw; obtain ⟨hc0, hc1, hc2, hc3⟩ := cellsHou hB; clear hB hw; have hw1 := hx.holds) | (go_at_call 88; refine (within4_any _ _ _ _).mono ?_; rintro e w' ⟨rfl, rfl⟩))
  go_ret
  exact ⟨rfl, hx.below⟩

end Go.Proofs.YtngdppajailpcaaGreat

namespace Go.Proofs.YtngdppajailpcaaGreat
open Go.RowKit

attribute [local go_sem] Holds.drew Holds.alloc Holds.drewN WB.holds

end Go.Proofs.YtngdppajailpcaaGreat

namespace Go.Proofs.YtngdppajailpcaaGreat
open Go.RowKit

attribute [local go_sem] Holds.drew Holds.alloc Holds.drewN WB.holds WB.old

theorem zeroInt : (Tryz.prog.info? 3).map (·.zero) = some (some (.int .i64 0)) := by kernel_rfl

set_option maxRecDepth 100000 in
set_option maxHeartbeats 4000000 in
theorem timesOf4_any (vm vb vt vp : Value) (h : House) (plan : List (List Int)) (H : Snap) (w : World) (hw : Holds H w) (hh : Hou H vm vb vt h) (hp : Sl H vp plan) (hv : Valid h) (hpl : isPlan h plan = true) :
    Calls Tryz.prog 133 #[houV vm vb vt h, vp] w (Post w H fun v H' => Sl H' v (timesOf h plan)) := by
  obtain ⟨am, cm, rfl, hm1, hm2⟩ := hh.m.form
  obtain ⟨ab, cb, rfl, hb1, hb2⟩ := hh.b.form
  obtain ⟨ap, cp, rfl, hp1, hp2⟩ := hp.form
  have hb5 := hv.b5
  go_enter Tryz.func133, Tryz.ntmps133
  go_wp2_with (first | (refine wpList_boxF rfl _ rfl (Ext.refl hw) ?_; intro B w1 H1 hle hx hB hBw; obtain ⟨hc0, hc1, hc2, hc3⟩ := cellsHou hB; clear hB hw; have hw1 := hx.holds) | (at_make; go_must (refine wpList_makeI (base := w.heap.size) eInt zeroInt rfl _ _ rfl h.bs.length rfl rfl (by omega) hw1 hx.below.size ?_); intro v' w2 hown2 hg2 hw2))
  have hx2 := hx.grown hg2 (by simp) (by simp)
  have hpm := hp.mono hle
  have hmm := hh.m.mono hle
  have hbm := hh.b.mono hle
  obtain ⟨av, cv, e, _, _⟩ := hown2.form
  rw [List.length_replicate] at e
  subst e
  go_loopw [6] (fun i wr => ∃ (k : Nat) (acc : List Int), k ≤ h.bs.length ∧ i = .int .i64 k ∧ Hid (acc = List.replicate k (-1) ++ List.replicate (h.bs.length - k) 0) ∧ Ext w H wr H1 ∧ Own H1 w.heap.size wr 3 (.slice av h.bs.length cv) acc) (fun i _ => h.bs.length - (intOf i).toNat)
  case atStart => exact ⟨0, _, Nat.zero_le _, rfl, by simp [Hid], hx2, hown2⟩
  case round =>
    obtain ⟨k, acc, hk, rfl, hacc, hxr, hown⟩ := hrel
    have hwr := hxr.holds
    by_cases hlt : k < h.bs.length
    · obtain ⟨z, hz⟩ := At.mk (xs := acc) (k := k) (by rw [hacc.out]; simp; omega)
      obtain ⟨g, c, he, _, hcell, hfree, hg, hgH, _, hset⟩ := hown.int_at hz
      rw [show acc.length = h.bs.length by rw [hacc.out]; simp; omega] at he
      cases he
      go_wp2
      go_roundw
      case rel =>
        refine ⟨k + 1, acc.set k (-1), by omega, by go_num, ?_, hxr.setCell hg hgH _, hset (-1) (by omega)⟩
        show acc.set k (-1) = _
        rw [hacc.out]
        apply List.ext_getElem
        · simp; omega
        · intro j h1 h2
          simp only [List.getElem_set, List.getElem_append, List.getElem_replicate, List.length_replicate]
          split <;> split <;> (try split) <;> first | rfl | omega
      case measure => simp [intOf]; omega
    · have hk2 : k = h.bs.length := by omega
      replace hacc : Hid (acc = List.replicate h.bs.length (-1)) := by show acc = _; rw [hacc.out, hk2]; simp
      clear hk2
      go_wp2_with fail
      go_loopw [7, 8, 9, 10] (fun i _ _ _ wr => ∃ (m : Nat) (acc : List Int), m ≤ plan.length ∧ i = .int .i64 m ∧ Hid (acc = timesTo h 0 (plan.take m) (List.replicate h.bs.length (-1))) ∧ Ext w H wr H1 ∧ Own H1 w.heap.size wr 3 (.slice av h.bs.length cv) acc) (fun i _ _ _ _ => plan.length - (intOf i).toNat)
      case atStart => exact ⟨0, acc, Nat.zero_le _, rfl, by rw [hacc.out]; rfl, hxr, hown⟩
      case round =>
        clear hxr hwr hacc hown
        obtain ⟨m, acc0, hm, rfl, hacc0, hxr, hown⟩ := hrel
        have hwr := hxr.holds
        by_cases hlm : m < plan.length
        · obtain ⟨l, hml⟩ := At.mk hlm
          obtain ⟨b, o, c, u, he, hu, hr⟩ := hpm.list hml
          cases he
          obtain ⟨al, cl, rfl, hl1, hl2⟩ := hu.form
          have hpl' := hpl
          simp only [isPlan, Bool.and_eq_true, decide_eq_true_eq] at hpl'
          obtain ⟨mc, hmc⟩ := At.mk (show m < h.ms.length by omega)
          have hmlt := hmc.lt
          obtain ⟨bm, om, cm', he, ⟨hmr, hmp, hms⟩, hcr, hcp, hcs⟩ := hmm.mach hmc
          cases he
          have hlen5 : l.length ≤ 5 := Nat.le_trans (isPlan_one hpl hml) hb5
          have hrd := ready_bd hv hmc
          have hgood : ∀ x ∈ l, 0 ≤ x ∧ x ≤ (h.bs.length : Int) - 1 := fun x hx => (goodAll_iff.1 hpl'.2).1 x (List.mem_flatten.2 ⟨l, hml.mem, hx⟩)
          clear hpl'
          go_wp2_with fail
          go_loopw [8, 9, 10] (fun nw i _ wr => ∃ (k : Nat) (acc : List Int) (now : Int) (prev : Option Int), k ≤ l.length ∧ i = .int .i64 k ∧ nw = .int .i64 now ∧ (0 ≤ now ∧ now ≤ 100 + 90 * k) ∧ Hid ((acc, now, prev) = runTo h mc (l.take k) (acc0, mc.r, none)) ∧ Ext w H wr H1 ∧ Own H1 w.heap.size wr 3 (.slice av h.bs.length cv) acc) (fun _ i _ _ => l.length - (intOf i).toNat)
          case atStart => exact ⟨0, acc0, mc.r, none, Nat.zero_le _, rfl, rfl, by omega, rfl, hxr, hown⟩
          case round =>
            clear hxr hwr hown
            obtain ⟨k, acc, now, prev, hk, rfl, rfl, hnow, hst, hxr, hown⟩ := hrel
            have hwr := hxr.holds
            by_cases hlk : k < l.length
            · obtain ⟨x, hxk⟩ := At.mk hlk
              obtain ⟨b', o', c', he, hi, hr'⟩ := hu.int hxk
              cases he
              obtain ⟨hx0, hx1⟩ := hgood x hxk.mem
              obtain ⟨j, rfl⟩ := Int.eq_ofNat_of_zero_le hx0
              obtain ⟨y, hyj⟩ := At.mk (show j < h.bs.length by omega)
              have hjlt := hyj.lt
              clear hx0 hx1
              obtain ⟨bb, ob, cb', he, ⟨hy1, hy2, hy3⟩, hct, hchh, hce⟩ := hbm.bund hyj
              cases he
              go_wp2_with fail
              go_region_held3 (fun w' => Holds H1 w') (first | exact Holds.drew (by assumption) | (simp [go_sem, *]; done)) (fail)
              obtain ⟨hq1, hq2, hq3, hq4⟩ := prod_bd hv hmc hyj
              have hst1 := congrArg (fun s => s.1) hst.out
              have hst2 := congrArg (fun s => s.2.1) hst.out
              have hst3 := congrArg (fun s => s.2.2) hst.out
              simp only at hst1 hst2 hst3
              have hstep : ∀ (d : Bool), prev.any (fun e => e != y.e) = d → Hid (stepT h mc now prev (j : Int) = now + (if d then h.ch else 0) + y.h * mc.p) := fun d hd => by
                show stepT h mc now prev (j : Int) = _
                unfold stepT; rw [hyj.bund, hd]
              have hfin : ∀ (n2 : Int), n2 = stepT h mc now prev (j : Int) → Hid ((acc.set j n2, n2, some y.e) = runTo h mc (l.take (k + 1)) (acc0, mc.r, none)) := fun n2 hn => by
                show _ = _
                rw [runTo_take hxk, ← hst1, ← hst2, ← hst3, ← hn, Int.toNat_natCast, hyj.bund]
              replace hst3 := Lib.hid hst3
              clear hst1 hst2 hst
              have hal := hown.len
              replace hal := Lib.hid hal
              by_cases hk0 : 0 < k
              · obtain ⟨x', hxk'⟩ := At.mk (show k - 1 < l.length by omega)
                obtain ⟨b'', o'', c'', he, hi', hr''⟩ := hu.int hxk'
                cases he
                obtain ⟨hx0', hx1'⟩ := hgood x' hxk'.mem
                obtain ⟨j', rfl⟩ := Int.eq_ofNat_of_zero_le hx0'
                obtain ⟨y', hyj'⟩ := At.mk (show j' < h.bs.length by omega)
                have hjlt' := hyj'.lt
                obtain ⟨bb', ob', cb'', he, ⟨hy1', hy2', hy3'⟩, hct', hchh', hce'⟩ := hbm.bund hyj'
                cases he
                clear hx0' hx1'
                have hpr : Hid (prev = some y'.e) := by
                  show prev = _
                  rw [hst3.out]
                  have := runTo_last hxk' (h := h) (mc := mc) (acc0, mc.r, none)
                  rw [show k - 1 + 1 = k by omega, hyj'.bund] at this
                  exact this
                replace hstep := hstep (y'.e != y.e) (by rw [hpr.out]; rfl)
                cases hd : (y'.e != y.e)
                all_goals
                  rw [hd] at hstep
                  go_wp2_with fail
                  refine wp_region_quietB H1 (by kernel_rfl) (by kernel_rfl) (hwr.alloc _).drew (fun hne => ?_)
                  repeat go_big_quiet_step ((first | fail))
                  refine wpQuiet_nil ?_
                  rintro ⟨w2, hw2, hb2⟩
                  clear hne
                  go_wp2_with fail
                  have hcb := bcell hb2
                  have hsz2 : wr.heap.size < w2.heap.size := by have := hb2.size; simp at this; omega
                  refine wp_region_quietB H1 (by kernel_rfl) (by kernel_rfl) hw2 (fun hne => ?_)
                  repeat go_big_quiet_step ((first | fail))
                  refine wpQuiet_nil ?_
                  rintro ⟨w3, hw3, hb3⟩
                  clear hne
                  have hb : Below wr.heap.size wr w3 := (((Below.refl _ wr).alloc (Nat.le_refl _) _).drew.trans (hb2.mono (by simp))).trans (hb3.mono (by have := hb2.size; simp at this; omega))
                  have hown3 := hown.ext hwr (H' := H1) ⟨hb, hw3, fun _ _ => rfl⟩
                  obtain ⟨z, hz⟩ := At.mk (xs := acc) (k := j) (by rw [hal.out]; omega)
                  obtain ⟨g, cg, he, _, hcell, hfree, hg, hgH, _, hset⟩ := hown3.int_at hz
                  rw [hal.out] at he
                  cases he
                  go_wp2_with fail
                  go_roundw
                  case rel =>
                    refine ⟨k + 1, acc.set j _, _, some y.e, by omega, by go_num, rfl, by omega, hfin _ (by rw [hstep.out]; simp), ?_, hset _ (by omega)⟩
                    exact (hxr.step (hb.mono hxr.below.size) hw3).setCell hg hgH _
                  case measure => simp [intOf]; omega
              · have hk0' : decide (0 < k) = false := by simp; omega
                have hpr : Hid (prev = none) := by
                  show prev = _
                  rw [hst3.out, show k = 0 by omega]; rfl
                replace hk0 := Lib.hid hk0
                replace hstep := hstep false (by rw [hpr.out]; rfl)
                go_wp2_with fail
                refine wp_region_quietB H1 (by kernel_rfl) (by kernel_rfl) (hwr.alloc _).drew (fun hne => ?_)
                repeat go_big_quiet_step ((first | fail))
                refine wpQuiet_nil ?_
                rintro ⟨w2, hw2, hb2⟩
                clear hne
                go_wp2_with fail
                have hcb := bcell hb2
                have hsz2 : wr.heap.size < w2.heap.size := by have := hb2.size; simp at this; omega
                refine wp_region_quietB H1 (by kernel_rfl) (by kernel_rfl) hw2 (fun hne => ?_)
                repeat go_big_quiet_step ((first | fail))
                refine wpQuiet_nil ?_
                rintro ⟨w3, hw3, hb3⟩
                clear hne
                have hb : Below wr.heap.size wr w3 := (((Below.refl _ wr).alloc (Nat.le_refl _) _).drew.trans (hb2.mono (by simp))).trans (hb3.mono (by have := hb2.size; simp at this; omega))
                have hown3 := hown.ext hwr (H' := H1) ⟨hb, hw3, fun _ _ => rfl⟩
                obtain ⟨z, hz⟩ := At.mk (xs := acc) (k := j) (by rw [hal.out]; omega)
                obtain ⟨g, cg, he, _, hcell, hfree, hg, hgH, _, hset⟩ := hown3.int_at hz
                rw [hal.out] at he
                cases he
                go_wp2_with fail
                go_roundw
                case rel =>
                  refine ⟨k + 1, acc.set j _, _, some y.e, by omega, by go_num, rfl, by omega, hfin _ (by rw [hstep.out]; simp), ?_, hset _ (by omega)⟩
                  exact (hxr.step (hb.mono hxr.below.size) hw3).setCell hg hgH _
                case measure => simp [intOf]; omega
            · have hst1 := congrArg (fun s => s.1) hst.out
              simp only at hst1
              rw [take_all (xs := l) (k := k) (by omega)] at hst1
              replace hst1 := Lib.hid hst1
              go_wp2_with fail
              go_roundw
              case rel => exact ⟨m + 1, acc, by omega, by go_num, by show acc = _; rw [hst1.out, timesTo_take hml, ← hacc0.out, hmc.mach]; rfl, hxr, hown⟩
              case measure => simp [intOf]; omega
        · go_wp2_with fail
          go_ret
          obtain ⟨H', hx', hle', hs', _⟩ := hown.close hxr
          refine ⟨_, H', rfl, hx', ?_⟩
          rw [hacc0.out, take_all (xs := plan) (k := m) (by omega)] at hs'
          exact hs'

end Go.Proofs.YtngdppajailpcaaGreat

namespace Go.Proofs.YtngdppajailpcaaGreat
open Go.RowKit

attribute [local go_sem] Holds.drew Holds.alloc Holds.drewN WB.holds

set_option maxRecDepth 100000 in
set_option maxHeartbeats 4000000 in
theorem lateOf4_any (vm vb vt vp : Value) (h : House) (plan : List (List Int)) (H : Snap) (w : World) (hw : Holds H w) (hh : Hou H vm vb vt h) (hp : Sl H vp plan) (hv : Valid h) (hpl : isPlan h plan = true) :
    Calls Tryz.prog 102 #[houV vm vb vt h, vp] w (Post w H fun v H' => Sl H' v (lateOf h plan)) := by
  obtain ⟨ab, cb, rfl, hb1, hb2⟩ := hh.b.form
  obtain ⟨at', ct, rfl, ht1, ht2⟩ := hh.t.form
  have hb5 := hv.b5
  have ht4 := hv.t4
  go_enter Tryz.func102, Tryz.ntmps102
  go_wp2_with (first | (refine wpList_boxF rfl _ rfl (Ext.refl hw) ?_; intro B w1 H1 hle hx hB hBw; obtain ⟨hc0, hc1, hc2, hc3⟩ := cellsHou hB; clear hB hw; have hw1 := hx.holds) | (go_at_call 133; refine (timesOf4_any _ _ _ _ _ _ _ _ hw1 (hh.mono hle) (hp.mono hle) hv hpl).mono ?_; rintro e w' ⟨v5, H2, rfl, hx5, hs5⟩; have hw2 := hx5.holds; have hw2' := hx5.old hw1))
  have hle5 := hx5.le hw1
  have hx2 := hx.trans hx5
  replace hc0 := lift hle5 hc0
  replace hc1 := lift hle5 hc1
  replace hc2 := lift hle5 hc2
  replace hc3 := lift hle5 hc3
  have htm := (hh.t.mono hle).mono hle5
  have hbm := (hh.b.mono hle).mono hle5
  obtain ⟨a5, c5, e5, _, _⟩ := hs5.form
  obtain ⟨times, htimes⟩ : ∃ times, Hid (times = timesOf h plan) := ⟨_, rfl⟩
  rw [← htimes.out] at hs5 e5
  have htl : Hid (times.length = h.bs.length) := by show _ = _; rw [htimes.out, timesOf_len]
  rw [htl.out] at e5
  subst e5
  go_loopw [6, 7, 8, 9] (fun v i _ _ wr => ∃ (m : Nat) (acc : List Int), m ≤ h.ts.length ∧ i = .int .i64 m ∧ Hid (acc = lateList h times m) ∧ Ext w H wr H2 ∧ Own H2 w.heap.size wr 3 v acc) (fun _ i _ _ _ => h.ts.length - (intOf i).toNat)
  case atStart => exact ⟨0, [], Nat.zero_le _, rfl, rfl, hx2, Own.nil _ _ _ _⟩
  case round =>
    obtain ⟨m, acc, hm, rfl, hacc, hxr, hown⟩ := hrel
    have hwr := hxr.holds
    by_cases hlm : m < h.ts.length
    · obtain ⟨tr, htr⟩ := At.mk hlm
      obtain ⟨b, o, c, he, hi, hcr⟩ := htm.int htr
      cases he
      go_wp2_with fail
      go_loopw [8, 9] (fun l i wr => ∃ k : Nat, k ≤ h.bs.length ∧ i = .int .i64 k ∧ l = .bool (lateTo h times m k) ∧ Ext w H wr H2 ∧ Own H2 w.heap.size wr 3 u6 acc) (fun _ i _ => h.bs.length - (intOf i).toNat)
      case atStart => exact ⟨0, Nat.zero_le _, rfl, rfl, hxr, hown⟩
      case round =>
        clear hxr hwr hown
        obtain ⟨k, hk, rfl, rfl, hxr, hown⟩ := hrel
        have hwr := hxr.holds
        by_cases hlk : k < h.bs.length
        · obtain ⟨y, hyk⟩ := At.mk hlk
          obtain ⟨x, hxk⟩ := At.mk (xs := times) (k := k) (by rw [htl.out]; exact hlk)
          obtain ⟨bb, ob, cb', he, ⟨hy1, hy2, hy3⟩, hct, hchh, hce⟩ := hbm.bund hyk
          cases he
          obtain ⟨bx, ox, cx, he, hix, hcx⟩ := hs5.int hxk
          rw [htl.out] at he
          cases he
          replace hacc := Lib.hid hacc
          have hsucc := lateTo_succ hyk hxk htr
          cases hl : lateTo h times m k
          all_goals rw [hl] at hsucc
          all_goals replace hsucc := Lib.hid hsucc
          · cases g1 : (y.t == (m : Int))
            · rw [g1] at hsucc
              go_wp2_with fail
              refine wp_region_quietB H2 (by kernel_rfl) (by kernel_rfl) hwr (fun hne => ?_)
              repeat go_big_quiet_step ((first | fail))
              refine wpQuiet_nil ?_
              rintro ⟨w2, hw2, hb2⟩
              clear hne
              have hx3 := hxr.step (hb2.mono hxr.below.size) hw2
              go_wp2_with fail
              go_roundw
              case rel => exact ⟨k + 1, by omega, by go_num, by rw [hsucc.out]; rfl, hx3, hown.ext hwr ⟨hb2, hw2, fun _ _ => rfl⟩⟩
              case measure => simp [intOf]; omega
            · rw [g1] at hsucc
              cases g2 : decide (x < 0)
              all_goals
                rw [g2] at hsucc
                go_wp2_with fail
                refine wp_region_quietB H2 (by kernel_rfl) (by kernel_rfl) hwr (fun hne => ?_)
                repeat go_big_quiet_step ((first | fail))
                refine wpQuiet_nil ?_
                rintro ⟨w2, hw2, hb2⟩
                clear hne
                have hx3 := hxr.step (hb2.mono hxr.below.size) hw2
                go_wp2_with fail
                go_roundw
                case rel => exact ⟨k + 1, by omega, by go_num, by rw [hsucc.out]; simp, hx3, hown.ext hwr ⟨hb2, hw2, fun _ _ => rfl⟩⟩
                case measure => simp [intOf]; omega
          · go_wp2_with fail
            refine wp_region_quietB H2 (by kernel_rfl) (by kernel_rfl) hwr (fun hne => ?_)
            repeat go_big_quiet_step ((first | fail))
            refine wpQuiet_nil ?_
            rintro ⟨w2, hw2, hb2⟩
            clear hne
            have hx3 := hxr.step (hb2.mono hxr.below.size) hw2
            go_wp2_with fail
            go_roundw
            case rel => exact ⟨k + 1, by omega, by go_num, by rw [hsucc.out]; rfl, hx3, hown.ext hwr ⟨hb2, hw2, fun _ _ => rfl⟩⟩
            case measure => simp [intOf]; omega
        · have hk2 : Hid (k = h.bs.length) := Lib.hid (by omega)
          have hsucc := lateList_succ h times m
          cases hl : lateTo h times m k
          all_goals rw [hk2.out] at hl
          all_goals rw [show lateB h times m = _ from hl] at hsucc
          all_goals replace hsucc := Lib.hid hsucc
          all_goals rw [← hk2.out] at hl
          · go_wp2_with fail
            go_roundw
            case rel => exact ⟨m + 1, acc, by omega, by go_num, by show acc = _; rw [hacc.out, hsucc.out]; rfl, hxr, hown⟩
            case measure => simp [intOf]; omega
          · obtain ⟨av, cv, rfl, _, _⟩ := hown.form
            have hacl : acc.length ≤ 4 := by rw [hacc.out]; exact Nat.le_trans (lateList_len h times m) (by omega)
            go_wp2_with (first | (at_builtin; go_must (refine wpList_app1 eInt rfl _ _ rfl rfl hown rfl ⟨rfl, by omega, by omega⟩ hwr (by simp [Enc.by_]; omega) (by omega) hxr.below.size ?_); intro v' w3 hown3 hg3 hw3 hat3))
            have hx3 := ((hxr.alloc (.cells #[.int .i64 (m : Int)] 3)).grown hg3 (fun k hk => (hown.lt k hk).1) (fun k hk => hown.free k hk))
            go_roundw
            case rel => exact ⟨m + 1, acc ++ [(m : Int)], by omega, by go_num, by show _ = _; rw [hacc.out, hsucc.out]; rfl, hx3, hown3⟩
            case measure => simp [intOf]; omega
    · go_wp2_with fail
      go_ret
      obtain ⟨H', hx', hle', hs', _⟩ := hown.close hxr
      refine ⟨_, H', rfl, hx', ?_⟩
      rw [hacc.out, show m = h.ts.length by omega, htimes.out] at hs'
      exact hs'

end Go.Proofs.YtngdppajailpcaaGreat
