/- Lemmas and walks on which the claims of this seat lean: Tr4. -/
import Derived.Test.YtngdppajailpcaaGreatG03

set_option linter.all false

namespace Go.Proofs.YtngdppajailpcaaGreat
open Go.RowKit

attribute [local go_sem] Holds.drew Holds.alloc Holds.drewN WB.holds

theorem withinT_any (n lo hi : Int) (w : World) :
    Calls Tryz.prog 106 #[.int .i64 n, .int .i64 lo, .int .i64 hi] w fun e w' => e = .returned (.bool (within n lo hi)) ∧ w = w' := by
  go_enter Tryz.func106, Tryz.ntmps106
  go_wp2
  all_goals
    go_ret
    simp [within]
  all_goals (intros; omega)

theorem isTrainT_any (vm vb vt : Value) (h : House) (n : Int) (H : Snap) (w : World) (hw : Holds H w) (hh : Hou H vm vb vt h) :
    Calls Tryz.prog 113 #[houV vm vb vt h, .int .i64 n] w (PostV w (.bool (within n 0 ((h.ts.length : Int) - 1)))) := by
  obtain ⟨at', ct, rfl, ht1, ht2⟩ := hh.t.form
  go_enter Tryz.func113, Tryz.ntmps113
  go_wp2_with (first | (refine wpList_boxF rfl _ rfl (Ext.refl hw) ?_; intro B w1 H1 hle hx hB hBw; obtain ⟨hc0, hc1, hc2, hc3⟩ := cellsHou hB; clear hB hw; have hw1 := hx.holds) | (go_at_call 106; refine (withinT_any _ _ _ _).mono ?_; rintro e w' ⟨rfl, rfl⟩))
  go_ret
  exact ⟨rfl, hx.below⟩

end Go.Proofs.YtngdppajailpcaaGreat

namespace Go.Proofs.YtngdppajailpcaaGreat
open Go.RowKit

attribute [local go_sem] Holds.drew Holds.alloc Holds.drewN WB.holds

theorem checkT1_any (n : Int) (w : World) :
    Calls Tryz.prog 105 #[.int .i64 n] w fun e w' => e = .returned (.bool (within n 0 99)) ∧ w = w' := by
  go_enter Tryz.func105, Tryz.ntmps105
  go_wp2_with (first | (go_at_call 106; refine (withinT_any _ _ _ _).mono ?_; rintro e w' ⟨rfl, rfl⟩))
  go_ret
  exact ⟨rfl, rfl⟩

theorem checkT2_any (n : Int) (c : Nat) (w : World) (hc : w.cell? ⟨c, 0, none⟩ = some (.func (.func 105) #[] #[])) :
    Calls Tryz.prog 108 #[.int .i64 n, .pointer (some ⟨c, 0, none⟩)] w fun e w' => e = .returned (.bool (!within n 0 99)) ∧ w = w' := by
  go_enter Tryz.func108, Tryz.ntmps108
  go_wp2_with (first | (go_at_call 105; refine (checkT1_any _ _).mono ?_; rintro e w' ⟨rfl, rfl⟩))
  go_ret
  exact ⟨rfl, rfl⟩

/-- The index of the first element that meets p; -1: none. -/
def idxPost (w : World) (b : Bool) (n : Nat) (e : Ending) (w' : World) : Prop := ∃ r : Int, e = .returned (.int .i64 r) ∧ w = w' ∧ decide (0 ≤ r) = b ∧ -1 ≤ r ∧ r ≤ n

theorem indexInt_any (va : Value) (xs : List Int) (c : Nat) (H : Snap) (w : World) (hw : Holds H w) (ha : Sl H va xs) (hc : w.cell? ⟨c, 0, none⟩ = some (.func (.func 105) #[] #[])) :
    Calls Tryz.prog 135 #[va, .func (.func 108) #[] #[.pointer (some ⟨c, 0, none⟩)]] w (idxPost w (xs.any fun n => !within n 0 99) xs.length) := by
  obtain ⟨aa, ca, rfl, ha1, ha2⟩ := ha.form
  go_enter Tryz.func135, Tryz.ntmps135
  go_wp2
  go_loopw [5, 8] (fun _ i wr => ∃ k : Nat, k ≤ xs.length ∧ i = .int .i64 k ∧ Hid ((xs.take k).any (fun n => !within n 0 99) = false) ∧ w = wr) (fun _ i _ => xs.length - (intOf i).toNat)
  case atStart => exact ⟨0, Nat.zero_le _, rfl, rfl, rfl⟩
  case round =>
    obtain ⟨k, hk, rfl, hok, rfl⟩ := hrel
    by_cases hlk : k < xs.length
    · obtain ⟨x, hxk⟩ := At.mk hlk
      obtain ⟨b, o, cc, he, hi, hr⟩ := ha.int hxk
      cases he
      cases g : (!within x 0 99)
      all_goals have g' := Lib.hid g
      · go_wp2_with (first | (go_at_call 108; refine (checkT2_any _ _ _ hc).mono ?_; rintro e w' ⟨rfl, rfl⟩))
        go_roundw
        case rel => exact ⟨k + 1, by omega, by go_num, by show _ = _; rw [hxk.take, List.any_append, hok.out]; simp only [List.any_cons, List.any_nil, g'.out]; rfl, by first | rfl | trivial⟩
        case measure => simp [intOf]; omega
      · go_wp2_with (first | (go_at_call 108; refine (checkT2_any _ _ _ hc).mono ?_; rintro e w' ⟨rfl, rfl⟩))
        go_ret
        exact ⟨k, rfl, rfl, by symm; rw [decide_eq_true (by omega), List.any_eq_true]; exact ⟨x, hxk.mem, g'.out⟩, by omega, by omega⟩
    · go_wp2_with fail
      go_ret
      have h1 := hok.out
      rw [take_all (xs := xs) (k := k) (by omega)] at h1
      exact ⟨-1, rfl, rfl, by rw [h1]; rfl, by omega, by omega⟩

theorem containsInt_any (va : Value) (xs : List Int) (c : Nat) (H : Snap) (w : World) (hw : Holds H w) (ha : Sl H va xs) (hc : w.cell? ⟨c, 0, none⟩ = some (.func (.func 105) #[] #[])) :
    Calls Tryz.prog 107 #[va, .func (.func 108) #[] #[.pointer (some ⟨c, 0, none⟩)]] w fun e w' => e = .returned (.bool (xs.any fun n => !within n 0 99)) ∧ w = w' := by
  go_enter Tryz.func107, Tryz.ntmps107
  go_wp2_with (first | (go_at_call 135; refine (indexInt_any _ _ _ _ _ hw ha hc).mono ?_; rintro e w' ⟨r, rfl, rfl, hr1, hr2, hr3⟩))
  go_ret
  exact ⟨ret_bool (by rw [← hr1]), rfl⟩

end Go.Proofs.YtngdppajailpcaaGreat

namespace Go.Proofs.YtngdppajailpcaaGreat
open Go.RowKit

attribute [local go_sem] Holds.drew Holds.alloc Holds.drewN WB.holds

set_option maxHeartbeats 8000000 in
theorem checkT3_any (m : Mach) (c : Nat) (H : Snap) (w : World) (hw : Holds H w) (hc : ∀ w, Holds H w → w.cell? ⟨c, 0, none⟩ = some (.func (.func 105) #[] #[])) :
    Calls Tryz.prog 110 #[.agg #[.int .i64 m.r, .int .i64 m.p, .int .i64 m.s], .pointer (some ⟨c, 0, none⟩)] w (PostV w (.bool (!okMach m))) := by
  have key : Hid ((!okMach m) = (!within m.r 0 99 || (!within m.p 1 9 || !within m.s 0 1))) := by
    show _ = _
    unfold okMach
    cases within m.r 0 99 <;> cases within m.p 1 9 <;> rfl
  cases g1 : within m.r 0 99
  all_goals cases g2 : within m.p 1 9
  all_goals cases g3 : within m.s 0 1
  all_goals
    rw [g1, g2, g3] at key
    go_enter Tryz.func110, Tryz.ntmps110
    go_wp2_with (first | (go_at_call 105; refine (checkT1_any _ _).mono ?_; rintro e w' ⟨rfl, rfl⟩) | (go_at_call 106; refine (withinT_any _ _ _ _).mono ?_; rintro e w' ⟨rfl, rfl⟩))
    go_ret
    exact ⟨ret_bool (by rw [key.out]; rfl), (Below.refl _ _).alloc (Nat.le_refl _) _⟩

set_option maxHeartbeats 8000000 in
theorem checkT4_any (vm vb vt : Value) (h : House) (b : Bund) (B : Nat) (H : Snap) (w : World) (hw : Holds H w) (hh : Hou H vm vb vt h)
    (hc0 : ∀ w, Holds H w → w.cell? ⟨B, 0, none⟩ = some vm) (hc1 : ∀ w, Holds H w → w.cell? ⟨B, 1, none⟩ = some vb) (hc2 : ∀ w, Holds H w → w.cell? ⟨B, 2, none⟩ = some vt) (hc3 : ∀ w, Holds H w → w.cell? ⟨B, 3, none⟩ = some (.int .i64 h.ch)) :
    Calls Tryz.prog 112 #[.agg #[.int .i64 b.t, .int .i64 b.h, .int .i64 b.e], .pointer (some ⟨B, 0, none⟩)] w (PostV w (.bool (!okBund h.ts.length b))) := by
  have key : Hid ((!okBund h.ts.length b) = (!within b.t 0 ((h.ts.length : Int) - 1) || (!within b.h 1 9 || !within b.e 0 3))) := by
    show _ = _
    unfold okBund
    cases within b.t 0 ((h.ts.length : Int) - 1) <;> cases within b.h 1 9 <;> rfl
  have hx1 := (Ext.refl hw).alloc (.cells #[.int .i64 b.t, .int .i64 b.h, .int .i64 b.e] 120)
  cases g1 : within b.t 0 ((h.ts.length : Int) - 1)
  all_goals cases g2 : within b.h 1 9
  all_goals cases g3 : within b.e 0 3
  all_goals
    rw [g1, g2, g3] at key
    go_enter Tryz.func112, Tryz.ntmps112
    go_wp2_with (first | (go_at_call 113; refine (isTrainT_any _ _ _ _ _ _ _ hx1.holds hh).mono ?_; rintro e w' ⟨rfl, hb2⟩; have hw2 := hx1.holds.below hb2; have hcb := bcell hb2) | (go_at_call 106; refine (withinT_any _ _ _ _).mono ?_; rintro e w' ⟨rfl, rfl⟩))
    go_ret
    exact ⟨ret_bool (by rw [key.out]; rfl), hx1.below.trans (hb2.mono hx1.below.size)⟩

end Go.Proofs.YtngdppajailpcaaGreat

namespace Go.Proofs.YtngdppajailpcaaGreat
open Go.RowKit

attribute [local go_sem] Holds.drew Holds.alloc Holds.drewN WB.holds

/-- The index of the first element that meets p; -1: none. -/
def idxPostB (w : World) (b : Bool) (n : Nat) (e : Ending) (w' : World) : Prop := ∃ r : Int, e = .returned (.int .i64 r) ∧ Below w.heap.size w w' ∧ decide (0 ≤ r) = b ∧ -1 ≤ r ∧ r ≤ n

set_option maxHeartbeats 4000000 in
theorem indexMach_any (va : Value) (xs : List Mach) (c : Nat) (H : Snap) (w : World) (hw : Holds H w) (ha : Sl H va xs) (hc : ∀ w, Holds H w → w.cell? ⟨c, 0, none⟩ = some (.func (.func 105) #[] #[])) :
    Calls Tryz.prog 136 #[va, .func (.func 110) #[] #[.pointer (some ⟨c, 0, none⟩)]] w (idxPostB w (xs.any fun m => !okMach m) xs.length) := by
  obtain ⟨aa, ca, rfl, ha1, ha2⟩ := ha.form
  go_enter Tryz.func136, Tryz.ntmps136
  go_wp2
  go_loopw [5, 8] (fun _ i wr => ∃ k : Nat, k ≤ xs.length ∧ i = .int .i64 k ∧ Hid ((xs.take k).any (fun m => !okMach m) = false) ∧ Ext w H wr H) (fun _ i _ => xs.length - (intOf i).toNat)
  case atStart => exact ⟨0, Nat.zero_le _, rfl, rfl, Ext.refl hw⟩
  case round =>
    obtain ⟨k, hk, rfl, hok, hxr⟩ := hrel
    have hwr := hxr.holds
    by_cases hlk : k < xs.length
    · obtain ⟨x, hxk⟩ := At.mk hlk
      obtain ⟨b, o, cc, he, ⟨hi1, hi2, hi3⟩, hr1, hr2, hr3⟩ := ha.mach hxk
      cases he
      cases g : (!okMach x)
      all_goals have g' := Lib.hid g
      · go_wp2_with (first | (go_at_call 110; refine (checkT3_any x _ _ _ hwr hc).mono ?_; rintro e w' ⟨rfl, hb2⟩))
        go_roundw
        case rel => exact ⟨k + 1, by omega, by go_num, by show _ = _; rw [hxk.take, List.any_append, hok.out]; simp only [List.any_cons, List.any_nil, g'.out]; rfl, hxr.step (hb2.mono hxr.below.size) (hwr.below hb2)⟩
        case measure => simp [intOf]; omega
      · go_wp2_with (first | (go_at_call 110; refine (checkT3_any x _ _ _ hwr hc).mono ?_; rintro e w' ⟨rfl, hb2⟩))
        go_ret
        exact ⟨k, rfl, (hxr.step (hb2.mono hxr.below.size) (hwr.below hb2)).below, by symm; rw [decide_eq_true (by omega), List.any_eq_true]; exact ⟨x, hxk.mem, g'.out⟩, by omega, by omega⟩
    · go_wp2_with fail
      go_ret
      have h1 := hok.out
      rw [take_all (xs := xs) (k := k) (by omega)] at h1
      exact ⟨-1, rfl, hxr.below, by rw [h1]; rfl, by omega, by omega⟩

theorem containsMach_any (va : Value) (xs : List Mach) (c : Nat) (H : Snap) (w : World) (hw : Holds H w) (ha : Sl H va xs) (hc : ∀ w, Holds H w → w.cell? ⟨c, 0, none⟩ = some (.func (.func 105) #[] #[])) :
    Calls Tryz.prog 109 #[va, .func (.func 110) #[] #[.pointer (some ⟨c, 0, none⟩)]] w (PostV w (.bool (xs.any fun m => !okMach m))) := by
  go_enter Tryz.func109, Tryz.ntmps109
  go_wp2_with (first | (go_at_call 136; refine (indexMach_any _ _ _ _ _ hw ha hc).mono ?_; rintro e w' ⟨r, rfl, hb2, hr1, hr2, hr3⟩))
  go_ret
  exact ⟨ret_bool (by rw [← hr1]), hb2⟩

set_option maxHeartbeats 4000000 in
theorem indexBund_any (va vm vb vt : Value) (h : House) (xs : List Bund) (B : Nat) (H : Snap) (w : World) (hw : Holds H w) (ha : Sl H va xs) (hh : Hou H vm vb vt h)
    (hc0 : ∀ w, Holds H w → w.cell? ⟨B, 0, none⟩ = some vm) (hc1 : ∀ w, Holds H w → w.cell? ⟨B, 1, none⟩ = some vb) (hc2 : ∀ w, Holds H w → w.cell? ⟨B, 2, none⟩ = some vt) (hc3 : ∀ w, Holds H w → w.cell? ⟨B, 3, none⟩ = some (.int .i64 h.ch)) :
    Calls Tryz.prog 137 #[va, .func (.func 112) #[] #[.pointer (some ⟨B, 0, none⟩)]] w (idxPostB w (xs.any fun m => !okBund h.ts.length m) xs.length) := by
  obtain ⟨aa, ca, rfl, ha1, ha2⟩ := ha.form
  go_enter Tryz.func137, Tryz.ntmps137
  go_wp2
  go_loopw [5, 8] (fun _ i wr => ∃ k : Nat, k ≤ xs.length ∧ i = .int .i64 k ∧ Hid ((xs.take k).any (fun m => !okBund h.ts.length m) = false) ∧ Ext w H wr H) (fun _ i _ => xs.length - (intOf i).toNat)
  case atStart => exact ⟨0, Nat.zero_le _, rfl, rfl, Ext.refl hw⟩
  case round =>
    obtain ⟨k, hk, rfl, hok, hxr⟩ := hrel
    have hwr := hxr.holds
    by_cases hlk : k < xs.length
    · obtain ⟨x, hxk⟩ := At.mk hlk
      obtain ⟨b, o, cc, he, ⟨hi1, hi2, hi3⟩, hr1, hr2, hr3⟩ := ha.bund hxk
      cases he
      cases g : (!okBund h.ts.length x)
      all_goals have g' := Lib.hid g
      · go_wp2_with (first | (go_at_call 112; refine (checkT4_any _ _ _ _ x _ _ _ hwr hh hc0 hc1 hc2 hc3).mono ?_; rintro e w' ⟨rfl, hb2⟩))
        go_roundw
        case rel => exact ⟨k + 1, by omega, by go_num, by show _ = _; rw [hxk.take, List.any_append, hok.out]; simp only [List.any_cons, List.any_nil, g'.out]; rfl, hxr.step (hb2.mono hxr.below.size) (hwr.below hb2)⟩
        case measure => simp [intOf]; omega
      · go_wp2_with (first | (go_at_call 112; refine (checkT4_any _ _ _ _ x _ _ _ hwr hh hc0 hc1 hc2 hc3).mono ?_; rintro e w' ⟨rfl, hb2⟩))
        go_ret
        exact ⟨k, rfl, (hxr.step (hb2.mono hxr.below.size) (hwr.below hb2)).below, by symm; rw [decide_eq_true (by omega), List.any_eq_true]; exact ⟨x, hxk.mem, g'.out⟩, by omega, by omega⟩
    · go_wp2_with fail
      go_ret
      have h1 := hok.out
      rw [take_all (xs := xs) (k := k) (by omega)] at h1
      exact ⟨-1, rfl, hxr.below, by rw [h1]; rfl, by omega, by omega⟩

theorem containsBund_any (va vm vb vt : Value) (h : House) (xs : List Bund) (B : Nat) (H : Snap) (w : World) (hw : Holds H w) (ha : Sl H va xs) (hh : Hou H vm vb vt h)
    (hc0 : ∀ w, Holds H w → w.cell? ⟨B, 0, none⟩ = some vm) (hc1 : ∀ w, Holds H w → w.cell? ⟨B, 1, none⟩ = some vb) (hc2 : ∀ w, Holds H w → w.cell? ⟨B, 2, none⟩ = some vt) (hc3 : ∀ w, Holds H w → w.cell? ⟨B, 3, none⟩ = some (.int .i64 h.ch)) :
    Calls Tryz.prog 111 #[va, .func (.func 112) #[] #[.pointer (some ⟨B, 0, none⟩)]] w (PostV w (.bool (xs.any fun m => !okBund h.ts.length m))) := by
  go_enter Tryz.func111, Tryz.ntmps111
  go_wp2_with (first | (go_at_call 137; refine (indexBund_any _ _ _ _ _ _ _ _ _ hw ha hh hc0 hc1 hc2 hc3).mono ?_; rintro e w' ⟨r, rfl, hb2, hr1, hr2, hr3⟩))
  go_ret
  exact ⟨ret_bool (by rw [← hr1]), hb2⟩

end Go.Proofs.YtngdppajailpcaaGreat
