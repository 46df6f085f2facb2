/- The walks of cmp.Compare and slices.Compare at int. -/
import Derived.Test.YteijmboophnmgaaData
import Derived.Test.YteijmboophnmgaaBase
namespace Go.Proofs.Yteijmboophnmgaa
open Go.RowKit

attribute [local go_sem] Holds.drew Holds.alloc Holds.drewN WB.holds

theorem isNaN_any (n : Int) (w : World) : Calls Try.prog 112 #[.int .i64 n] w fun e w' => e = .returned (.bool false) ∧ w = w' := by
  go_enter Try.func112, Try.ntmps112
  go_wp2
  go_ret
  exact ⟨by simp, rfl⟩

def cmp3 (a b : Int) : Int := if a < b then -1 else if b < a then 1 else 0

theorem cmpInt_any (a b : Int) (w : World) : Calls Try.prog 107 #[.int .i64 a, .int .i64 b] w fun e w' => e = .returned (.int .i64 (cmp3 a b)) ∧ w = w' := by
  cases h1 : decide (a < b)
  · cases h2 : decide (b < a)
    · have hc : cmp3 a b = 0 := by unfold cmp3; simp at h1 h2; rw [if_neg (by omega), if_neg (by omega)]
      go_enter Try.func107, Try.ntmps107
      go_wp2_with (first | (go_at_call 112; refine (isNaN_any _ _).mono ?_; rintro e w' ⟨rfl, rfl⟩))
      go_ret
      exact ⟨by rw [hc]; rfl, rfl⟩
    · have hc : cmp3 a b = 1 := by unfold cmp3; simp at h1 h2; rw [if_neg (by omega), if_pos (by omega)]
      go_enter Try.func107, Try.ntmps107
      go_wp2_with (first | (go_at_call 112; refine (isNaN_any _ _).mono ?_; rintro e w' ⟨rfl, rfl⟩))
      go_ret
      exact ⟨by rw [hc]; rfl, rfl⟩
  · have hc : cmp3 a b = -1 := by unfold cmp3; simp at h1; rw [if_pos (by omega)]
    go_enter Try.func107, Try.ntmps107
    go_wp2_with (first | (go_at_call 112; refine (isNaN_any _ _).mono ?_; rintro e w' ⟨rfl, rfl⟩))
    go_ret
    exact ⟨by rw [hc]; rfl, rfl⟩

/-- The order of lists, as -1, 0 or 1. -/
def cmpL : List Int → List Int → Int
  | [], [] => 0
  | [], _ :: _ => -1
  | _ :: _, [] => 1
  | a :: l, b :: m => if cmp3 a b = 0 then cmpL l m else cmp3 a b

theorem cmp3_eq {a b : Int} : cmp3 a b = 0 ↔ a = b := by
  unfold cmp3
  split
  · omega
  · split <;> omega
theorem cmp3_bd (a b : Int) : -1 ≤ cmp3 a b ∧ cmp3 a b ≤ 1 := by
  unfold cmp3
  split
  · omega
  · split <;> omega
theorem cmpL_step {xs ys : List Int} {k : Nat} {x y : Int} (hx : At xs k x) (hy : At ys k y) : cmpL (xs.drop k) (ys.drop k) = if cmp3 x y = 0 then cmpL (xs.drop (k+1)) (ys.drop (k+1)) else cmp3 x y := by
  rw [show xs.drop k = x :: xs.drop (k + 1) by obtain ⟨h1, h2⟩ := hx.get; rw [← h2]; exact List.drop_eq_getElem_cons h1, show ys.drop k = y :: ys.drop (k + 1) by obtain ⟨h1, h2⟩ := hy.get; rw [← h2]; exact List.drop_eq_getElem_cons h1]; rfl

set_option maxRecDepth 100000 in
theorem compare_any (va vb : Value) (xs ys : List Int) (H : Snap) (w : World) (hw : Holds H w) (ha : Sl H va xs) (hb : Sl H vb ys) :
    Calls Try.prog 83 #[va, vb] w (PostV w (.int .i64 (cmpL xs ys))) := by
  obtain ⟨aa, ca, rfl, ha1, ha2⟩ := ha.form
  obtain ⟨ab, cb, rfl, hb1, hb2⟩ := hb.form
  obtain ⟨C, hC⟩ : ∃ C, Hid (C = cmpL xs ys) := ⟨_, rfl⟩
  rw [← hC.out]
  go_enter Try.func83, Try.ntmps83
  go_wp2
  go_loopw [5, 6, 7, 8, 11] (fun _ _ _ _ i wr => ∃ k : Nat, k ≤ xs.length ∧ k ≤ ys.length ∧ i = .int .i64 k ∧ Hid (C = cmpL (xs.drop k) (ys.drop k)) ∧ Ext w H wr H) (fun _ _ _ _ i _ => xs.length - (intOf i).toNat)
  case atStart => exact ⟨0, Nat.zero_le _, Nat.zero_le _, rfl, hC, Ext.refl hw⟩
  case round =>
    obtain ⟨k, hk, hk2, rfl, hok, hxr⟩ := hrel
    have hwr := hxr.holds
    by_cases hlt : k < xs.length
    · obtain ⟨x, hxk⟩ := At.mk hlt
      obtain ⟨b, o, c, he, hi, hr⟩ := ha.int hxk
      cases he
      by_cases hlt2 : k < ys.length
      · obtain ⟨y, hyk⟩ := At.mk hlt2
        obtain ⟨b', o', c', he, hi', hr'⟩ := hb.int hyk
        cases he
        have hst := cmpL_step hxk hyk
        have hbd := cmp3_bd x y
        replace hok := hok.out
        rw [hst] at hok
        obtain ⟨D, hD⟩ : ∃ D, Hid (D = cmp3 x y) := ⟨_, rfl⟩
        rw [← hD.out] at hok hbd
        have hcc : ∀ w : World, Calls Try.prog 107 #[.int .i64 x, .int .i64 y] w fun e w' => e = .returned (.int .i64 D) ∧ w = w' := fun w => by rw [hD.out]; exact cmpInt_any x y w
        replace hcc := Lib.hid hcc
        cases hne : (D == 0)
        · rw [if_neg (by simpa using hne)] at hok
          have hne' := hne
          rw [← hok] at *
          replace hok := Lib.hid hok
          have hnz : (C != 0) = true := by simp only [bne, hne]; rfl
          clear hne' hst
          go_wp2_with (first | (go_at_call 107; refine (hcc.out _).mono ?_; rintro e w' ⟨rfl, rfl⟩))
          go_ret
          exact ⟨rfl, hxr.below⟩
        · rw [if_pos (by simpa using hne)] at hok
          replace hok := Lib.hid hok
          have hD0 : D = 0 := by simpa using hne
          subst hD0
          go_wp2_with (first | (go_at_call 107; refine (hcc.out _).mono ?_; rintro e w' ⟨rfl, rfl⟩))
          go_roundw
          case rel => exact ⟨k + 1, by omega, by omega, by go_num, hok, hxr⟩
          case measure => simp [intOf]; omega
      · have : C = 1 := by
          rw [hok.out, List.drop_eq_nil_of_le (by omega : ys.length ≤ k), show xs.drop k = xs[k] :: xs.drop (k+1) from List.drop_eq_getElem_cons hlt]; rfl
        subst this
        go_wp2
        go_ret
        exact ⟨rfl, hxr.below⟩
    · by_cases hlt2 : xs.length < ys.length
      · have : C = -1 := by
          rw [hok.out, List.drop_eq_nil_of_le (by omega : xs.length ≤ k), show ys.drop k = ys[k] :: ys.drop (k+1) from List.drop_eq_getElem_cons (by omega)]; rfl
        subst this
        go_wp2
        go_ret
        exact ⟨rfl, hxr.below⟩
      · have : C = 0 := by
          rw [hok.out, List.drop_eq_nil_of_le (by omega : xs.length ≤ k), List.drop_eq_nil_of_le (by omega : ys.length ≤ k)]; rfl
        subst this
        go_wp2
        go_ret
        exact ⟨rfl, hxr.below⟩

end Go.Proofs.Yteijmboophnmgaa
