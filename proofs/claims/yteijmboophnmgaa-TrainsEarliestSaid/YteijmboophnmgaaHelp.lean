/- The walks of flonglaw04's small functions over valid houses: ready, fewest, told, sure. -/
import Derived.Test.YteijmboophnmgaaLTimes
import Derived.Test.YteijmboophnmgaaPTold
namespace Go.Proofs.Yteijmboophnmgaa
open Go.RowKit

attribute [local go_sem] Holds.drew Holds.alloc Holds.drewN WB.holds

/-- A house that the outright statements examine. -/
def readyB (h : House) : Bool := !far h && valid h

theorem ready_any (vm vb vt : Value) (h : House) (H : Snap) (w : World) (hw : Holds H w) (hh : Hou H vm vb vt h) :
    Calls Try.prog 15 #[houV vm vb vt h] w (PostV w (.bool (readyB h))) := by
  cases hg : far h
  · cases hv : valid h
    · have he : errT (valid h) = 40 := by rw [hv]; rfl
      have hr : readyB h = false := by unfold readyB; rw [hg, hv]; rfl
      go_enter Try.func15, Try.ntmps15
      go_wp2_with (first | (refine wpList_boxF rfl _ rfl (Ext.refl hw) ?_; intro B w1 H1 hle hx hB hBw; obtain ⟨hc0, hc1, hc2, hc3⟩ := cellsHou hB; clear hB hw; have hw1 := hx.holds) | (go_at_call 28; refine (far_any _ _ _ _ _ _ hw1 (hh.mono hle)).mono ?_; rintro e w' ⟨rfl, hb2⟩; rw [hg]; have hw2 := hw1.below hb2) | (go_at_call 35; refine (check4_any _ _ _ _ _ _ hw2 (hh.mono hle)).mono ?_; rintro e w' ⟨rfl, hb3⟩))
      go_ret
      exact ⟨ret_bool (by rw [hr]; rfl), (hx.below.trans (hb2.mono hx.below.size)).trans (hb3.mono (Nat.le_trans hx.below.size hb2.size))⟩
    · have he : errT (valid h) = 0 := by rw [hv]; rfl
      have hr : readyB h = true := by unfold readyB; rw [hg, hv]; rfl
      go_enter Try.func15, Try.ntmps15
      go_wp2_with (first | (refine wpList_boxF rfl _ rfl (Ext.refl hw) ?_; intro B w1 H1 hle hx hB hBw; obtain ⟨hc0, hc1, hc2, hc3⟩ := cellsHou hB; clear hB hw; have hw1 := hx.holds) | (go_at_call 28; refine (far_any _ _ _ _ _ _ hw1 (hh.mono hle)).mono ?_; rintro e w' ⟨rfl, hb2⟩; rw [hg]; have hw2 := hw1.below hb2) | (go_at_call 35; refine (check4_any _ _ _ _ _ _ hw2 (hh.mono hle)).mono ?_; rintro e w' ⟨rfl, hb3⟩))
      go_ret
      exact ⟨ret_bool (by rw [hr]; rfl), (hx.below.trans (hb2.mono hx.below.size)).trans (hb3.mono (Nat.le_trans hx.below.size hb2.size))⟩
  · have hr : readyB h = false := by unfold readyB; rw [hg]; rfl
    go_enter Try.func15, Try.ntmps15
    go_wp2_with (first | (refine wpList_boxF rfl _ rfl (Ext.refl hw) ?_; intro B w1 H1 hle hx hB hBw; obtain ⟨hc0, hc1, hc2, hc3⟩ := cellsHou hB; clear hB hw; have hw1 := hx.holds) | (go_at_call 28; refine (far_any _ _ _ _ _ _ hw1 (hh.mono hle)).mono ?_; rintro e w' ⟨rfl, hb2⟩; rw [hg]))
    go_ret
    exact ⟨ret_bool (by rw [hr]), hx.below.trans (hb2.mono hx.below.size)⟩

theorem fewestOf_bd {h : House} (hv : Valid h) : 0 ≤ fewestOf h ∧ fewestOf h ≤ h.ts.length := by
  unfold fewestOf
  rw [valid_iff.2 hv, if_pos rfl]
  have := lateN_le h (bestOf h (-1))
  omega

theorem fewestL_any (vm vb vt : Value) (h : House) (hv : Valid h) (H : Snap) (w : World) (hw : Holds H w) (hh : Hou H vm vb vt h) :
    Calls Try.prog 34 #[houV vm vb vt h] w (PostV w (.int .i64 (fewestOf h))) := by
  obtain ⟨at', ct, rfl, ht1, ht2⟩ := hh.t.form
  have he : errT (valid h) = 0 := by rw [valid_iff.2 hv]; rfl
  have hb := fewestOf_bd hv
  have hcall : ∀ (H' : Snap) (w : World), Holds H' w → SLe H H' → Calls Try.prog 55 #[houV vm vb (.slice at' h.ts.length ct) h] w (PostV w (.tuple #[.int .i64 (fewestOf h), .int .i64 0])) := fun H' w hw k => by
    rw [← he]; exact fewestT_any _ _ _ _ H' w hw (hh.mono k)
  obtain ⟨n, hn⟩ : ∃ n, Hid (n = fewestOf h) := ⟨_, rfl⟩
  rw [← hn.out] at hb hcall ⊢
  replace hcall := Lib.hid hcall
  go_enter Try.func34, Try.ntmps34
  go_wp2_with (first | (refine wpList_boxF rfl _ rfl (Ext.refl hw) ?_; intro B w1 H1 hle hx hB hBw; obtain ⟨hc0, hc1, hc2, hc3⟩ := cellsHou hB; clear hB hw; have hw1 := hx.holds) | (go_at_call 55; refine (hcall.out _ _ hw1 hle).mono ?_; rintro e w' ⟨rfl, hb2⟩; have hw2 := hw1.below hb2))
  go_ret
  exact ⟨rfl, hx.below.trans (hb2.mono hx.below.size)⟩

theorem sureL_any (vm vb vt : Value) (h : House) (hv : Valid h) (H : Snap) (w : World) (hw : Holds H w) (hh : Hou H vm vb vt h) :
    Calls Try.prog 18 #[houV vm vb vt h] w (PostV w (.tuple #[.bool (sureB h []), .bool true])) := by
  have he : errT (valid h) = 0 := by rw [valid_iff.2 hv]; rfl
  have hs : sureT h = sureB h [] := by unfold sureT; rw [valid_iff.2 hv]; rfl
  have hcall : ∀ (H' : Snap) (w : World), Holds H' w → SLe H H' → Calls Try.prog 39 #[houV vm vb vt h] w (PostV w (.tuple #[.bool (sureB h []), .int .i64 0])) := fun H' w hw k => by
    rw [← he, ← hs]; exact sureT_any _ _ _ _ H' w hw (hh.mono k)
  replace hcall := Lib.hid hcall
  go_enter Try.func18, Try.ntmps18
  go_wp2_with (first | (refine wpList_boxF rfl _ rfl (Ext.refl hw) ?_; intro B w1 H1 hle hx hB hBw; obtain ⟨hc0, hc1, hc2, hc3⟩ := cellsHou hB; clear hB hw; have hw1 := hx.holds) | (go_at_call 39; refine (hcall.out _ _ hw1 hle).mono ?_; rintro e w' ⟨rfl, hb2⟩; have hw2 := hw1.below hb2))
  go_ret2
  exact ⟨rfl, hx.below.trans (hb2.mono hx.below.size)⟩

theorem toldL_any (vm vb vt : Value) (h : House) (hv : Valid h) (H : Snap) (w : World) (hw : Holds H w) (hh : Hou H vm vb vt h) :
    Calls Try.prog 17 #[houV vm vb vt h] w (Post w H fun v H' => ∃ u, v = .tuple #[u, .bool true] ∧ Sl H' u (toldOf h)) := by
  obtain ⟨at', ct, rfl, ht1, ht2⟩ := hh.t.form
  have he : errT (valid h) = 0 := by rw [valid_iff.2 hv]; rfl
  have hta : toldA h = toldOf h := by unfold toldA; rw [valid_iff.2 hv]; rfl
  have hris := ranked_rising hv.t4 _ (toldOf_ranked hv).1
  have hcall : ∀ (H' : Snap) (w : World), Holds H' w → SLe H H' → Calls Try.prog 41 #[houV vm vb (.slice at' h.ts.length ct) h] w (Post w H' fun v H' => ∃ u, v = .tuple #[u, .int .i64 0] ∧ Sl H' u (toldOf h)) := fun H' w hw k => by
    rw [← he, ← hta, ← toldT_eq]; exact toldT_any _ _ _ _ H' w hw (hh.mono k)
  obtain ⟨l, hl⟩ : ∃ l, Hid (l = toldOf h) := ⟨_, rfl⟩
  rw [← hl.out] at hcall hris ⊢
  have hle' : ((l.length : Nat) : Int) ≤ ((h.ts.length : Nat) : Int) := by have := hris.2; omega
  have hrise : ∀ (va : Value) (H' : Snap) (w : World), Holds H' w → Sl H' va l → Calls Try.prog 20 #[va, .int .i64 0, .int .i64 ((h.ts.length : Int) - 1)] w (PostV w (.bool true)) := fun va H' w hw hs => by
    rw [← hris.1]; exact rising_any _ _ _ _ H' w hw hs
  replace hcall := Lib.hid hcall
  replace hrise := Lib.hid hrise
  replace hris := Lib.hid hris
  go_enter Try.func17, Try.ntmps17
  go_wp2_with (first | (refine wpList_boxF rfl _ rfl (Ext.refl hw) ?_; intro B w1 H1 hle hx hB hBw; obtain ⟨hc0, hc1, hc2, hc3⟩ := cellsHou hB; clear hB hw; have hw1 := hx.holds) | (go_at_call 41; refine (hcall.out _ _ hw1 hle).mono ?_; rintro e w' ⟨v, H2, rfl, hx2, u, rfl, hs2⟩; obtain ⟨a2, c2, rfl, _, _⟩ := hs2.form; have hw2 := hx2.holds; have hle2 := hx2.le hw1; have hd2 := lift hle2 hc2) | (go_at_call 20; refine (hrise.out _ _ _ hw2 hs2).mono ?_; rintro e w' ⟨rfl, hb3⟩; have hx3 := (hx.trans hx2).step (hb3.mono (hx.trans hx2).below.size) (hw2.below hb3)))
  go_ret2
  exact ⟨_, H2, rfl, hx3, _, rfl, hs2⟩

end Go.Proofs.Yteijmboophnmgaa
