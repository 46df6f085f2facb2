/- The walks of trains.Fewest, Plan, Without, Sure and Key. -/
import Derived.Test.YteijmboophnmgaaBst2
import Derived.Test.YteijmboophnmgaaRef4g
namespace Go.Proofs.Yteijmboophnmgaa
open Go.RowKit

attribute [local go_sem] Holds.drew Holds.alloc Holds.drewN WB.holds

set_option maxRecDepth 100000 in
theorem planT_any (vm vb vt : Value) (h : House) (H : Snap) (w : World) (hw : Holds H w) (hh : Hou H vm vb vt h) :
    Calls Try.prog 57 #[houV vm vb vt h] w (Post w H fun v H' => ∃ u, v = .tuple #[u, .int .i64 (errT (valid h))] ∧ Sl H' u (planOf h)) := by
  cases hv : valid h
  · have he : errT (valid h) = 40 := by rw [hv]; rfl
    go_enter Try.func57, Try.ntmps57
    go_wp2_with (first | (refine wpList_boxF rfl _ rfl (Ext.refl hw) ?_; intro B w1 H1 hle hx hB hBw; obtain ⟨hc0, hc1, hc2, hc3⟩ := cellsHou hB; clear hB hw; have hw1 := hx.holds) | (go_at_call 48; refine (checkT_any _ _ _ _ _ _ hw1 (hh.mono hle)).mono ?_; rintro e w' ⟨rfl, hb2⟩))
    go_ret2
    exact ⟨_, H1, rfl, hx.step (hb2.mono hx.below.size) (hw1.below hb2), _, rfl, by unfold planOf; rw [hv]; exact Sl.nil0 _⟩
  · have he : errT (valid h) = 0 := by rw [hv]; rfl
    have hV := valid_iff.1 hv
    go_enter Try.func57, Try.ntmps57
    go_wp2_with (first | (refine wpList_boxF rfl _ rfl (Ext.refl hw) ?_; intro B w1 H1 hle hx hB hBw; obtain ⟨hc0, hc1, hc2, hc3⟩ := cellsHou hB; clear hB hw; have hw1 := hx.holds) | (go_at_call 48; refine (checkT_any _ _ _ _ _ _ hw1 (hh.mono hle)).mono ?_; rintro e w' ⟨rfl, hb2⟩; have hw2 := hw1.below hb2) | (go_at_call 84; refine (best_any _ _ _ _ hV (-1) (by unfold I64; omega) _ _ hw2 (hh.mono hle)).mono ?_; rintro e w' ⟨v, H3, rfl, hx3, u, rfl, hs3⟩))
    go_ret2
    exact ⟨_, H3, rfl, (hx.step (hb2.mono hx.below.size) hw2).trans hx3, _, rfl, by unfold planOf; rw [hv]; exact hs3⟩

set_option maxRecDepth 100000 in
theorem fewestT_any (vm vb vt : Value) (h : House) (H : Snap) (w : World) (hw : Holds H w) (hh : Hou H vm vb vt h) :
    Calls Try.prog 55 #[houV vm vb vt h] w (PostV w (.tuple #[.int .i64 (fewestOf h), .int .i64 (errT (valid h))])) := by
  cases hv : valid h
  · have he : errT (valid h) = 40 := by rw [hv]; rfl
    have hf : fewestOf h = 0 := by unfold fewestOf; rw [hv]; rfl
    go_enter Try.func55, Try.ntmps55
    go_wp2_with (first | (refine wpList_boxF rfl _ rfl (Ext.refl hw) ?_; intro B w1 H1 hle hx hB hBw; obtain ⟨hc0, hc1, hc2, hc3⟩ := cellsHou hB; clear hB hw; have hw1 := hx.holds) | (go_at_call 48; refine (checkT_any _ _ _ _ _ _ hw1 (hh.mono hle)).mono ?_; rintro e w' ⟨rfl, hb2⟩))
    go_ret2
    exact ⟨by rw [hf]; rfl, hx.below.trans (hb2.mono hx.below.size)⟩
  · have he : errT (valid h) = 0 := by rw [hv]; rfl
    have hV := valid_iff.1 hv
    have hf : fewestOf h = (lateN h (bestOf h (-1)) : Nat) := by unfold fewestOf; rw [hv]; rfl
    go_enter Try.func55, Try.ntmps55
    go_wp2_with (first | (refine wpList_boxF rfl _ rfl (Ext.refl hw) ?_; intro B w1 H1 hle hx hB hBw; obtain ⟨hc0, hc1, hc2, hc3⟩ := cellsHou hB; clear hB hw; have hw1 := hx.holds) | (go_at_call 48; refine (checkT_any _ _ _ _ _ _ hw1 (hh.mono hle)).mono ?_; rintro e w' ⟨rfl, hb2⟩; have hw2 := hw1.below hb2) | (go_at_call 84; refine (best_any _ _ _ _ hV (-1) (by unfold I64; omega) _ _ hw2 (hh.mono hle)).mono ?_; rintro e w' ⟨v, H3, rfl, hx3, u, rfl, hs3⟩))
    go_ret2
    exact ⟨by rw [hf]; rfl, ((hx.step (hb2.mono hx.below.size) hw2).trans hx3).below⟩

set_option maxRecDepth 100000 in
theorem withoutT_any (vm vb vt : Value) (h : House) (m : Int) (H : Snap) (w : World) (hw : Holds H w) (hh : Hou H vm vb vt h) :
    Calls Try.prog 59 #[houV vm vb vt h, .int .i64 m] w (Post w H fun v H' => ∃ u, v = .tuple #[u, .int .i64 (errA (valid h) (within m 0 ((h.ms.length : Int) - 1)))] ∧ Sl H' u (withoutOf h m)) := by
  obtain ⟨am, cm, rfl, hm1, hm2⟩ := hh.m.form
  cases hv : (valid h && within m 0 ((h.ms.length : Int) - 1))
  · have he : errA (valid h) (within m 0 ((h.ms.length : Int) - 1)) = 40 ∨ errA (valid h) (within m 0 ((h.ms.length : Int) - 1)) = 1 := by
      cases h1 : valid h <;> cases h2 : within m 0 ((h.ms.length : Int) - 1) <;> simp_all [errA]
    have hwo : withoutOf h m = [] := by unfold withoutOf; rw [hv]; rfl
    rcases he with he | he
    all_goals
      go_enter Try.func59, Try.ntmps59
      go_wp2_with (first | (refine wpList_boxF rfl _ rfl (Ext.refl hw) ?_; intro B w1 H1 hle hx hB hBw; obtain ⟨hc0, hc1, hc2, hc3⟩ := cellsHou hB; clear hB hw; have hw1 := hx.holds))
      refine wp_region_quietB H1 (by kernel_rfl) (by kernel_rfl) hw1 (fun hne => ?_)
      repeat go_big_quiet_step ((first | (go_at_call 98; exact Calls.quietB (isMachineT_any _ _ _ _ _ _ _ (WB.holds _) (hh.mono hle))) | (go_at_call 68; exact Calls.quietB (askT_any _ _ _ _ _ _ _ (WB.holds _) (hh.mono hle)))))
      refine wpQuiet_nil ?_
      rintro ⟨w2, hw2, hb2⟩
      clear hne
      go_wp2_with fail
      go_ret2
      exact ⟨_, H1, rfl, hx.step (hb2.mono hx.below.size) hw2, by rw [he, hwo]; exact ⟨_, rfl, Sl.nil0 _⟩⟩
  · simp only [Bool.and_eq_true] at hv
    obtain ⟨hv1, hv2⟩ := hv
    have he : errA (valid h) (within m 0 ((h.ms.length : Int) - 1)) = 0 := by simp [errA, hv1, hv2]
    have hwo : withoutOf h m = bestOf h m := by unfold withoutOf; rw [hv1, hv2]; rfl
    have hV := valid_iff.1 hv1
    have hm3 := hV.m3
    have hmb := within_iff.1 hv2
    clear hv1 hv2
    go_enter Try.func59, Try.ntmps59
    go_wp2_with (first | (refine wpList_boxF rfl _ rfl (Ext.refl hw) ?_; intro B w1 H1 hle hx hB hBw; obtain ⟨hc0, hc1, hc2, hc3⟩ := cellsHou hB; clear hB hw; have hw1 := hx.holds))
    refine wp_region_quietB H1 (by kernel_rfl) (by kernel_rfl) hw1 (fun hne => ?_)
    repeat go_big_quiet_step ((first | (go_at_call 98; exact Calls.quietB (isMachineT_any _ _ _ _ _ _ _ (WB.holds _) (hh.mono hle))) | (go_at_call 68; exact Calls.quietB (askT_any _ _ _ _ _ _ _ (WB.holds _) (hh.mono hle)))))
    refine wpQuiet_nil ?_
    rintro ⟨w2, hw2, hb2⟩
    clear hne
    go_wp2_with (first | (go_at_call 84; refine (best_any _ _ _ _ hV _ (by unfold I64; omega) _ _ hw2 (hh.mono hle)).mono ?_; rintro e w' ⟨v, H3, rfl, hx3, u, rfl, hs3⟩))
    go_ret2
    exact ⟨_, H3, rfl, (hx.step (hb2.mono hx.below.size) hw2).trans hx3, by rw [he, hwo]; exact ⟨_, rfl, hs3⟩⟩

/-- What trains.Sure returns. -/
def sureT (h : House) : Bool := valid h && sureB h []

set_option maxRecDepth 100000 in
theorem sureT_any (vm vb vt : Value) (h : House) (H : Snap) (w : World) (hw : Holds H w) (hh : Hou H vm vb vt h) :
    Calls Try.prog 39 #[houV vm vb vt h] w (PostV w (.tuple #[.bool (sureT h), .int .i64 (errT (valid h))])) := by
  cases hv : valid h
  · have he : errT (valid h) = 40 := by rw [hv]; rfl
    have hf : sureT h = false := by unfold sureT; rw [hv]; rfl
    go_enter Try.func39, Try.ntmps39
    go_wp2_with (first | (refine wpList_boxF rfl _ rfl (Ext.refl hw) ?_; intro B w1 H1 hle hx hB hBw; obtain ⟨hc0, hc1, hc2, hc3⟩ := cellsHou hB; clear hB hw; have hw1 := hx.holds) | (go_at_call 48; refine (checkT_any _ _ _ _ _ _ hw1 (hh.mono hle)).mono ?_; rintro e w' ⟨rfl, hb2⟩))
    go_ret2
    exact ⟨by rw [hf]; rfl, hx.below.trans (hb2.mono hx.below.size)⟩
  · have he : errT (valid h) = 0 := by rw [hv]; rfl
    have hV := valid_iff.1 hv
    have hf : sureT h = sureB h [] := by unfold sureT; rw [hv]; rfl
    go_enter Try.func39, Try.ntmps39
    go_wp2_with (first | (refine wpList_boxF rfl _ rfl (Ext.refl hw) ?_; intro B w1 H1 hle hx hB hBw; obtain ⟨hc0, hc1, hc2, hc3⟩ := cellsHou hB; clear hB hw; have hw1 := hx.holds) | (go_at_call 48; refine (checkT_any _ _ _ _ _ _ hw1 (hh.mono hle)).mono ?_; rintro e w' ⟨rfl, hb2⟩; have hw2 := hw1.below hb2) | (go_at_call 81; refine (sure_any _ _ _ _ hV [] (by simp) _ _ hw2 (hh.mono hle)).mono ?_; rintro e w' ⟨rfl, hb3⟩))
    go_ret2
    exact ⟨by rw [hf]; rfl, (hx.below.trans (hb2.mono hx.below.size)).trans (hb3.mono (Nat.le_trans hx.below.size hb2.size))⟩

set_option maxRecDepth 100000 in
set_option maxHeartbeats 4000000 in
theorem keyT_any (vm vb vt : Value) (h : House) (H : Snap) (w : World) (hw : Holds H w) (hh : Hou H vm vb vt h) :
    Calls Try.prog 43 #[houV vm vb vt h] w (PostV w (.tuple #[.int .i64 (if valid h then keyOf h else 0), .int .i64 (errT (valid h))])) := by
  obtain ⟨am, cm, rfl, hm1, hm2⟩ := hh.m.form
  cases hv : valid h
  · have he : errT (valid h) = 40 := by rw [hv]; rfl
    go_enter Try.func43, Try.ntmps43
    go_wp2_with (first | (refine wpList_boxF rfl _ rfl (Ext.refl hw) ?_; intro B w1 H1 hle hx hB hBw; obtain ⟨hc0, hc1, hc2, hc3⟩ := cellsHou hB; clear hB hw; have hw1 := hx.holds) | (go_at_call 48; refine (checkT_any _ _ _ _ _ _ hw1 (hh.mono hle)).mono ?_; rintro e w' ⟨rfl, hb2⟩))
    go_ret2
    exact ⟨rfl, hx.below.trans (hb2.mono hx.below.size)⟩
  · have he : errT (valid h) = 0 := by rw [hv]; rfl
    have hV := valid_iff.1 hv
    have hm3 := hV.m3
    have ht4 := hV.t4
    have hN : ∀ p, lateN h p ≤ 4 := fun p => Nat.le_trans (lateN_le h p) ht4
    rw [if_pos rfl]
    have hkey : Hid (keyOf h = (keyTo h h.ms.length).1) := rfl
    go_enter Try.func43, Try.ntmps43
    go_wp2_with (first | (refine wpList_boxF rfl _ rfl (Ext.refl hw) ?_; intro B w1 H1 hle hx hB hBw; obtain ⟨hc0, hc1, hc2, hc3⟩ := cellsHou hB; clear hB hw; have hw1 := hx.holds) | (go_at_call 48; refine (checkT_any _ _ _ _ _ _ hw1 (hh.mono hle)).mono ?_; rintro e w' ⟨rfl, hb2⟩; rw [he]; have hw2 := hw1.below hb2))
    try clear h
    have hx2 := hx.step (hb2.mono hx.below.size) hw2
    go_loopw [5, 6, 7, 8, 9, 18] (fun b n _ _ _ i wr => ∃ (k : Nat) (bb nn : Int), k ≤ h.ms.length ∧ i = .int .i64 k ∧ b = .int .i64 bb ∧ n = .int .i64 nn ∧ Hid (keyTo h k = (bb, nn)) ∧ (0 ≤ bb ∧ bb ≤ k) ∧ (-1 ≤ nn ∧ nn ≤ 4) ∧ Ext w H wr H1) (fun _ _ _ _ _ i _ => h.ms.length - (intOf i).toNat)
    case atStart => exact ⟨0, 0, -1, Nat.zero_le _, rfl, rfl, rfl, rfl, by omega, by omega, hx2⟩
    case round =>
      clear hx hx2 hw2 hb2 hw1
      obtain ⟨k, bb, nn, hk, rfl, rfl, rfl, hkt, hbb, hnn, hxr⟩ := hrel
      have hwr := hxr.holds
      by_cases hlk : k < h.ms.length
      · have hNk := hN (bestOf h (k : Nat))
        have hsucc : Hid (keyTo h (k + 1) = if nn < (lateN h (bestOf h (k : Nat)) : Nat) then ((k : Int), ((lateN h (bestOf h (k : Nat)) : Nat) : Int)) else (bb, nn)) := by
          show _ = _
          simp only [keyTo, hkt.out]
        obtain ⟨n, hn⟩ : ∃ n, Hid (n = lateN h (bestOf h (k : Nat))) := ⟨_, rfl⟩
        rw [← hn.out] at hsucc hNk
        have hbest : ∀ (w : World), Holds H1 w → Calls Try.prog 84 #[houV (.slice am h.ms.length cm) vb vt h, .int .i64 (k : Int)] w (Post w H1 fun v H' => ∃ u, v = .tuple #[u, .int .i64 (n : Nat)] ∧ Sl H' u (bestOf h k)) := fun w hw => by
          rw [hn.out]; exact best_any _ _ _ _ hV _ (by unfold I64; omega) _ _ hw (hh.mono hle)
        replace hbest := Lib.hid hbest
        cases hlt : decide (nn < (n : Int))
        all_goals
          go_wp2_with (first | (go_at_call 84; refine (hbest.out _ hwr).mono ?_; rintro e w' ⟨v, H3, rfl, hx3, u, rfl, hs3⟩; obtain ⟨a', c', rfl, _, _⟩ := hs3.form; have hxc := hxr.step (hx3.below.mono hxr.below.size) (hx3.old hwr)))
        · go_roundw
          case rel => exact ⟨k + 1, bb, nn, by omega, by go_num, rfl, rfl, by show _ = _; rw [hsucc.out, if_neg (by simpa using hlt)], by omega, hnn, hxc⟩
          case measure => simp [intOf]; omega
        · go_roundw
          case rel => exact ⟨k + 1, k, n, by omega, by go_num, rfl, rfl, by show _ = _; rw [hsucc.out, if_pos (by simpa using hlt)], by omega, by omega, hxc⟩
          case measure => simp [intOf]; omega
      · go_wp2_with fail
        try clear h
        go_ret2
        refine ⟨?_, hxr.below⟩
        rw [hkey.out, show h.ms.length = k by omega, hkt.out]; rfl

end Go.Proofs.Yteijmboophnmgaa
