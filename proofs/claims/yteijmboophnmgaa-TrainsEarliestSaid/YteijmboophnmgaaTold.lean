/- The walk of trains.Told. -/
import Derived.Test.YteijmboophnmgaaSure
import Derived.Test.YteijmboophnmgaaCmp
namespace Go.Proofs.Yteijmboophnmgaa
open Go.RowKit

attribute [local go_sem] Holds.drew Holds.alloc Holds.drewN WB.holds

/-- A round of Told: the set s against the list found so far and its length. -/
def toldStep (h : House) (a : List Int × Nat) (s : Nat) : List Int × Nat :=
  if (decide ((setList s).length < a.2) || (decide ((setList s).length = a.2) && decide (cmpL (setList s) a.1 < 0))) && sureB h (setList s) then (setList s, (setList s).length) else a
def toldRun (h : House) (k : Nat) : List Int × Nat := (List.range k).foldl (toldStep h) ([], h.ts.length + 1)
theorem toldRun_succ (h : House) (k : Nat) : toldRun h (k + 1) = toldStep h (toldRun h k) k := by
  unfold toldRun; rw [List.range_succ, List.foldl_append]; rfl
/-- What trains.Told returns. -/
def toldT (h : House) : List Int := if valid h then (toldRun h (2 ^ h.ts.length)).1 else []

theorem setList_le (s : Nat) : (setList s).length ≤ 4 := setTo_len s 4
theorem ub_setList : ∀ s : Fin 16, ub (setList s.val) = s.val := by decide
theorem setList_bd {s : Nat} : ∀ x ∈ setList s, 0 ≤ x ∧ x ≤ 3 := by
  intro x hx
  simp only [setList, setTo, List.mem_map, List.mem_filter, List.mem_range] at hx
  obtain ⟨i, ⟨hi, _⟩, rfl⟩ := hx
  show (0 : Int) ≤ (i : Int) ∧ (i : Int) ≤ 3
  omega
theorem toldRun_bd (h : House) : ∀ k, (toldRun h k).2 ≤ max 4 (h.ts.length + 1)
  | 0 => by show h.ts.length + 1 ≤ _; omega
  | k + 1 => by
    rw [toldRun_succ]; unfold toldStep
    have h1 := toldRun_bd h k
    have h2 := setList_le k
    split
    · show (setList k).length ≤ _; omega
    · exact h1
theorem cmpL_bd : ∀ a b : List Int, -1 ≤ cmpL a b ∧ cmpL a b ≤ 1
  | [], [] => by simp [cmpL]
  | [], _ :: _ => by simp [cmpL]
  | _ :: _, [] => by simp [cmpL]
  | a :: l, b :: m => by unfold cmpL; split; exact cmpL_bd l m; exact cmp3_bd a b

set_option maxRecDepth 100000 in
set_option maxHeartbeats 8000000 in
theorem toldT_any (vm vb vt : Value) (h : House) (H : Snap) (w : World) (hw : Holds H w) (hh : Hou H vm vb vt h) :
    Calls Try.prog 41 #[houV vm vb vt h] w (Post w H fun v H' => ∃ u, v = .tuple #[u, .int .i64 (errT (valid h))] ∧ Sl H' u (toldT h)) := by
  obtain ⟨at', ct, rfl, ht1, ht2⟩ := hh.t.form
  cases hv : valid h
  · have he : errT (valid h) = 40 := by rw [hv]; rfl
    go_enter Try.func41, Try.ntmps41
    go_wp2_with (first | (refine wpList_boxF rfl _ rfl (Ext.refl hw) ?_; intro B w1 H1 hle hx hB hBw; obtain ⟨hc0, hc1, hc2, hc3⟩ := cellsHou hB; clear hB hw; have hw1 := hx.holds) | (go_at_call 48; refine (checkT_any _ _ _ _ _ _ hw1 (hh.mono hle)).mono ?_; rintro e w' ⟨rfl, hb2⟩))
    go_ret2
    exact ⟨_, H1, rfl, hx.step (hb2.mono hx.below.size) (hw1.below hb2), _, rfl, by unfold toldT; rw [hv]; exact Sl.nil0 _⟩
  · have he : errT (valid h) = 0 := by rw [hv]; rfl
    have hV := valid_iff.1 hv
    have ht4 := hV.t4
    have htold : Hid (toldT h = (toldRun h (2 ^ h.ts.length)).1) := by show _ = _; unfold toldT; rw [hv]; rfl
    obtain ⟨N, hN⟩ : ∃ N, Hid (N = 2 ^ h.ts.length) := ⟨2 ^ h.ts.length, rfl⟩
    have hN16 : N ≤ 16 := by rw [hN.out]; exact Nat.pow_le_pow_right (by omega) (show h.ts.length ≤ 4 from ht4)
    rw [← hN.out] at htold
    go_enter Try.func41, Try.ntmps41
    go_wp2_with (first | (refine wpList_boxF rfl _ rfl (Ext.refl hw) ?_; intro B w1 H1 hle hx hB hBw; obtain ⟨hc0, hc1, hc2, hc3⟩ := cellsHou hB; clear hB hw; have hw1 := hx.holds) | (go_at_call 48; refine (checkT_any _ _ _ _ _ _ hw1 (hh.mono hle)).mono ?_; rintro e w' ⟨rfl, hb2⟩; rw [he]; have hw2 := hw1.below hb2))
    rw [show IntKind.u64.wrap (2 ^ h.ts.length) = (N : Int) by
      rw [hN.out]
      rcases (by omega : h.ts.length = 0 ∨ h.ts.length = 1 ∨ h.ts.length = 2 ∨ h.ts.length = 3 ∨ h.ts.length = 4) with e | e | e | e | e <;> rw [e] <;> decide]
    have hx2 := hx.step (hb2.mono hx.below.size) hw2
    clear hb2
    go_loopw [5, 6, 7, 8, 9, 23] (fun v f _ _ _ i wr => ∃ (k : Nat) (Hc : Snap) (acc : List Int) (fn : Nat), k ≤ N ∧ i = .int .u64 k ∧ f = .int .i64 fn ∧ Hid (toldRun h k = (acc, fn)) ∧ SLe H1 Hc ∧ Ext w H wr Hc ∧ Sl Hc v acc) (fun _ _ _ _ _ i _ => N - (intOf i).toNat)
    case atStart => exact ⟨0, H1, [], h.ts.length + 1, Nat.zero_le _, rfl, rfl, rfl, SLe.refl _, hx2, Sl.nil0 _⟩
    case round =>
      clear hx hx2 hw2 hw1
      obtain ⟨k, Hc, acc, fn, hk, rfl, rfl, hrun, hle1, hxr, hacc⟩ := hrel
      obtain ⟨aa, ca, rfl, hca1, hca2⟩ := hacc.form
      have hwr := hxr.holds
      have hfn : fn ≤ 5 := by have := toldRun_bd h k; rw [hrun.out] at this; show fn ≤ 5; exact Nat.le_trans this (by omega)
      by_cases hlk : k < N
      · have hk16 : k < 16 := by omega
        have hsucc : Hid (toldRun h (k + 1) = toldStep h (acc, fn) k) := by show _ = _; rw [toldRun_succ, hrun.out]
        have hub := ub_setList ⟨k, hk16⟩
        simp only at hub
        have hbd := setList_bd (s := k)
        have hlen := setList_le k
        have hset : ∀ (H : Snap) (w : World), Holds H w → Calls Try.prog 80 #[.int .u64 k] w (Post w H fun v H' => Sl H' v (setList k)) := fun H w hw => setList_any k hk16 H w hw
        obtain ⟨l, hl⟩ : ∃ l, Hid (l = setList k) := ⟨_, rfl⟩
        unfold toldStep at hsucc
        rw [← hl.out] at hub hbd hlen hset hsucc
        replace hset := Lib.hid hset
        have hc := cmpL_bd l acc
        obtain ⟨D, hD⟩ : ∃ D, Hid (D = cmpL l acc) := ⟨_, rfl⟩
        simp only [← hD.out] at hsucc hc
        obtain ⟨S, hS⟩ : ∃ S, Hid (S = sureB h l) := ⟨_, rfl⟩
        simp only [← hS.out] at hsucc
        have hcmp : ∀ (va vb : Value) (H : Snap) (w : World), Holds H w → Sl H va l → Sl H vb acc → Calls Try.prog 83 #[va, vb] w (PostV w (.int .i64 D)) := fun va vb H w hw h1 h2 => by rw [hD.out]; exact compare_any _ _ _ _ H w hw h1 h2
        have hsure : ∀ (H : Snap) (w : World), Holds H w → SLe H1 H → Calls Try.prog 81 #[houV vm vb (.slice at' h.ts.length ct) h, .int .u64 k] w (PostV w (.bool S)) := fun Hq wq hwq hlq => by
          rw [hS.out, show ((k : Nat) : Int) = ((ub l : Nat) : Int) by rw [hub]]
          exact sure_any _ _ _ _ hV l hbd Hq wq hwq ((hh.mono hle).mono hlq)
        replace hcmp := Lib.hid hcmp
        replace hsure := Lib.hid hsure
        clear hub hbd
        replace hsucc := Lib.hid hsucc
        go_upto_region 11 with (go_at_call 80; refine (hset.out _ _ hwr).mono ?_; rintro e w' ⟨v, H3, rfl, hx3, hs3⟩; obtain ⟨a3, c3, rfl, hs31, hs32⟩ := hs3.form)
        have hw3 := hx3.holds
        have hle3 := hx3.le hwr
        have hxt := hxr.trans hx3
        have hd0 := lift (hle1.trans hle3) hc0
        have hd1 := lift (hle1.trans hle3) hc1
        have hd2 := lift (hle1.trans hle3) hc2
        have hd3 := lift (hle1.trans hle3) hc3
        have hacc3 := hacc.mono hle3
        clear hx3 hxr hwr
        by_cases h1 : l.length < fn
        · have b1 : decide (((l.length : Nat) : Int) < ((fn : Nat) : Int)) = true := by simpa using h1
          cases S
          · have hsn : Hid (toldRun h (k + 1) = (acc, fn)) := by
              show _ = _
              rw [hsucc.out.out]; simp [h1]
            go_wp2_with (first | ((go_at_call 81; refine (hsure.out H3 _ hw3 (hle1.trans hle3)).mono ?_; rintro e w5 ⟨rfl, hb5⟩; have hw5 := hw3.below hb5; have hx5 := hxt.step (hb5.mono hxt.below.size) hw5)))
            go_roundw
            case rel => exact ⟨k + 1, H3, acc, fn, by omega, by go_num, rfl, hsn, hle1.trans hle3, hx5, hacc3⟩
            case measure => simp [intOf]; omega
          · have hsn : Hid (toldRun h (k + 1) = (l, l.length)) := by
              show _ = _
              rw [hsucc.out.out]; simp [h1]
            go_wp2_with (first | ((go_at_call 81; refine (hsure.out H3 _ hw3 (hle1.trans hle3)).mono ?_; rintro e w5 ⟨rfl, hb5⟩; have hw5 := hw3.below hb5; have hx5 := hxt.step (hb5.mono hxt.below.size) hw5)))
            go_roundw
            case rel => exact ⟨k + 1, H3, l, l.length, by omega, by go_num, rfl, hsn, hle1.trans hle3, hx5, hs3⟩
            case measure => simp [intOf]; omega
        · by_cases h2 : fn = l.length
          · subst h2
            cases h3 : decide (D < 0)
            · have hsn : Hid (toldRun h (k + 1) = (acc, l.length)) := by
                show _ = _
                rw [hsucc.out.out]; simp [h3]
              go_wp2_with (first | ((go_at_call 83; refine (hcmp.out _ _ H3 _ hw3 hs3 hacc3).mono ?_; rintro e w4 ⟨rfl, hb4⟩; have hw4 := hw3.below hb4; have hx4 := hxt.step (hb4.mono hxt.below.size) hw4)))
              go_roundw
              case rel => exact ⟨k + 1, H3, acc, l.length, by omega, by go_num, rfl, hsn, hle1.trans hle3, hx4, hacc3⟩
              case measure => simp [intOf]; omega
            · cases S
              · have hsn : Hid (toldRun h (k + 1) = (acc, l.length)) := by
                  show _ = _
                  rw [hsucc.out.out]; simp [h3]
                go_wp2_with (first | ((go_at_call 83; refine (hcmp.out _ _ H3 _ hw3 hs3 hacc3).mono ?_; rintro e w4 ⟨rfl, hb4⟩; have hw4 := hw3.below hb4; have hx4 := hxt.step (hb4.mono hxt.below.size) hw4)) | ((go_at_call 81; refine (hsure.out H3 _ hw4 (hle1.trans hle3)).mono ?_; rintro e w5 ⟨rfl, hb5⟩; have hw5 := hw4.below hb5; have hx5 := hx4.step (hb5.mono hx4.below.size) hw5)))
                go_roundw
                case rel => exact ⟨k + 1, H3, acc, l.length, by omega, by go_num, rfl, hsn, hle1.trans hle3, hx5, hacc3⟩
                case measure => simp [intOf]; omega
              · have hsn : Hid (toldRun h (k + 1) = (l, l.length)) := by
                  show _ = _
                  rw [hsucc.out.out]; simp [h3]
                go_wp2_with (first | ((go_at_call 83; refine (hcmp.out _ _ H3 _ hw3 hs3 hacc3).mono ?_; rintro e w4 ⟨rfl, hb4⟩; have hw4 := hw3.below hb4; have hx4 := hxt.step (hb4.mono hxt.below.size) hw4)) | ((go_at_call 81; refine (hsure.out H3 _ hw4 (hle1.trans hle3)).mono ?_; rintro e w5 ⟨rfl, hb5⟩; have hw5 := hw4.below hb5; have hx5 := hx4.step (hb5.mono hx4.below.size) hw5)))
                go_roundw
                case rel => exact ⟨k + 1, H3, l, l.length, by omega, by go_num, rfl, hsn, hle1.trans hle3, hx5, hs3⟩
                case measure => simp [intOf]; omega
          · have b1 : decide (((l.length : Nat) : Int) < ((fn : Nat) : Int)) = false := by simpa using h1
            have b2 : (((l.length : Nat) : Int) == ((fn : Nat) : Int)) = false := by simp; omega
            have hsn : Hid (toldRun h (k + 1) = (acc, fn)) := by
              show _ = _
              rw [hsucc.out.out]; simp [h1, show ¬ l.length = fn from fun e => h2 e.symm]
            go_wp2_with fail
            go_roundw
            case rel => exact ⟨k + 1, H3, acc, fn, by omega, by go_num, rfl, hsn, hle1.trans hle3, hxt, hacc3⟩
            case measure => simp [intOf]; omega
      · go_wp2_with fail
        try clear h
        go_ret2
        refine ⟨_, Hc, rfl, hxr, _, rfl, ?_⟩
        rw [htold.out, show N = k by omega, hrun.out]
        exact hacc

end Go.Proofs.Yteijmboophnmgaa
