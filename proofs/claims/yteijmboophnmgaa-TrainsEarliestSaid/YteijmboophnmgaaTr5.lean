/- The walks of trains: Check, ask, planned is behind isPlan. -/
import Derived.Test.YteijmboophnmgaaTr4
import Derived.Test.YteijmboophnmgaaBase
import Derived.Deep.DeepCutAuto
import Derived.Laws.EntriesVeiled
namespace Go.Proofs.Yteijmboophnmgaa
open Go.RowKit

attribute [local go_sem] Holds.drew Holds.alloc Holds.drewN WB.holds

set_option maxRecDepth 100000 in
set_option maxHeartbeats 8000000 in
theorem checkT_any (vm vb vt : Value) (h : House) (H : Snap) (w : World) (hw : Holds H w) (hh : Hou H vm vb vt h) :
    Calls Try.prog 48 #[houV vm vb vt h] w (PostV w (.int .i64 (errT (valid h)))) := by
  obtain ⟨am, cm, rfl, hm1, hm2⟩ := hh.m.form
  obtain ⟨ab, cb, rfl, hb1, hb2⟩ := hh.b.form
  obtain ⟨at', ct, rfl, ht1, ht2⟩ := hh.t.form
  go_enter Try.func48, Try.ntmps48
  go_upto_region 2 with (refine wpList_boxF rfl _ rfl (Ext.refl hw) ?_; intro B w1 H1 hle hx hB hBw; obtain ⟨hc0, hc1, hc2, hc3⟩ := cellsHou hB; clear hB hw; have hw1 := hx.holds)
  have hmf : ∀ (fn : Fn) (first cap : Array Value) (w : World), (Instr.makeFunc fn first cap).run Try.prog w = .ok (.func fn first cap) w := fun _ _ _ _ => rfl
  have hn : H1 w1.heap.size = none := hw1.none_of_ge (Nat.le_refl _)
  have hxz := (hx.alloc (.cells #[.func (.func 86) #[] #[]] 104)).freeze hx.below.size (heap_alloc_new w1 _)
  have hle2 := Snap.le_put hn (.cells #[.func (.func 86) #[] #[]] 104 (0, 0))
  have hcF : ∀ w, Holds (H1.put w1.heap.size (.cells #[.func (.func 86) #[] #[]] 104 (0, 0))) w → w.cell? ⟨w1.heap.size, 0, none⟩ = some (.func (.func 86) #[] #[]) := fun w hw => cellH (Snap.put_same _ _ _) hw 0
  generalize H1.put w1.heap.size (.cells #[.func (.func 86) #[] #[]] 104 (0, 0)) = H2 at *
  generalize w1.alloc (.cells #[.func (.func 86) #[] #[]] 104) = wz at *
  generalize w1.heap.size = c at *
  replace hc0 := lift hle2 hc0
  replace hc1 := lift hle2 hc1
  replace hc2 := lift hle2 hc2
  replace hc3 := lift hle2 hc3
  have hwz := hxz.holds
  have hhz := (hh.mono hle).mono hle2
  clear hx hw1 hle hle2 hn
  cases g1 : within (h.ms.length : Int) 1 3
  · go_wp2_with (first | (go_at_call 87; refine (withinT_any _ _ _ _).mono ?_; rintro e w' ⟨rfl, rfl⟩))
    go_ret
    exact ⟨ret_int (errT_no (fun v => by rw [within_iff.2 ⟨by have := v.m1; omega, by have := v.m3; omega⟩] at g1; cases g1)).symm, hxz.below⟩
  · cases g2 : decide (5 < (h.bs.length : Int))
    rotate_left
    · go_wp2_with (first | (go_at_call 87; refine (withinT_any _ _ _ _).mono ?_; rintro e w' ⟨rfl, rfl⟩))
      go_ret
      exact ⟨ret_int (errT_no (fun v => by have := v.b5; have := of_decide_eq_true g2; omega)).symm, hxz.below⟩
    · cases g3 : decide (4 < (h.ts.length : Int))
      rotate_left
      · go_wp2_with (first | (go_at_call 87; refine (withinT_any _ _ _ _).mono ?_; rintro e w' ⟨rfl, rfl⟩))
        go_ret
        exact ⟨ret_int (errT_no (fun v => by have := v.t4; have := of_decide_eq_true g3; omega)).symm, hxz.below⟩
      · cases g4 : within h.ch 0 9
        · go_wp2_with (first | (go_at_call 87; refine (withinT_any _ _ _ _).mono ?_; rintro e w' ⟨rfl, rfl⟩))
          go_ret
          exact ⟨ret_int (errT_no (fun v => by have := v.ch; rw [this] at g4; cases g4)).symm, hxz.below⟩
        · cases g5 : h.ts.any fun n => !within n 0 99
          rotate_left
          · go_wp2_with (first | (go_at_call 87; refine (withinT_any _ _ _ _).mono ?_; rintro e w' ⟨rfl, rfl⟩) | (go_at_call 88; refine (containsInt_any _ _ _ _ _ hwz hhz.t (hcF _ hwz)).mono ?_; rintro e w' ⟨rfl, rfl⟩))
            go_ret
            exact ⟨ret_int (errT_no (fun v => by obtain ⟨x, hx, hx2⟩ := List.any_eq_true.1 g5; have := List.all_eq_true.1 v.ts x hx; rw [this] at hx2; cases hx2)).symm, hxz.below⟩
          · cases g6 : h.ms.any fun m => !okMach m
            rotate_left
            · go_wp2_with (first | (go_at_call 87; refine (withinT_any _ _ _ _).mono ?_; rintro e w' ⟨rfl, rfl⟩) | (go_at_call 88; refine (containsInt_any _ _ _ _ _ hwz hhz.t (hcF _ hwz)).mono ?_; rintro e w' ⟨rfl, rfl⟩) | (go_at_call 90; refine (containsMach_any _ _ _ _ _ hwz hhz.m hcF).mono ?_; rintro e w' ⟨rfl, hbM⟩; have hwM := hwz.below hbM; have hxM := hxz.step (hbM.mono hxz.below.size) hwM))
              go_ret
              exact ⟨ret_int (errT_no (fun v => by obtain ⟨x, hx, hx2⟩ := List.any_eq_true.1 g6; have := List.all_eq_true.1 v.ms x hx; rw [this] at hx2; cases hx2)).symm, hxM.below⟩
            · cases g7 : h.bs.any fun b => !okBund h.ts.length b
              rotate_left
              · go_wp2_with (first | (go_at_call 87; refine (withinT_any _ _ _ _).mono ?_; rintro e w' ⟨rfl, rfl⟩) | (go_at_call 88; refine (containsInt_any _ _ _ _ _ hwz hhz.t (hcF _ hwz)).mono ?_; rintro e w' ⟨rfl, rfl⟩) | (go_at_call 90; refine (containsMach_any _ _ _ _ _ hwz hhz.m hcF).mono ?_; rintro e w' ⟨rfl, hbM⟩; have hwM := hwz.below hbM; have hxM := hxz.step (hbM.mono hxz.below.size) hwM) | (go_at_call 92; refine (containsBund_any _ _ _ _ _ _ _ _ _ hwM hhz.b hhz hc0 hc1 hc2 hc3).mono ?_; rintro e w' ⟨rfl, hbB⟩; have hxB := hxM.step (hbB.mono hxM.below.size) (hwM.below hbB)))
                go_ret
                exact ⟨ret_int (errT_no (fun v => by obtain ⟨x, hx, hx2⟩ := List.any_eq_true.1 g7; have := List.all_eq_true.1 v.bs x hx; rw [this] at hx2; cases hx2)).symm, hxB.below⟩
              · have hyes : Valid h := by
                  have h1 := within_iff.1 g1
                  have h2 := of_decide_eq_false g2
                  have h3 := of_decide_eq_false g3
                  refine ⟨by omega, by omega, by omega, by omega, g4, ?_, ?_, ?_⟩
                  · rw [List.all_eq_true]; intro x hx; have := List.any_eq_false.1 g6 x hx; simpa using this
                  · rw [List.all_eq_true]; intro x hx; have := List.any_eq_false.1 g5 x hx; simpa using this
                  · rw [List.all_eq_true]; intro x hx; have := List.any_eq_false.1 g7 x hx; simpa using this
                go_wp2_with (first | (go_at_call 87; refine (withinT_any _ _ _ _).mono ?_; rintro e w' ⟨rfl, rfl⟩) | (go_at_call 88; refine (containsInt_any _ _ _ _ _ hwz hhz.t (hcF _ hwz)).mono ?_; rintro e w' ⟨rfl, rfl⟩) | (go_at_call 90; refine (containsMach_any _ _ _ _ _ hwz hhz.m hcF).mono ?_; rintro e w' ⟨rfl, hbM⟩; have hwM := hwz.below hbM; have hxM := hxz.step (hbM.mono hxz.below.size) hwM) | (go_at_call 92; refine (containsBund_any _ _ _ _ _ _ _ _ _ hwM hhz.b hhz hc0 hc1 hc2 hc3).mono ?_; rintro e w' ⟨rfl, hbB⟩; have hxB := hxM.step (hbB.mono hxM.below.size) (hwM.below hbB)))
                go_ret
                exact ⟨ret_int (errT_yes hyes).symm, hxB.below⟩

end Go.Proofs.Yteijmboophnmgaa
