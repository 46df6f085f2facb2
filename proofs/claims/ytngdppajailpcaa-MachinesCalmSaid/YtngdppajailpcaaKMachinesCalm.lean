/- Proved here: MachinesCalmSaid: the law MachinesCalm returns true for every hall, and the hall reads afterwards as it did. Conditions: none beyond those of the given statement. -/
import Derived.Test.YtngdppajailpcaaG24
import Derived.Test.YtngdppajailpcaaRows
import Derived.ProofKit

set_option linter.all false

namespace Go.Proofs.Ytngdppajailpcaa
open Go.RowKit

attribute [local go_sem] Holds.drew Holds.alloc Holds.drewN WB.holds

set_option maxRecDepth 100000 in
set_option maxHeartbeats 8000000 in
theorem machinesCalm_any (vm vb vt vo ve : Value) (h : Hall) (H : Snap) (w : World) (hw : Holds H w) (hh : Hal H vm vb vt vo ve h) :
    Calls Try.prog 7 #[halV vm vb vt vo ve h] w (PostV w (.bool true)) := by
  cases hr : ready9 h
  · go_enter Try.func7, Try.ntmps7
    go_wp2_with (first
      | (have hgd := x2; clear hgd; go_at_call 13; refine (works9_any H1 _ x2.holds).mono ?_; rintro e w3 ⟨rfl, hb3⟩; have x3 := x2.step (hb3.mono x2.below.size) (x2.holds.below hb3); have hw3 := x3.holds)
      | (have hgd := x1; clear hgd; go_at_call 11; refine (ready9_any _ _ _ _ _ _ H1 _ x1.holds (hh.mono hle)).mono ?_; rintro e w2 ⟨rfl, hb2⟩; rw [hr]; have x2 := x1.step (hb2.mono x1.below.size) (x1.holds.below hb2); have hw2 := x2.holds)
      | (have hgd := hw; clear hgd; refine wpList_boxF rfl _ rfl (Ext.refl hw) ?_; intro B w1 H1 hle hx hB hBw; obtain ⟨hc0, hc1, hc2, hc3, hc4, hc5⟩ := cellsHal hB; clear hB hw; have hw1 := hx.holds; have x1 := hx))
    go_ret
    exact ⟨rfl, x3.below⟩
  · have hv := ready9_valid hr
    have hvc := calm_valid hv
    obtain ⟨hsz, hs2⟩ := ed_small hv
    obtain ⟨hj, hle9⟩ := calm_fewer hv
    have ec1 : calmA h = fewestA (calmH h) := by unfold calmA; rw [validHall_iff.2 hv, if_pos rfl]
    have ec2 : calmE h = errF (calmH h) := by unfold calmE; rw [validHall_iff.2 hv, if_pos rfl]
    have hb := numC_bd hv Few.zero
    obtain ⟨N, hN⟩ : ∃ N, numC h zero12 = N := ⟨_, rfl⟩
    obtain ⟨C, hC⟩ : ∃ C, numC (calmH h) zero12 = C := ⟨_, rfl⟩
    rw [hN, hC] at hle9
    rw [hN] at hb
    rcases fewest_num hvc with ⟨g1, e2, e1, e3⟩ | ⟨g1, e2, e1, e4, e5⟩
    · have hN1 : N = 10000 := by rw [← hN]; exact numC_none hv Cn.zero (Classical.byContradiction fun hn => hj hn g1)
      rw [hC] at e3
      rw [← ec1] at e1
      rw [← ec2] at e2
      subst e3
      subst hN1
      clear g1 hj hle9 ec1 ec2 hb
      go_enter Try.func7, Try.ntmps7
      go_wp2_with (first
        | (have hgd := x7; clear hgd; go_at_call 13; refine (works9_any H6 _ x7.holds).mono ?_; rintro e w8 ⟨rfl, hb8⟩; have x8 := x7.step (hb8.mono x7.below.size) (x7.holds.below hb8); have hw8 := x8.holds)
        | (have hgd := x6; clear hgd; go_at_call 14; refine (fewestL9_any _ _ _ _ _ _ hvc H6 _ x6.holds k6).mono ?_; rintro e w7 ⟨rfl, hb7⟩; rw [hC]; have x7 := x6.step (hb7.mono x6.below.size) (x6.holds.below hb7); have hw7 := x7.holds)
        | (have hgd := x5; clear hgd; go_at_call 30; refine (calmed9_any _ _ _ _ _ _ H1 _ x5.holds (hh.mono hle) hsz hs2).mono ?_; rintro e w6 ⟨um6, ub6, ut6, uo6, ue6, H6, rfl, y6, k6⟩; have x6 := x5.trans y6; have l6 := y6.le x5.holds; have hw6 := x6.holds)
        | (have hgd := x4; clear hgd; go_at_call 26; refine (isKnown_any _ _).mono ?_; rintro e w5 ⟨rfl, hb5⟩; have x5 := x4.step (hb5.mono x4.below.size) (x4.holds.below hb5); have hw5 := x5.holds)
        | (have hgd := x3; clear hgd; go_at_call 29; refine (calmM_any _ _ _ _ _ _ H1 _ x3.holds (hh.mono hle)).mono ?_; rintro e w4 ⟨rfl, hb4⟩; rw [e1, e2]; have x4 := x3.step (hb4.mono x3.below.size) (x3.holds.below hb4); have hw4 := x4.holds)
        | (have hgd := x2; clear hgd; go_at_call 14; refine (fewestL9_any _ _ _ _ _ _ hv H1 _ x2.holds (hh.mono hle)).mono ?_; rintro e w3 ⟨rfl, hb3⟩; rw [hN]; have x3 := x2.step (hb3.mono x2.below.size) (x2.holds.below hb3); have hw3 := x3.holds)
        | (have hgd := x1; clear hgd; go_at_call 11; refine (ready9_any _ _ _ _ _ _ H1 _ x1.holds (hh.mono hle)).mono ?_; rintro e w2 ⟨rfl, hb2⟩; rw [hr]; have x2 := x1.step (hb2.mono x1.below.size) (x1.holds.below hb2); have hw2 := x2.holds)
        | (have hgd := hw; clear hgd; refine wpList_boxF rfl _ rfl (Ext.refl hw) ?_; intro B w1 H1 hle hx hB hBw; obtain ⟨hc0, hc1, hc2, hc3, hc4, hc5⟩ := cellsHal hB; clear hB hw; have hw1 := hx.holds; have x1 := hx))
      go_ret
      exact ⟨rfl, x8.below⟩
    · rw [← ec1, hC] at e1
      rw [← ec2] at e2
      rw [hC] at e4 e5
      clear g1 hj ec1 ec2 hb
      go_enter Try.func7, Try.ntmps7
      go_wp2_with (first
        | (have hgd := x7; clear hgd; go_at_call 13; refine (works9_any H6 _ x7.holds).mono ?_; rintro e w8 ⟨rfl, hb8⟩; have x8 := x7.step (hb8.mono x7.below.size) (x7.holds.below hb8); have hw8 := x8.holds)
        | (have hgd := x6; clear hgd; go_at_call 14; refine (fewestL9_any _ _ _ _ _ _ hvc H6 _ x6.holds k6).mono ?_; rintro e w7 ⟨rfl, hb7⟩; rw [hC]; have x7 := x6.step (hb7.mono x6.below.size) (x6.holds.below hb7); have hw7 := x7.holds)
        | (have hgd := x5; clear hgd; go_at_call 30; refine (calmed9_any _ _ _ _ _ _ H1 _ x5.holds (hh.mono hle) hsz hs2).mono ?_; rintro e w6 ⟨um6, ub6, ut6, uo6, ue6, H6, rfl, y6, k6⟩; have x6 := x5.trans y6; have l6 := y6.le x5.holds; have hw6 := x6.holds)
        | (have hgd := x4; clear hgd; go_at_call 26; refine (isKnown_any _ _).mono ?_; rintro e w5 ⟨rfl, hb5⟩; have x5 := x4.step (hb5.mono x4.below.size) (x4.holds.below hb5); have hw5 := x5.holds)
        | (have hgd := x3; clear hgd; go_at_call 29; refine (calmM_any _ _ _ _ _ _ H1 _ x3.holds (hh.mono hle)).mono ?_; rintro e w4 ⟨rfl, hb4⟩; rw [e1, e2]; have x4 := x3.step (hb4.mono x3.below.size) (x3.holds.below hb4); have hw4 := x4.holds)
        | (have hgd := x2; clear hgd; go_at_call 14; refine (fewestL9_any _ _ _ _ _ _ hv H1 _ x2.holds (hh.mono hle)).mono ?_; rintro e w3 ⟨rfl, hb3⟩; rw [hN]; have x3 := x2.step (hb3.mono x2.below.size) (x2.holds.below hb3); have hw3 := x3.holds)
        | (have hgd := x1; clear hgd; go_at_call 11; refine (ready9_any _ _ _ _ _ _ H1 _ x1.holds (hh.mono hle)).mono ?_; rintro e w2 ⟨rfl, hb2⟩; rw [hr]; have x2 := x1.step (hb2.mono x1.below.size) (x1.holds.below hb2); have hw2 := x2.holds)
        | (have hgd := hw; clear hgd; refine wpList_boxF rfl _ rfl (Ext.refl hw) ?_; intro B w1 H1 hle hx hB hBw; obtain ⟨hc0, hc1, hc2, hc3, hc4, hc5⟩ := cellsHal hB; clear hB hw; have hw1 := hx.holds; have x1 := hx))
      go_ret
      exact ⟨rfl, x8.below⟩

end Go.Proofs.Ytngdppajailpcaa

namespace Go.Proofs.Ytngdppajailpcaa
open Go.ChangeShapes Go.WideShapes Go.ChangeAt Go.RowKit

theorem machinesCalm_own : ownKnob Try.prog.godebug = none := by kernel_rfl
theorem machinesCalm_laid : laidOutB Try.prog = true := by kernel_rfl

set_option maxHeartbeats 1600000 in
set_option maxRecDepth 100000 in
theorem machinesCalm_lifted (os : Os) (started : os.Started) (H : Type) (enc : TypeId × Value → H) :
    ReturnsInHanded {} Try.checked os 7 .any (Rows.machinesCalmSpec.pre6 enc Try.prog Try.f7 Rows.machinesCalmRow.domain false) (Rows.machinesCalmSpec.post enc Try.prog Try.f7 false true false false) := by
  refine returnsInHanded_of_change_sized (C := Try.checked) machinesCalm_own started (by kernel_rfl) Try.func7
    (ChangeSpec.witness6 (enc := enc) (C := Try.checked) false ⟨#[], #[.agg #[.slice none 0 0, .slice none 0 0, .slice none 0 0, .int .i64 0, .slice none 0 0, .slice none 0 0]], []⟩ 8 (by kernel_rfl) (by kernel_rfl) (by kernel_rfl) (by kernel_rfl)) ?_
  intro W base args ds gs before hval0 hW _ hsz _
  have hval : ∀ (j : Nat) t v, Try.f7.params[j]? = some t → args[j]? = some v → Value.okWide Try.prog W .any base t v := hval0
  have hW' := hW
  obtain ⟨p, q, hA0, hV, rfl, _, _⟩ := hW
  have hA : DataW.TrodAll enc Try.prog W 0 (fun _ => true) true Try.f7.params.toList args.toList ds p := hA0
  have hS : (DataW.weightsEach Try.prog (Try.f7.params.toList ++ []) (ds ++ gs)).all (· ≤ reachBytes) = true := hsz
  rw [Try.params7] at hA hval hS
  obtain ⟨v0, d0, rfl, rfl, h0⟩ := trodAll_one hA
  obtain ⟨rfl, rfl⟩ := trodVars_none hV
  clear hA0 hval0 hsz
  simp only [List.append_nil] at hW' hS
  have hlt : ∀ x ∈ p, x.block < W.heap.size := fun x hx => by simpa using hW'.lt x hx
  have harg0 : ∀ W', Below W.heap.size W W' → DataW.Trod enc Try.prog W' 0 (fun b => decide (b < W.heap.size)) true 29 v0 d0 p := fun W' hb =>
    Below.trod machinesCalm_laid (by kernel_rfl) (of_decide_eq_true (by kernel_rfl)) h0 hb (fun x hx => hlt x (hx))
  have hw0 : ∀ k ∈ d0.weights Try.prog 29, k ≤ reachBytes := fun k hk => by
    simpa using List.all_eq_true.1 hS k (DataW.weights_mem_each (j := 0) rfl rfl k hk)
  obtain ⟨vm, vb, vt, vo, ve, hs, rfl, hh⟩ := hall_opened (hval 0 29 v0 rfl rfl) h0 hw0
  refine (machinesCalm_any vm vb vt vo ve hs (snapOf W) W (snapOf_holds W) hh).mono fun e W' ⟨he, hb⟩ => ?_
  subst he
  refine ⟨_, rfl, _, _, _, [], _, [], hW', ?_, trodAll_mk1 (harg0 W' hb), rfl, hb.frame _, fun h => by cases h⟩
  exact trodAll_mk1 (shut_bool Try.underlying4 _)

theorem machinesCalm_said : Rows.MachinesCalmSaid :=
  OpenClaim.holds_of_wide 7 Try.f7 rfl rfl rfl rfl rfl rfl rfl ⟨rfl, rfl, rfl, rfl, rfl⟩ rfl rfl rfl rfl rfl (by kernel_rfl) Try.func7 (by kernel_rfl)
    (of_decide_eq_true (by kernel_rfl)) (by unfold Func.isWrapper; first | (rw [if_pos (by decide +kernel)]; kernel_rfl) | (rw [if_neg (by decide +kernel)]; exact ⟨rfl, rfl⟩))
    (fun os started H enc _ => machinesCalm_lifted os started H enc)

end Go.Proofs.Ytngdppajailpcaa
