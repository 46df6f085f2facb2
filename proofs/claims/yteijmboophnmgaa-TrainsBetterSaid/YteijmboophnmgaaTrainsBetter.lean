/- Proved here: TrainsBetterSaid: the law TrainsBetter returns true for every house and every list of what is better, and the house reads afterwards as it did. Conditions: none beyond those of the given statement. -/
import Derived.Test.YteijmboophnmgaaRows
import Derived.Test.YteijmboophnmgaaLBetter
import Derived.Test.YteijmboophnmgaaOpenS
import Derived.Test.YteijmboophnmgaaOpen2
import Derived.ProofKit
namespace Go.Proofs.Yteijmboophnmgaa
open Go.ChangeShapes Go.WideShapes Go.ChangeAt Go.RowKit

theorem trainsBetter_own : ownKnob Try.prog.godebug = none := by kernel_rfl
theorem trainsBetter_laid : laidOutB Try.prog = true := by kernel_rfl

set_option maxHeartbeats 1600000 in
set_option maxRecDepth 100000 in
theorem trainsBetter_lifted (os : Os) (started : os.Started) (H : Type) (enc : TypeId × Value → H) :
    ReturnsInHanded {} Try.checked os 7 .any (Rows.trainsBetterSpec.pre6 enc Try.prog Try.f7 Rows.trainsBetterRow.domain false) (Rows.trainsBetterSpec.post enc Try.prog Try.f7 false true false false) := by
  refine returnsInHanded_of_change_sized (C := Try.checked) trainsBetter_own started (by kernel_rfl) Try.func7
    (ChangeSpec.witness6 (enc := enc) (C := Try.checked) false ⟨#[], #[.agg #[.slice none 0 0, .slice none 0 0, .slice none 0 0, .int .i64 0], .agg #[.int .i64 0, .int .i64 0, .int .i64 0, .int .i64 0, .int .i64 0, .int .i64 0, .int .i64 0]], []⟩ 8 (by kernel_rfl) (by kernel_rfl) (by kernel_rfl) (by kernel_rfl)) ?_
  intro W base args ds gs before hval0 hW _ hsz _
  have hval : ∀ (j : Nat) t v, Try.f7.params[j]? = some t → args[j]? = some v → Value.okWide Try.prog W .any base t v := hval0
  have hW' := hW
  obtain ⟨p, q, hA0, hV, rfl, _, _⟩ := hW
  have hA : DataW.TrodAll enc Try.prog W 0 (fun _ => true) true Try.f7.params.toList args.toList ds p := hA0
  have hS : (DataW.weightsEach Try.prog (Try.f7.params.toList ++ []) (ds ++ gs)).all (· ≤ reachBytes) = true := hsz
  rw [Try.params7] at hA hval hS
  obtain ⟨v0, v1, d0, d1, p0, p1, rfl, rfl, rfl, h0, h1⟩ := trodAll_two hA
  obtain ⟨rfl, rfl⟩ := trodVars_none hV
  clear hA0 hval0 hsz
  simp only [List.append_nil] at hW' hS
  have hlt : ∀ x ∈ p0 ++ p1, x.block < W.heap.size := fun x hx => by simpa using hW'.lt x hx
  have harg0 : ∀ W', Below W.heap.size W W' → DataW.Trod enc Try.prog W' 0 (fun b => decide (b < W.heap.size)) true 26 v0 d0 p0 := fun W' hb =>
    Below.trod trainsBetter_laid (by kernel_rfl) (of_decide_eq_true (by kernel_rfl)) h0 hb (fun x hx => hlt x (List.mem_append.2 (.inl hx)))
  have hw0 : ∀ k ∈ d0.weights Try.prog 26, k ≤ reachBytes := fun k hk => by
    simpa using List.all_eq_true.1 hS k (DataW.weights_mem_each (j := 0) rfl rfl k hk)
  have harg1 : ∀ W', Below W.heap.size W W' → DataW.Trod enc Try.prog W' 0 (fun b => decide (b < W.heap.size)) true 49 v1 d1 p1 := fun W' hb =>
    Below.trod trainsBetter_laid (by kernel_rfl) (of_decide_eq_true (by kernel_rfl)) h1 hb (fun x hx => hlt x (List.mem_append.2 (.inr hx)))
  have hw1 : ∀ k ∈ d1.weights Try.prog 49, k ≤ reachBytes := fun k hk => by
    simpa using List.all_eq_true.1 hS k (DataW.weights_mem_each (j := 1) rfl rfl k hk)
  obtain ⟨vm, vb, vt, hs, rfl, hh⟩ := house_opened (hval 0 26 v0 rfl rfl) h0 hw0
  obtain ⟨bm1, bp1, br1, bt1, bl1, bc1, bn1, rfl, hz1⟩ := better_opened (hval 1 49 v1 rfl rfl) h1
  refine (trainsBetter_any vm vb vt hs bm1 bp1 br1 bt1 bl1 bc1 bn1 (snapOf W) W (snapOf_holds W) hh hz1).mono fun e W' ⟨he, hb⟩ => ?_
  subst he
  refine ⟨_, rfl, _, _, _, [], _, [], hW', ?_, trodAll_mk2 (harg0 W' hb) (harg1 W' hb), rfl, hb.frame _, fun h => by cases h⟩
  exact trodAll_mk1 (shut_bool Try.underlying4 _)

theorem trainsBetter_said : Rows.TrainsBetterSaid :=
  OpenClaim.holds_of_wide 7 Try.f7 rfl rfl rfl rfl rfl rfl rfl ⟨rfl, rfl, rfl, rfl, rfl⟩ rfl rfl rfl rfl rfl (by kernel_rfl) Try.func7 (by kernel_rfl)
    (of_decide_eq_true (by kernel_rfl)) (by unfold Func.isWrapper; first | (rw [if_pos (by decide +kernel)]; kernel_rfl) | (rw [if_neg (by decide +kernel)]; exact ⟨rfl, rfl⟩))
    (fun os started H enc _ => trainsBetter_lifted os started H enc)

end Go.Proofs.Yteijmboophnmgaa
