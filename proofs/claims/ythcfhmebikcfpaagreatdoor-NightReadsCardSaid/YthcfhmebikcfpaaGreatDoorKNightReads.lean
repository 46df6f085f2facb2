/- Proved here: NightReadsCardSaid: the law NightReads returns true for any two strings. Conditions: none beyond those of the given statement. -/
import Derived.Test.YthcfhmebikcfpaaGreatDoorG13
import Derived.Test.YthcfhmebikcfpaaGreatDoorG18
import Derived.Test.YthcfhmebikcfpaaGreatDoorRows
import Derived.Test.YthcfhmebikcfpaaGreatDoorTie
import Derived.Test.YthcfhmebikcfpaaGreatDoorCards
import Derived.ProofKit
import Derived.SevenTiedAt

set_option linter.all false

namespace Go.Proofs.YthcfhmebikcfpaaGreatDoor
open Go.RowKit
attribute [local go_sem] Holds.drew Holds.alloc Holds.drewN WB.holds Oper.semAt_some

set_option maxRecDepth 100000 in
set_option maxHeartbeats 4000000 in
theorem nightReads_any (s t : ByteArray) (H : Snap) (w : World) (hw : Holds H w) (_hs : s.size ≤ 140737488355328) (_ht : t.size ≤ 140737488355328) :
    Calls Tryz.prog 5 #[.string s, .string t] w (PostV w (.bool true)) := by
  have cW : ∀ (H' : Snap) (W : World), Holds H' W → Calls Tryz.prog 7 #[] W (PostV W (.bool true)) := fun H' W h => works14_any H' W h
  by_cases hbig : 2000 < s.size ∨ 200 < t.size
  case pos =>
    replace cW := Lib.hid cW
    have hc : (2000 : Int) < (s.size : Int) ∨ (¬ (2000 : Int) < (s.size : Int) ∧ (200 : Int) < (t.size : Int)) := by omega
    clear hbig _hs _ht
    rcases hc with h1 | ⟨h1, h2⟩
    · go_enter Tryz.func5, Tryz.ntmps5
      go_wp2_with (first | ((go_at_call 7; go_must (refine (cW.out H _ hw).mono ?_); rintro e w3 ⟨rfl, hb3⟩)))
      go_ret
      exact ⟨rfl, hb3⟩
    · go_enter Tryz.func5, Tryz.ntmps5
      go_wp2_with (first | ((go_at_call 7; go_must (refine (cW.out H _ hw).mono ?_); rintro e w3 ⟨rfl, hb3⟩)))
      go_ret
      exact ⟨rfl, hb3⟩
  case neg =>
  have h1 : ¬ (2000 : Int) < (s.size : Int) := by omega
  have h2 : ¬ (200 : Int) < (t.size : Int) := by omega
  have htl : t.size ≤ 1000000 := by omega
  have cA1 : ∀ (H' : Snap) (W : World), Holds H' W → Calls Tryz.prog 21 #[.string s] W (PostOE W H' 9 (readA (bys s)).1 (readA (bys s)).2) := fun H' W h1 => nReadT_any s H' W h1
  have cA2 : ∀ (H' : Snap) (W : World), Holds H' W → Calls Tryz.prog 22 #[.string s] W (PostOE W H' 9 (readA (bys s)).1 (readA (bys s)).2) := fun H' W h1 => read14_any s H' W h1
  have cB1 : ∀ (H' : Snap) (W : World), Holds H' W → Calls Tryz.prog 23 #[.string s, .string t] W (PostV W (.tuple #[.string (addR s t), .int .i64 (addE s t)])) := fun H' W h1 => nAdd_any s t htl H' W h1
  have cB2 : ∀ (H' : Snap) (W : World), Holds H' W → Calls Tryz.prog 24 #[.string s, .string t] W (PostV W (.tuple #[.string (addR s t), .int .i64 (addE s t)])) := fun H' W h1 => add14_any s t htl H' W h1
  have cC1 : ∀ (H' : Snap) (W : World), Holds H' W → Calls Tryz.prog 25 #[.string s] W (PostV W (.tuple #[.string (cutR s), .int .i64 (cutE s)])) := fun H' W h1 => nCut_any s H' W h1
  have cC2 : ∀ (H' : Snap) (W : World), Holds H' W → Calls Tryz.prog 26 #[.string s] W (PostV W (.tuple #[.string (cutR s), .int .i64 (cutE s)])) := fun H' W h1 => cut14_any s H' W h1
  have cD1 : ∀ (H' : Snap) (W : World), Holds H' W → Calls Tryz.prog 27 #[.string s] W (PostV W (.int .i64 (stateA (bys s)))) := fun H' W h1 => nState_any s H' W h1
  have cD2 : ∀ (H' : Snap) (W : World), Holds H' W → Calls Tryz.prog 28 #[.string s] W (PostV W (.int .i64 (stateA (bys s)))) := fun H' W h1 => state14_any s H' W h1
  generalize (readA (bys s)).1 = lr at *
  generalize (readA (bys s)).2 = n1 at *
  generalize addR s t = q2 at *
  generalize addE s t = n2 at *
  generalize cutR s = q3 at *
  generalize cutE s = n3 at *
  generalize stateA (bys s) = n4 at *
  have ht2 := toList_same q2
  have ht3 := toList_same q3
  have cS : ∀ (H' : Snap) (W : World), Holds H' W → ∀ {u v : Value}, Sl H' u lr → Sl H' v lr → Calls Tryz.prog 10 #[u, v] W (PostV W (.bool true)) := fun H' W h1 u v h2 h3 => by
    have := sameTexts_any u v lr lr H' W h1 h2 h3
    rw [decide_eq_true rfl] at this
    exact this
  have hx0 := Ext.refl hw
  replace cW := Lib.hid cW
  replace cS := Lib.hid cS
  replace cA1 := Lib.hid cA1
  replace cA2 := Lib.hid cA2
  replace cB1 := Lib.hid cB1
  replace cB2 := Lib.hid cB2
  replace cC1 := Lib.hid cC1
  replace cC2 := Lib.hid cC2
  replace cD1 := Lib.hid cD1
  replace cD2 := Lib.hid cD2
  clear hbig htl _hs _ht
  have x0 : Ext w H w H := hx0
  clear hx0
  go_enter Tryz.func5, Tryz.ntmps5
  go_wp2_with (first | ((have hgd := x9; clear hgd; go_at_call 7; go_must (refine (cW.out H2 _ x9.holds ).mono ?_); rintro e w10 ⟨rfl, hb10⟩; have x10 := x9.step (hb10.mono x9.below.size) (x9.holds.below hb10))) | ((have hgd := x8; clear hgd; go_at_call 28; go_must (refine (cD2.out H2 _ x8.holds ).mono ?_); rintro e w9 ⟨rfl, hb9⟩; have x9 := x8.step (hb9.mono x8.below.size) (x8.holds.below hb9))) | ((have hgd := x7; clear hgd; go_at_call 27; go_must (refine (cD1.out H2 _ x7.holds ).mono ?_); rintro e w8 ⟨rfl, hb8⟩; have x8 := x7.step (hb8.mono x7.below.size) (x7.holds.below hb8))) | ((have hgd := x6; clear hgd; go_at_call 10; go_must (refine (cS.out H2 _ x6.holds ka_2 s2).mono ?_); rintro e w7 ⟨rfl, hb7⟩; have x7 := x6.step (hb7.mono x6.below.size) (x6.holds.below hb7))) | ((have hgd := x5; clear hgd; go_at_call 26; go_must (refine (cC2.out H2 _ x5.holds ).mono ?_); rintro e w6 ⟨rfl, hb6⟩; have x6 := x5.step (hb6.mono x5.below.size) (x5.holds.below hb6))) | ((have hgd := x4; clear hgd; go_at_call 25; go_must (refine (cC1.out H2 _ x4.holds ).mono ?_); rintro e w5 ⟨rfl, hb5⟩; have x5 := x4.step (hb5.mono x4.below.size) (x4.holds.below hb5))) | ((have hgd := x3; clear hgd; go_at_call 24; go_must (refine (cB2.out H2 _ x3.holds ).mono ?_); rintro e w4 ⟨rfl, hb4⟩; have x4 := x3.step (hb4.mono x3.below.size) (x3.holds.below hb4))) | ((have hgd := x2; clear hgd; go_at_call 23; go_must (refine (cB1.out H2 _ x2.holds ).mono ?_); rintro e w3 ⟨rfl, hb3⟩; have x3 := x2.step (hb3.mono x2.below.size) (x2.holds.below hb3))) | ((have hgd := x1; clear hgd; go_at_call 22; go_must (refine (cA2.out H1 _ x1.holds ).mono ?_); rintro e w2 ⟨v2, K2, rfl, y2, o2⟩; obtain ⟨H2, z2, _, s2, _⟩ := o2.close y2; obtain ⟨a2, c2, rfl, _, _⟩ := o2.form; have x2 := x1.trans z2; have ka_2 := s1.mono (z2.le x1.holds))) | ((have hgd := x0; clear hgd; go_at_call 21; go_must (refine (cA1.out H _ x0.holds ).mono ?_); rintro e w1 ⟨v1, K1, rfl, y1, o1⟩; obtain ⟨H1, z1, _, s1, _⟩ := o1.close y1; obtain ⟨a1, c1, rfl, _, _⟩ := o1.form; have x1 := x0.trans z1)))
  go_ret
  exact ⟨rfl, x10.below⟩
end Go.Proofs.YthcfhmebikcfpaaGreatDoor

namespace Go.Proofs.YthcfhmebikcfpaaGreatDoor
open Go.ChangeShapes Go.WideShapes Go.ChangeAt Go.RowKit

theorem nightReads_own : ownKnob Tryz.prog.godebug = none := by kernel_rfl
theorem nightReads_laid : laidOutB Tryz.prog = true := by kernel_rfl

set_option maxHeartbeats 1600000 in
set_option maxRecDepth 100000 in
theorem nightReads_lifted (os : Os) (started : os.Started) (H : Type) (enc : TypeId × Value → H) :
    ReturnsInHanded {} Tryz.checked os 5 .any (fun w args => (Rows.nightReadsSpec.pre enc Tryz.prog Tryz.f5 [] false w args ∧ laidMetH Tryz.prog laidN w) ∧ sizedMet enc Tryz.prog Tryz.f5 (OpenSpec.ofChange Rows.nightReadsSpec) false w args)
      (Rows.nightReadsSpec.post enc Tryz.prog Tryz.f5 false true false false) := by
  refine returnsInHanded_of_change_and (C := Tryz.checked) (X := fun w _ => laidMetH Tryz.prog laidN w) (fun _ _ _ hh h => h.of_heap hh) nightReads_own started (by kernel_rfl) Tryz.func5
    (ChangeSpec.witness_shaped (enc := enc) (C := Tryz.checked) (os := os) (X := fun w _ => laidMetH Tryz.prog laidN w) false (doorN os) #[.string ⟨#[]⟩, .string ⟨#[]⟩] 8 rfl (door_shaped os _) (by kernel_rfl) (by kernel_rfl) (by kernel_rfl) (door_met os _)) ?_
  intro W base args ds gs before hval0 hW _ hsz _ _
  have hval : ∀ (j : Nat) t v, Tryz.f5.params[j]? = some t → args[j]? = some v → Value.okWide Tryz.prog W .any base t v := hval0
  have hW' := hW
  obtain ⟨p, q, hA0, hV, rfl, _, _⟩ := hW
  have hA : DataW.TrodAll enc Tryz.prog W 0 (fun _ => true) true Tryz.f5.params.toList args.toList ds p := hA0
  have hS : (DataW.weightsEach Tryz.prog (Tryz.f5.params.toList ++ []) (ds ++ gs)).all (· ≤ reachBytes) = true := hsz
  rw [Tryz.params5] at hA hval hS
  obtain ⟨v0, v1, d0, d1, p0, p1, rfl, rfl, rfl, h0, h1⟩ := trodAll_two hA
  obtain ⟨rfl, rfl⟩ := trodVars_none hV
  clear hA0 hval0 hsz
  simp only [List.append_nil] at hW' hS
  have hlt : ∀ x ∈ p0 ++ p1, x.block < W.heap.size := fun x hx => by simpa using hW'.lt x hx
  have hw0 : ∀ k ∈ d0.weights Tryz.prog 9, k ≤ reachBytes := fun k hk => by
    simpa using List.all_eq_true.1 hS k (DataW.weights_mem_each (j := 0) rfl rfl k hk)
  have hw1 : ∀ k ∈ d1.weights Tryz.prog 9, k ≤ reachBytes := fun k hk => by
    simpa using List.all_eq_true.1 hS k (DataW.weights_mem_each (j := 1) rfl rfl k hk)
  obtain ⟨s0, rfl, rfl, rfl, ws0⟩ := Go.ChangeMaps.open_string Tryz.underlying9 (hval 0 9 v0 rfl rfl) h0
  have hz0 : s0.size ≤ 140737488355328 := str_reach hw0
  obtain ⟨s1, rfl, rfl, rfl, ws1⟩ := Go.ChangeMaps.open_string Tryz.underlying9 (hval 1 9 v1 rfl rfl) h1
  have hz1 : s1.size ≤ 140737488355328 := str_reach hw1
  refine (nightReads_any  s0 s1 (snapOf W) W (snapOf_holds W) hz0 hz1).mono fun e W' ⟨he, hb⟩ => ?_
  subst he
  refine ⟨_, rfl, _, _, _, [], _, [], hW', ?_, trodAll_mk2 (Go.ChangeMaps.shut_string Tryz.underlying9 ws0) (Go.ChangeMaps.shut_string Tryz.underlying9 ws1), rfl, hb.frame _, fun h => by cases h⟩
  exact trodAll_mk1 (shut_bool Tryz.underlying4 _)

theorem nightReads_said : Rows.NightReadsSaid :=
  OpenClaim.holds_of_wide 5 Tryz.f5 rfl rfl rfl rfl rfl rfl rfl ⟨rfl, rfl, rfl, rfl, rfl⟩ rfl rfl rfl rfl rfl (by kernel_rfl) Tryz.func5 (by kernel_rfl)
    (of_decide_eq_true (by kernel_rfl)) (by unfold Func.isWrapper; first | (rw [if_pos (by decide +kernel)]; kernel_rfl) | (rw [if_neg (by decide +kernel)]; exact ⟨rfl, rfl⟩))
    (fun os started H enc _ => nightReads_lifted os started H enc)
theorem nightReads_card : Rows.NightReadsCardSaid :=
  Claim7.holds_tied_plain_at .later [] [.data, .pinned] true (true, "fb92854d84a68b69838ef80b1ab28b19d9342683594d7e78a6e644e267e32732") false
    nightReads_said (fun _ h => by cases h) (by kernel_rfl) (fun _ h => by cases h) nightReads_row_tie rfl ⟨rfl, rfl⟩ (by kernel_rfl) rfl
    (fun f fn hf hfn => by
      obtain rfl : f = 5 := Option.some.inj ((show Tryz.prog.funcNamed "flong/flonglaw14.NightReads" = some 5 by kernel_rfl).symm.trans hf) |>.symm
      obtain rfl : fn = Tryz.f5 := (Option.some.inj (Tryz.func5.symm.trans hfn)).symm
      exact ⟨by kernel_rfl, fun j t ht => by
        rw [Tryz.params5] at ht
        have hm : t ∈ [9, 9] := by simpa using Array.mem_of_getElem? ht
        have hall : ([9, 9].all fun u => !Tryz.prog.wantsStandIn u) = true := by kernel_rfl
        exact (show Tryz.prog.wantsStandIn t = false by simpa using List.all_eq_true.1 hall t hm)⟩)
    (by kernel_rfl)
end Go.Proofs.YthcfhmebikcfpaaGreatDoor
