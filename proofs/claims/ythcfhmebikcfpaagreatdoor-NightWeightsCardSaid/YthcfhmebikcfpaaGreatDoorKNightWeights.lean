/- Proved here: NightWeightsCardSaid: the law NightWeights returns true for all texts, and they read afterwards as they did. Conditions: none beyond those of the given statement. -/
import Derived.Test.YthcfhmebikcfpaaGreatDoorG13
import Derived.Test.YthcfhmebikcfpaaGreatDoorG18
import Derived.Test.YthcfhmebikcfpaaGreatDoorRows
import Derived.Test.YthcfhmebikcfpaaGreatDoorTie
import Derived.Test.YthcfhmebikcfpaaGreatDoorCards
import Derived.ProofKit
import Derived.SevenTiedAt

set_option linter.all false

namespace Go.Proofs.YthcfhmebikcfpaaGreatDoor
open Go.RowKit
attribute [local go_sem] Holds.drew Holds.alloc Holds.drewN WB.holds Oper.semAt_some

set_option maxRecDepth 100000 in
set_option maxHeartbeats 4000000 in
theorem nightWeights_any (v : Value) (l : List ByteArray) (H : Snap) (w : World) (hw : Holds H w) (hs : Sl H v l) :
    Calls Tryz.prog 4 #[v] w (PostV w (.bool true)) := by
  have cW : ∀ (H' : Snap) (W : World), Holds H' W → Calls Tryz.prog 7 #[] W (PostV W (.bool true)) := fun H' W h => works14_any H' W h
  have cG := long14_any v l H w hw hs
  have hlg : longA l = (decide (60 < l.length) || l.any fun s => decide (200 < s.size)) := rfl
  obtain ⟨a, c, rfl, _, _⟩ := hs.form
  cases hb : longA l
  case true =>
    rw [hb] at cG
    replace cG := Lib.hid cG
    replace cW := Lib.hid cW
    clear hb hlg
    go_enter Tryz.func4, Tryz.ntmps4
    go_wp2_with (first | ((have hgd := hw2; clear hgd; go_at_call 7; go_must (refine (cW.out H _ hw2).mono ?_); rintro e w3 ⟨rfl, hb3⟩)) | ((go_at_call 6; refine cG.out.mono ?_; rintro e w2 ⟨rfl, hb2⟩; have hw2 := hw.below hb2)))
    go_ret
    exact ⟨rfl, hb2.trans (hb3.mono hb2.size)⟩
  case false =>
  rw [hb] at cG hlg
  have hlf := hlg.symm
  rw [Bool.or_eq_false_iff] at hlf
  have hl6 := of_decide_eq_false hlf.1
  have hz : ∀ s ∈ l, s.size ≤ 1000000 := fun s hs => by
    have h1 := List.any_eq_false.1 hlf.2 s hs
    have h2 : ¬ 200 < s.size := by simpa using h1
    omega
  have hf1 : (([] : List ByteArray).length + l.length) * Enc.by_ ByteArray ≤ 140737488355328 := by simp only [Enc.by_, List.length_nil]; omega
  have hf2 : ([] : List ByteArray).length + l.length ≤ 9223372036854775807 := by simp only [List.length_nil]; omega
  have cS : ∀ (H' : Snap) (W : World), Holds H' W → ∀ {u v : Value}, Sl H' u l → Sl H' v l → Calls Tryz.prog 10 #[u, v] W (PostV W (.bool true)) := fun H' W h1 u v h2 h3 => by
    have := sameTexts_any u v l l H' W h1 h2 h3
    rw [decide_eq_true rfl] at this
    exact this
  have cA1 : ∀ (H' : Snap) (W : World), Holds H' W → ∀ {u : Value}, Sl H' u l → Calls Tryz.prog 11 #[u] W (PostOE W H' 69 (wtsR l) (areE l)) := fun H' W h1 u h2 => nWeightsT_any u l H' W h1 h2 hz
  have cA2 : ∀ (H' : Snap) (W : World), Holds H' W → ∀ {u : Value}, Sl H' u l → Calls Tryz.prog 12 #[u] W (PostOE W H' 69 (wtsR l) (areE l)) := fun H' W h1 u h2 => weightsT14_any u l H' W h1 h2
  have cB1 : ∀ (H' : Snap) (W : World), Holds H' W → ∀ {u : Value}, Sl H' u l → Calls Tryz.prog 13 #[u] W (PostOE W H' 47 (lensR l) (areE l)) := fun H' W h1 u h2 => nLengths_any u l H' W h1 h2 hz
  have cB2 : ∀ (H' : Snap) (W : World), Holds H' W → ∀ {u : Value}, Sl H' u l → Calls Tryz.prog 14 #[u] W (PostOE W H' 47 (lensR l) (areE l)) := fun H' W h1 u h2 => lengthsT14_any u l H' W h1 h2
  have cC1 : ∀ (H' : Snap) (W : World), Holds H' W → ∀ {u : Value}, Sl H' u l → Calls Tryz.prog 17 #[u] W (PostV W (.tuple #[.int .i64 (bitsR l), .int .i64 (areE l)])) := fun H' W h1 u h2 => nBitsT_any u l H' W h1 h2 hz
  have cC2 : ∀ (H' : Snap) (W : World), Holds H' W → ∀ {u : Value}, Sl H' u l → Calls Tryz.prog 18 #[u] W (PostV W (.tuple #[.int .i64 (bitsR l), .int .i64 (areE l)])) := fun H' W h1 u h2 => bitsT14_any u l H' W h1 h2
  have cD1 : ∀ (H' : Snap) (W : World), Holds H' W → ∀ {u : Value}, Sl H' u l → Calls Tryz.prog 19 #[u] W (PostV W (.tuple #[.int .i64 (savesR l), .int .i64 (areE l)])) := fun H' W h1 u h2 => nSaves_any u l H' W h1 h2 hz
  have cD2 : ∀ (H' : Snap) (W : World), Holds H' W → ∀ {u : Value}, Sl H' u l → Calls Tryz.prog 20 #[u] W (PostV W (.tuple #[.int .i64 (savesR l), .int .i64 (areE l)])) := fun H' W h1 u h2 => savesT14_any u l H' W h1 h2
  generalize wtsR l = lw at *
  generalize lensR l = ll at *
  generalize bitsR l = q at *
  generalize savesR l = p at *
  generalize areE l = n at *
  have cSw : ∀ (H' : Snap) (W : World), Holds H' W → ∀ {u v : Value}, Sl H' u lw → Sl H' v lw → Calls Tryz.prog 15 #[u, v] W (PostV W (.bool true)) := fun H' W h1 u v h2 h3 => by
    have := sameWeights_any u v lw lw H' W h1 h2 h3
    rw [decide_eq_true rfl] at this
    exact this
  have cSl : ∀ (H' : Snap) (W : World), Holds H' W → ∀ {u v : Value}, Sl H' u ll → Sl H' v ll → Calls Tryz.prog 16 #[u, v] W (PostV W (.bool true)) := fun H' W h1 u v h2 h3 => by
    have := sameLengths_any u v ll ll H' W h1 h2 h3
    rw [decide_eq_true rfl] at this
    exact this
  have hx0 := Ext.refl hw
  replace cW := Lib.hid cW
  replace cG := Lib.hid cG
  replace cS := Lib.hid cS
  replace cA1 := Lib.hid cA1
  replace cA2 := Lib.hid cA2
  replace cB1 := Lib.hid cB1
  replace cB2 := Lib.hid cB2
  replace cC1 := Lib.hid cC1
  replace cC2 := Lib.hid cC2
  replace cD1 := Lib.hid cD1
  replace cD2 := Lib.hid cD2
  replace cSw := Lib.hid cSw
  replace cSl := Lib.hid cSl
  replace hf1 := Lib.hid hf1
  replace hf2 := Lib.hid hf2
  clear hb hlg hlf hl6 hz
  have x0 : Ext w H w H := hx0
  clear hx0
  go_enter Tryz.func4, Tryz.ntmps4
  go_wp2_with (first | ((have hgd := x13; clear hgd; go_at_call 7; go_must (refine (cW.out H5 _ x13.holds ).mono ?_); rintro e w14 ⟨rfl, hb14⟩; have x14 := x13.step (hb14.mono x13.below.size) (x13.holds.below hb14))) | ((have hgd := x12; clear hgd; go_at_call 10; go_must (refine (cS.out H5 _ x12.holds ho_5 ht_5).mono ?_); rintro e w13 ⟨rfl, hb13⟩; have x13 := x12.step (hb13.mono x12.below.size) (x12.holds.below hb13))) | ((have hgd := x11; clear hgd; go_at_call 20; go_must (refine (cD2.out H5 _ x11.holds ht_5).mono ?_); rintro e w12 ⟨rfl, hb12⟩; have x12 := x11.step (hb12.mono x11.below.size) (x11.holds.below hb12))) | ((have hgd := x10; clear hgd; go_at_call 19; go_must (refine (cD1.out H5 _ x10.holds ho_5).mono ?_); rintro e w11 ⟨rfl, hb11⟩; have x11 := x10.step (hb11.mono x10.below.size) (x10.holds.below hb11))) | ((have hgd := x9; clear hgd; go_at_call 18; go_must (refine (cC2.out H5 _ x9.holds ht_5).mono ?_); rintro e w10 ⟨rfl, hb10⟩; have x10 := x9.step (hb10.mono x9.below.size) (x9.holds.below hb10))) | ((have hgd := x8; clear hgd; go_at_call 17; go_must (refine (cC1.out H5 _ x8.holds ho_5).mono ?_); rintro e w9 ⟨rfl, hb9⟩; have x9 := x8.step (hb9.mono x8.below.size) (x8.holds.below hb9))) | ((have hgd := x7; clear hgd; go_at_call 16; go_must (refine (cSl.out H5 _ x7.holds kk_5 s6).mono ?_); rintro e w8 ⟨rfl, hb8⟩; have x8 := x7.step (hb8.mono x7.below.size) (x7.holds.below hb8))) | ((have hgd := x6; clear hgd; go_at_call 15; go_must (refine (cSw.out H5 _ x6.holds ka_5 kb_5).mono ?_); rintro e w7 ⟨rfl, hb7⟩; have x7 := x6.step (hb7.mono x6.below.size) (x6.holds.below hb7))) | ((have hgd := x5; clear hgd; go_at_call 14; go_must (refine (cB2.out H4 _ x5.holds ht_4).mono ?_); rintro e w6 ⟨v6, K6, rfl, y6, o6⟩; obtain ⟨H5, z6, _, s6, _⟩ := o6.close y6; obtain ⟨a6, c6, rfl, _, _⟩ := o6.form; have x6 := x5.trans z6; have ht_5 := ht_4.mono (z6.le x5.holds); have ho_5 := ho_4.mono (z6.le x5.holds); have ka_5 := ka_4.mono (z6.le x5.holds); have kb_5 := kb_4.mono (z6.le x5.holds); have kk_5 := s5.mono (z6.le x5.holds))) | ((have hgd := x4; clear hgd; go_at_call 13; go_must (refine (cB1.out H3 _ x4.holds ho_3).mono ?_); rintro e w5 ⟨v5, K5, rfl, y5, o5⟩; obtain ⟨H4, z5, _, s5, _⟩ := o5.close y5; obtain ⟨a5, c5, rfl, _, _⟩ := o5.form; have x5 := x4.trans z5; have ht_4 := ht_3.mono (z5.le x4.holds); have ho_4 := ho_3.mono (z5.le x4.holds); have ka_4 := ka_3.mono (z5.le x4.holds); have kb_4 := s4.mono (z5.le x4.holds))) | ((have hgd := x3; clear hgd; go_at_call 12; go_must (refine (cA2.out H2 _ x3.holds ht_2).mono ?_); rintro e w4 ⟨v4, K4, rfl, y4, o4⟩; obtain ⟨H3, z4, _, s4, _⟩ := o4.close y4; obtain ⟨a4, c4, rfl, _, _⟩ := o4.form; have x4 := x3.trans z4; have ht_3 := ht_2.mono (z4.le x3.holds); have ho_3 := ho_2.mono (z4.le x3.holds); have ka_3 := s3.mono (z4.le x3.holds))) | ((have hgd := x2; clear hgd; go_at_call 11; go_must (refine (cA1.out H1 _ x2.holds s2).mono ?_); rintro e w3 ⟨v3, K3, rfl, y3, o3⟩; obtain ⟨H2, z3, _, s3, _⟩ := o3.close y3; obtain ⟨a3, c3, rfl, _, _⟩ := o3.form; have x3 := x2.trans z3; have ht_2 := ht_1.mono (z3.le x2.holds); have ho_2 := s2.mono (z3.le x2.holds))) | ((at_builtin; have hgd := x1; clear hgd; go_must (refine wpList_appX (w0 := w) (H0 := H) eStr rfl _ _ rfl (x1.alloc _) rfl (Own.emptyAt (heap_alloc_new _ _) x1.below.size (x1.holds.none_of_ge (Nat.le_refl _))) rfl hs hf1.out hf2.out ?_); intro v2 w2 o2 y2 hw2 hg2; rw [List.nil_append] at o2; obtain ⟨H1, x2, l2, s2, _⟩ := o2.close y2; obtain ⟨a2, c2, rfl, _, _⟩ := o2.form; have ht_1 := hs.mono l2)) | ((go_at_call 6; refine cG.out.mono ?_; rintro e w1 ⟨rfl, hb1⟩; have x1 := x0.step hb1 (hw.below hb1))))
  go_ret
  exact ⟨rfl, x14.below⟩
end Go.Proofs.YthcfhmebikcfpaaGreatDoor

namespace Go.Proofs.YthcfhmebikcfpaaGreatDoor
open Go.ChangeShapes Go.WideShapes Go.ChangeAt Go.RowKit

theorem nightWeights_own : ownKnob Tryz.prog.godebug = none := by kernel_rfl
theorem nightWeights_laid : laidOutB Tryz.prog = true := by kernel_rfl

set_option maxHeartbeats 1600000 in
set_option maxRecDepth 100000 in
theorem nightWeights_lifted (os : Os) (started : os.Started) (H : Type) (enc : TypeId × Value → H) :
    ReturnsInHanded {} Tryz.checked os 4 .any (fun w args => (Rows.nightWeightsSpec.pre enc Tryz.prog Tryz.f4 [] false w args ∧ laidMetH Tryz.prog laidN w) ∧ sizedMet enc Tryz.prog Tryz.f4 (OpenSpec.ofChange Rows.nightWeightsSpec) false w args)
      (Rows.nightWeightsSpec.post enc Tryz.prog Tryz.f4 false true false false) := by
  refine returnsInHanded_of_change_and (C := Tryz.checked) (X := fun w _ => laidMetH Tryz.prog laidN w) (fun _ _ _ hh h => h.of_heap hh) nightWeights_own started (by kernel_rfl) Tryz.func4
    (ChangeSpec.witness_shaped (enc := enc) (C := Tryz.checked) (os := os) (X := fun w _ => laidMetH Tryz.prog laidN w) false (doorN os) #[.slice none 0 0] 8 rfl (door_shaped os _) (by kernel_rfl) (by kernel_rfl) (by kernel_rfl) (door_met os _)) ?_
  intro W base args ds gs before hval0 hW _ hsz _ _
  have hval : ∀ (j : Nat) t v, Tryz.f4.params[j]? = some t → args[j]? = some v → Value.okWide Tryz.prog W .any base t v := hval0
  have hW' := hW
  obtain ⟨p, q, hA0, hV, rfl, _, _⟩ := hW
  have hA : DataW.TrodAll enc Tryz.prog W 0 (fun _ => true) true Tryz.f4.params.toList args.toList ds p := hA0
  have hS : (DataW.weightsEach Tryz.prog (Tryz.f4.params.toList ++ []) (ds ++ gs)).all (· ≤ reachBytes) = true := hsz
  rw [Tryz.params4] at hA hval hS
  obtain ⟨v0, d0, rfl, rfl, h0⟩ := trodAll_one hA
  obtain ⟨rfl, rfl⟩ := trodVars_none hV
  clear hA0 hval0 hsz
  simp only [List.append_nil] at hW' hS
  have hlt : ∀ x ∈ p, x.block < W.heap.size := fun x hx => by simpa using hW'.lt x hx
  have harg0 : ∀ W', Below W.heap.size W W' → DataW.Trod enc Tryz.prog W' 0 (fun b => decide (b < W.heap.size)) true 22 v0 d0 p := fun W' hb =>
    Below.trod nightWeights_laid (by kernel_rfl) (of_decide_eq_true (by kernel_rfl)) h0 hb (fun x hx => hlt x (hx))
  have hw0 : ∀ k ∈ d0.weights Tryz.prog 22, k ≤ reachBytes := fun k hk => by
    simpa using List.all_eq_true.1 hS k (DataW.weights_mem_each (j := 0) rfl rfl k hk)
  obtain ⟨a0, l0, c0, rfl⟩ := okWide_slice Tryz.underlying22 (hval 0 22 v0 rfl rfl)
  obtain ⟨n0, h0'⟩ := h0
  obtain ⟨xs0, hx0⟩ := texts_opened (by simpa [Value.cells] using h0') hw0
  refine (nightWeights_any _ xs0 (snapOf W) W (snapOf_holds W) hx0).mono fun e W' ⟨he, hb⟩ => ?_
  subst he
  refine ⟨_, rfl, _, _, _, [], _, [], hW', ?_, trodAll_mk1 (harg0 W' hb), rfl, hb.frame _, fun h => by cases h⟩
  exact trodAll_mk1 (shut_bool Tryz.underlying4 _)

theorem nightWeights_said : Rows.NightWeightsSaid :=
  OpenClaim.holds_of_wide 4 Tryz.f4 rfl rfl rfl rfl rfl rfl rfl ⟨rfl, rfl, rfl, rfl, rfl⟩ rfl rfl rfl rfl rfl (by kernel_rfl) Tryz.func4 (by kernel_rfl)
    (of_decide_eq_true (by kernel_rfl)) (by unfold Func.isWrapper; first | (rw [if_pos (by decide +kernel)]; kernel_rfl) | (rw [if_neg (by decide +kernel)]; exact ⟨rfl, rfl⟩))
    (fun os started H enc _ => nightWeights_lifted os started H enc)
theorem nightWeights_card : Rows.NightWeightsCardSaid :=
  Claim7.holds_tied_plain_at .later [] [.data, .pinned] true (true, "fb92854d84a68b69838ef80b1ab28b19d9342683594d7e78a6e644e267e32732") false
    nightWeights_said (fun _ h => by cases h) (by kernel_rfl) (fun _ h => by cases h) nightWeights_row_tie rfl ⟨rfl, rfl⟩ (by kernel_rfl) rfl
    (fun f fn hf hfn => by
      obtain rfl : f = 4 := Option.some.inj ((show Tryz.prog.funcNamed "flong/flonglaw14.NightWeights" = some 4 by kernel_rfl).symm.trans hf) |>.symm
      obtain rfl : fn = Tryz.f4 := (Option.some.inj (Tryz.func4.symm.trans hfn)).symm
      exact ⟨by kernel_rfl, fun j t ht => by
        rw [Tryz.params4] at ht
        have hm : t ∈ [22] := by simpa using Array.mem_of_getElem? ht
        have hall : ([22].all fun u => !Tryz.prog.wantsStandIn u) = true := by kernel_rfl
        exact (show Tryz.prog.wantsStandIn t = false by simpa using List.all_eq_true.1 hall t hm)⟩)
    (by kernel_rfl)
end Go.Proofs.YthcfhmebikcfpaaGreatDoor
