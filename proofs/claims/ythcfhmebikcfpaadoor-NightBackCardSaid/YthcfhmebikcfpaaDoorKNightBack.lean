/- Proved here: NightBackCardSaid: the law NightBack returns true for all texts and any string, and they read afterwards as they did. Conditions: none beyond those of the given statement. -/
import Derived.Test.YthcfhmebikcfpaaDoorG13
import Derived.Test.YthcfhmebikcfpaaDoorG14
import Derived.Test.YthcfhmebikcfpaaDoorG15
import Derived.Test.YthcfhmebikcfpaaDoorRows
import Derived.Test.YthcfhmebikcfpaaDoorTie
import Derived.Test.YthcfhmebikcfpaaDoorCards
import Derived.ProofKit
import Derived.SevenTiedAt

set_option linter.all false

namespace Go.Proofs.YthcfhmebikcfpaaDoor
open Go.RowKit
attribute [local go_sem] Holds.drew Holds.alloc Holds.drewN WB.holds Oper.semAt_some

theorem stateA_whole {s : List UInt8} (h : (readA s).2 = 0) : stateA s = 1 := by unfold stateA; rw [h]; rfl
set_option maxRecDepth 100000 in
set_option maxHeartbeats 2000000 in
theorem nightBack_any (v : Value) (l : List ByteArray) (t : ByteArray) (H : Snap) (w : World) (hw : Holds H w) (hs : Sl H v l) (_hz : t.size ≤ 140737488355328) :
    Calls Tryd.prog 3 #[v, .string t] w (PostV w (.bool true)) := by
  have cW : ∀ (H' : Snap) (W : World), Holds H' W → Calls Tryd.prog 13 #[] W (PostV W (.bool true)) := fun H' W h => works14_any H' W h
  have cR := ready14_any v l H w hw hs
  obtain ⟨a, c, rfl, _, _⟩ := hs.form
  by_cases h0 : areE l = 0
  case neg =>
    rw [decide_eq_false h0] at cR
    replace cR := Lib.hid cR
    replace cW := Lib.hid cW
    clear h0
    go_enter Tryd.func3, Tryd.ntmps3
    go_wp2_with (first | ((have hgd := hw2; clear hgd; go_at_call 13; go_must (refine (cW.out H _ hw2).mono ?_); rintro e w3 ⟨rfl, hb3⟩)) | ((go_at_call 12; refine cR.out.mono ?_; rintro e w2 ⟨rfl, hb2⟩; have hw2 := hw.below hb2)))
    go_ret
    exact ⟨rfl, hb2.trans (hb3.mono hb2.size)⟩
  case pos =>
  rw [decide_eq_true h0] at cR
  replace cR := Lib.hid cR
  by_cases h2 : 2000 < t.size
  · have hI : (2000 : Int) < (t.size : Int) := by omega
    replace cW := Lib.hid cW
    clear h0
    go_enter Tryd.func3, Tryd.ntmps3
    go_wp2_with (first | ((have hgd := hw2; clear hgd; go_at_call 13; go_must (refine (cW.out H _ hw2).mono ?_); rintro e w3 ⟨rfl, hb3⟩)) | ((go_at_call 12; refine cR.out.mono ?_; rintro e w2 ⟨rfl, hb2⟩; have hw2 := hw.below hb2)))
    go_ret
    exact ⟨rfl, hb2.trans (hb3.mono hb2.size)⟩
  · have hI : ¬ (2000 : Int) < (t.size : Int) := by omega
    have hq : readA (bys (strB (fileA l))) = (l, 0) := read_file h0
    have cWr := fun (u : Value) (H' : Snap) (W : World) (h1 : Holds H' W) (h2 : Sl H' u l) => written14_any u l h0 H' W h1 h2
    have cR1 : ∀ (H' : Snap) (W : World), Holds H' W → Calls Tryd.prog 15 #[.string (strB (fileA l))] W (PostOE W H' 9 l 0) := fun H' W h => by
      have := nReadT_any (strB (fileA l)) H' W h
      rw [hq] at this
      exact this
    have cS1 : ∀ (H' : Snap) (W : World), Holds H' W → Calls Tryd.prog 17 #[.string (strB (fileA l))] W (PostV W (.int .i64 1)) := fun H' W h => by
      have := nState_any (strB (fileA l)) H' W h
      rw [stateA_whole (by rw [hq])] at this
      exact this
    have cST : ∀ (u v : Value) (H' : Snap) (W : World), Holds H' W → Sl H' u l → Sl H' v l → Calls Tryd.prog 16 #[u, v] W (PostV W (.bool true)) := fun u v H' W h1 h2 h3 => by
      have := sameTexts_any u v l l H' W h1 h2 h3
      rw [decide_eq_true rfl] at this
      exact this
    have cRd := nReadT_any t
    have cSt := nState_any t
    by_cases hR : (readA (bys t)).2 = 0
    · obtain ⟨hk0, hkf⟩ := readA_ok hR
      rw [stateA_whole hR] at cSt
      rw [hR] at cRd
      have hkr : fileA (readA (bys t)).1 = bys t := hkf
      have hkl : (readA (bys t)).1 = l ∧ t = strB (fileA l) ∨ ¬ (readA (bys t)).1 = l ∧ ¬ strB (fileA l) = t := by
        by_cases e : (readA (bys t)).1 = l
        · exact .inl ⟨e, by rw [← e, hkr]; rfl⟩
        · refine .inr ⟨e, fun e2 => e ?_⟩
          rw [← e2, hq]
      generalize (readA (bys t)).1 = k at *
      have hkt : strB (fileA k) = t := by rw [hkr]; rfl
      have cWk := fun (u : Value) (H' : Snap) (W : World) (h1 : Holds H' W) (h2 : Sl H' u k) => written14_any u k hk0 H' W h1 h2
      rw [hkt] at cWk
      have cRk : ∀ (u : Value) (H' : Snap) (W : World), Holds H' W → Sl H' u k → Calls Tryd.prog 12 #[u] W (PostV W (.bool true)) := fun u H' W h1 h2 => by
        have := ready14_any u k H' W h1 h2
        rw [decide_eq_true hk0] at this
        exact this
      have cSk : ∀ (u v : Value) (H' : Snap) (W : World), Holds H' W → Sl H' u k → Sl H' v l → Calls Tryd.prog 16 #[u, v] W (PostV W (.bool (decide (k = l)))) := fun u v H' W h1 h2 h3 => sameTexts_any u v k l H' W h1 h2 h3
      obtain ⟨bb, hbb, hqt⟩ : ∃ bb, bb = decide (k = l) ∧ ((strB (fileA l)).toList == t.toList) = bb := by
        rcases hkl with ⟨e1, e2⟩ | ⟨e1, e2⟩
        · exact ⟨true, (decide_eq_true e1).symm, by rw [e2]; exact toList_same _⟩
        · exact ⟨false, (decide_eq_false e1).symm, toList_ne e2⟩
      rw [← hbb] at cSk
      have htt := toList_same t
      generalize strB (fileA l) = q at *
      replace cW := Lib.hid cW
      replace cWr := Lib.hid cWr
      replace cR1 := Lib.hid cR1
      replace cS1 := Lib.hid cS1
      replace cST := Lib.hid cST
      replace cRd := Lib.hid cRd
      replace cSt := Lib.hid cSt
      replace cWk := Lib.hid cWk
      replace cRk := Lib.hid cRk
      replace cSk := Lib.hid cSk
      clear hkl hbb hq hR hkf hkr hkt hk0 h0 h2
      go_enter Tryd.func3, Tryd.ntmps3
      go_upto_region 3 with (go_at_call 12; refine cR.out.mono ?_; rintro e w2 ⟨rfl, hb2⟩; have x2 := (Ext.refl hw).step hb2 (hw.below hb2))
      clear hb2 hI
      go_upto_region 6 with (go_at_call 14; go_must (refine (cWr.out _ H _ x2.holds hs).mono ?_); rintro e w3 ⟨rfl, hb3⟩; have x3 := x2.step (hb3.mono x2.below.size) (x2.holds.below hb3))
      clear x2 hb3
      go_upto_region 7 with (go_at_call 15; go_must (refine (cR1.out H _ x3.holds).mono ?_); rintro e w4 ⟨v4, H4, rfl, x4, o4⟩; obtain ⟨H5, x5, _, s5, _⟩ := o4.close x4; obtain ⟨a4, c4, rfl, _, _⟩ := o4.form; have x6 := x3.trans x5; have sT := hs.mono (x6.le hw))
      clear x3 x4 o4 x5 hs
      go_upto_region 9 with (first | (have hgd := x7; clear hgd; go_at_call 17; go_must (refine (cS1.out H5 _ x7.holds).mono ?_); rintro e w8 ⟨rfl, hb8⟩; have x8 := x7.step (hb8.mono x7.below.size) (x7.holds.below hb8)) | (go_at_call 16; go_must (refine (cST.out _ _ H5 _ x6.holds s5 sT).mono ?_); rintro e w7 ⟨rfl, hb7⟩; have x7 := x6.step (hb7.mono x6.below.size) (x6.holds.below hb7)))
      clear x6 x7 hb7 hb8 s5
      go_upto_region 10 with (go_at_call 15; go_must (refine (cRd.out H5 _ x8.holds).mono ?_); rintro e w9 ⟨v9, H9, rfl, x9, o9⟩; obtain ⟨H10, x10, _, sK, _⟩ := o9.close x9; obtain ⟨a9, c9, rfl, _, _⟩ := o9.form; have x11 := x8.trans x10; have sL := sT.mono (x10.le x8.holds))
      clear x8 x9 o9 x10 sT
      go_upto_region 13 with (go_at_call 14; go_must (refine (cWk.out _ H10 _ x11.holds sK).mono ?_); rintro e w12 ⟨rfl, hb12⟩; have x12 := x11.step (hb12.mono x11.below.size) (x11.holds.below hb12))
      clear x11 hb12
      go_wp2_with (first | ((have hgd := x15; clear hgd; go_at_call 13; go_must (refine (cW.out H10 _ x15.holds).mono ?_); rintro e w16 ⟨rfl, hb16⟩)) | ((have hgd := x14; clear hgd; go_at_call 16; go_must (refine (cSk.out _ _ H10 _ x14.holds sK sL).mono ?_); rintro e w15 ⟨rfl, hb15⟩; have x15 := x14.step (hb15.mono x14.below.size) (x14.holds.below hb15))) | ((have hgd := x13; clear hgd; go_at_call 17; go_must (refine (cSt.out H10 _ x13.holds).mono ?_); rintro e w14 ⟨rfl, hb14⟩; have x14 := x13.step (hb14.mono x13.below.size) (x13.holds.below hb14))) | ((go_at_call 12; go_must (refine (cRk.out _ H10 _ x12.holds sK).mono ?_); rintro e w13 ⟨rfl, hb13⟩; have x13 := x12.step (hb13.mono x12.below.size) (x12.holds.below hb13))))
      go_ret
      exact ⟨rfl, x15.below.trans (hb16.mono x15.below.size)⟩
    · have cRf := fun (H' : Snap) (W : World) (h1 : Holds H' W) => refused14_any t hR H' W h1
      generalize (readA (bys t)).1 = k at *
      generalize (readA (bys t)).2 = n at *
      have hn1 : (n == 0) = false := beq_eq_false_iff_ne.2 hR
      have hn2 : (n != 0) = true := bne_iff_ne.2 hR
      generalize strB (fileA l) = q at *
      replace cW := Lib.hid cW
      replace cWr := Lib.hid cWr
      replace cR1 := Lib.hid cR1
      replace cS1 := Lib.hid cS1
      replace cST := Lib.hid cST
      replace cRd := Lib.hid cRd
      replace cRf := Lib.hid cRf
      clear hq hR h0 h2 cSt
      go_enter Tryd.func3, Tryd.ntmps3
      go_upto_region 3 with (go_at_call 12; refine cR.out.mono ?_; rintro e w2 ⟨rfl, hb2⟩; have x2 := (Ext.refl hw).step hb2 (hw.below hb2))
      clear hb2 hI
      go_upto_region 6 with (go_at_call 14; go_must (refine (cWr.out _ H _ x2.holds hs).mono ?_); rintro e w3 ⟨rfl, hb3⟩; have x3 := x2.step (hb3.mono x2.below.size) (x2.holds.below hb3))
      clear x2 hb3
      go_upto_region 7 with (go_at_call 15; go_must (refine (cR1.out H _ x3.holds).mono ?_); rintro e w4 ⟨v4, H4, rfl, x4, o4⟩; obtain ⟨H5, x5, _, s5, _⟩ := o4.close x4; obtain ⟨a4, c4, rfl, _, _⟩ := o4.form; have x6 := x3.trans x5; have sT := hs.mono (x6.le hw))
      clear x3 x4 o4 x5 hs
      go_upto_region 9 with (first | (have hgd := x7; clear hgd; go_at_call 17; go_must (refine (cS1.out H5 _ x7.holds).mono ?_); rintro e w8 ⟨rfl, hb8⟩; have x8 := x7.step (hb8.mono x7.below.size) (x7.holds.below hb8)) | (go_at_call 16; go_must (refine (cST.out _ _ H5 _ x6.holds s5 sT).mono ?_); rintro e w7 ⟨rfl, hb7⟩; have x7 := x6.step (hb7.mono x6.below.size) (x6.holds.below hb7)))
      clear x6 x7 hb7 hb8 s5
      go_wp2_with (first | ((have hgd := x13; clear hgd; go_at_call 13; go_must (refine (cW.out H9 _ x13.holds).mono ?_); rintro e w14 ⟨rfl, hb14⟩)) | ((have hgd := x11; clear hgd; go_at_call 18; go_must (refine (cRf.out H9 _ x11.holds).mono ?_); rintro e w13 ⟨rfl, hb13⟩; have x13 := x11.step (hb13.mono x11.below.size) (x11.holds.below hb13))) | ((go_at_call 15; go_must (refine (cRd.out H5 _ x8.holds).mono ?_); rintro e w9 ⟨v9, H9, rfl, x9, o9⟩; have x11 := x8.trans x9)))
      go_ret
      exact ⟨rfl, x13.below.trans (hb14.mono x13.below.size)⟩
end Go.Proofs.YthcfhmebikcfpaaDoor

namespace Go.Proofs.YthcfhmebikcfpaaDoor
open Go.ChangeShapes Go.WideShapes Go.ChangeAt Go.RowKit

theorem nightBack_own : ownKnob Tryd.prog.godebug = none := by kernel_rfl
theorem nightBack_laid : laidOutB Tryd.prog = true := by kernel_rfl

set_option maxHeartbeats 1600000 in
set_option maxRecDepth 100000 in
theorem nightBack_lifted (os : Os) (started : os.Started) (H : Type) (enc : TypeId × Value → H) :
    ReturnsInHanded {} Tryd.checked os 3 .any (fun w args => (Rows.nightBackSpec.pre enc Tryd.prog Tryd.f3 [] false w args ∧ laidMetH Tryd.prog laidN w) ∧ sizedMet enc Tryd.prog Tryd.f3 (OpenSpec.ofChange Rows.nightBackSpec) false w args)
      (Rows.nightBackSpec.post enc Tryd.prog Tryd.f3 false true false false) := by
  refine returnsInHanded_of_change_and (C := Tryd.checked) (X := fun w _ => laidMetH Tryd.prog laidN w) (fun _ _ _ hh h => h.of_heap hh) nightBack_own started (by kernel_rfl) Tryd.func3
    (ChangeSpec.witness_shaped (enc := enc) (C := Tryd.checked) (os := os) (X := fun w _ => laidMetH Tryd.prog laidN w) false (doorN os) #[.slice none 0 0, .string ⟨#[]⟩] 8 rfl (door_shaped os _) (by kernel_rfl) (by kernel_rfl) (by kernel_rfl) (door_met os _)) ?_
  intro W base args ds gs before hval0 hW _ hsz _ _
  have hval : ∀ (j : Nat) t v, Tryd.f3.params[j]? = some t → args[j]? = some v → Value.okWide Tryd.prog W .any base t v := hval0
  have hW' := hW
  obtain ⟨p, q, hA0, hV, rfl, _, _⟩ := hW
  have hA : DataW.TrodAll enc Tryd.prog W 0 (fun _ => true) true Tryd.f3.params.toList args.toList ds p := hA0
  have hS : (DataW.weightsEach Tryd.prog (Tryd.f3.params.toList ++ []) (ds ++ gs)).all (· ≤ reachBytes) = true := hsz
  rw [Tryd.params3] at hA hval hS
  obtain ⟨v0, v1, d0, d1, p0, p1, rfl, rfl, rfl, h0, h1⟩ := trodAll_two hA
  obtain ⟨rfl, rfl⟩ := trodVars_none hV
  clear hA0 hval0 hsz
  simp only [List.append_nil] at hW' hS
  have hlt : ∀ x ∈ p0 ++ p1, x.block < W.heap.size := fun x hx => by simpa using hW'.lt x hx
  have harg0 : ∀ W', Below W.heap.size W W' → DataW.Trod enc Tryd.prog W' 0 (fun b => decide (b < W.heap.size)) true 22 v0 d0 p0 := fun W' hb =>
    Below.trod nightBack_laid (by kernel_rfl) (of_decide_eq_true (by kernel_rfl)) h0 hb (fun x hx => hlt x (List.mem_append.2 (.inl hx)))
  have hw0 : ∀ k ∈ d0.weights Tryd.prog 22, k ≤ reachBytes := fun k hk => by
    simpa using List.all_eq_true.1 hS k (DataW.weights_mem_each (j := 0) rfl rfl k hk)
  have hw1 : ∀ k ∈ d1.weights Tryd.prog 9, k ≤ reachBytes := fun k hk => by
    simpa using List.all_eq_true.1 hS k (DataW.weights_mem_each (j := 1) rfl rfl k hk)
  obtain ⟨a0, l0, c0, rfl⟩ := okWide_slice Tryd.underlying22 (hval 0 22 v0 rfl rfl)
  obtain ⟨n0, h0'⟩ := h0
  obtain ⟨xs0, hx0⟩ := texts_opened (by simpa [Value.cells] using h0') hw0
  obtain ⟨s1, rfl, rfl, rfl, ws1⟩ := Go.ChangeMaps.open_string Tryd.underlying9 (hval 1 9 v1 rfl rfl) h1
  have hz1 : s1.size ≤ 140737488355328 := str_reach hw1
  refine (nightBack_any _ xs0 s1 (snapOf W) W (snapOf_holds W) hx0 hz1).mono fun e W' ⟨he, hb⟩ => ?_
  subst he
  refine ⟨_, rfl, _, _, _, [], _, [], hW', ?_, trodAll_mk2 (harg0 W' hb) (Go.ChangeMaps.shut_string Tryd.underlying9 ws1), rfl, hb.frame _, fun h => by cases h⟩
  exact trodAll_mk1 (shut_bool Tryd.underlying4 _)

theorem nightBack_said : Rows.NightBackSaid :=
  OpenClaim.holds_of_wide 3 Tryd.f3 rfl rfl rfl rfl rfl rfl rfl ⟨rfl, rfl, rfl, rfl, rfl⟩ rfl rfl rfl rfl rfl (by kernel_rfl) Tryd.func3 (by kernel_rfl)
    (of_decide_eq_true (by kernel_rfl)) (by unfold Func.isWrapper; first | (rw [if_pos (by decide +kernel)]; kernel_rfl) | (rw [if_neg (by decide +kernel)]; exact ⟨rfl, rfl⟩))
    (fun os started H enc _ => nightBack_lifted os started H enc)
theorem nightBack_card : Rows.NightBackCardSaid :=
  Claim7.holds_tied_plain_at .later [] [.data, .pinned] true (true, "939a424db51006e050b52def13aedbed6d4c52175fd3e7427ddbb41609789fdc") false
    nightBack_said (fun _ h => by cases h) (by kernel_rfl) (fun _ h => by cases h) nightBack_row_tie rfl ⟨rfl, rfl⟩ (by kernel_rfl) rfl
    (fun f fn hf hfn => by
      obtain rfl : f = 3 := Option.some.inj ((show Tryd.prog.funcNamed "flong/flonglaw14.NightBack" = some 3 by kernel_rfl).symm.trans hf) |>.symm
      obtain rfl : fn = Tryd.f3 := (Option.some.inj (Tryd.func3.symm.trans hfn)).symm
      exact ⟨by kernel_rfl, fun j t ht => by
        rw [Tryd.params3] at ht
        have hm : t ∈ [22, 9] := by simpa using Array.mem_of_getElem? ht
        have hall : ([22, 9].all fun u => !Tryd.prog.wantsStandIn u) = true := by kernel_rfl
        exact (show Tryd.prog.wantsStandIn t = false by simpa using List.all_eq_true.1 hall t hm)⟩)
    (by kernel_rfl)
end Go.Proofs.YthcfhmebikcfpaaDoor
