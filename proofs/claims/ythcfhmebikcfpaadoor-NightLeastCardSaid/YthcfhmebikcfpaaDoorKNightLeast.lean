/- Proved here: NightLeastCardSaid: the law NightLeast returns true for all texts and lengths, and they read afterwards as they did. Conditions: none beyond those of the given statement. -/
import Derived.Test.YthcfhmebikcfpaaDoorG13
import Derived.Test.YthcfhmebikcfpaaDoorG14
import Derived.Test.YthcfhmebikcfpaaDoorG15
import Derived.Test.YthcfhmebikcfpaaDoorRows
import Derived.Test.YthcfhmebikcfpaaDoorTie
import Derived.Test.YthcfhmebikcfpaaDoorCards
import Derived.ProofKit
import Derived.SevenTiedAt

set_option linter.all false

namespace Go.Proofs.YthcfhmebikcfpaaDoor
open Go.RowKit
attribute [local go_sem] Holds.drew Holds.alloc Holds.drewN WB.holds Oper.semAt_some

set_option maxRecDepth 100000 in
set_option maxHeartbeats 2000000 in
theorem nightLeast_any (v u : Value) (l : List ByteArray) (o : List Pr) (H : Snap) (w : World) (hw : Holds H w) (hs : Sl H v l) (ho : Sl H u o) :
    Calls Tryd.prog 5 #[v, u] w (PostV w (.bool true)) := by
  have cW : ∀ (H' : Snap) (W : World), Holds H' W → Calls Tryd.prog 13 #[] W (PostV W (.bool true)) := fun H' W h => works14_any H' W h
  have cR := ready14_any v l H w hw hs
  have hole := ho.le
  obtain ⟨a, c, rfl, _, _⟩ := hs.form
  obtain ⟨ao, co, rfl, _, _⟩ := ho.form
  by_cases h0 : areE l = 0
  case neg =>
    rw [decide_eq_false h0] at cR
    replace cR := Lib.hid cR
    replace cW := Lib.hid cW
    clear h0 hole
    go_enter Tryd.func5, Tryd.ntmps5
    go_wp2_with (first | ((have hgd := hw2; clear hgd; go_at_call 13; go_must (refine (cW.out H _ hw2).mono ?_); rintro e w3 ⟨rfl, hb3⟩)) | ((go_at_call 12; refine cR.out.mono ?_; rintro e w2 ⟨rfl, hb2⟩; have hw2 := hw.below hb2)))
    go_ret
    exact ⟨rfl, hb2.trans (hb3.mono hb2.size)⟩
  case pos =>
  rw [decide_eq_true h0] at cR
  replace cR := Lib.hid cR
  by_cases h2 : 100 < o.length
  · have hI : (100 : Int) < (o.length : Int) := by omega
    replace cW := Lib.hid cW
    clear h0 hole
    go_enter Tryd.func5, Tryd.ntmps5
    go_wp2_with (first | ((have hgd := hw2; clear hgd; go_at_call 13; go_must (refine (cW.out H _ hw2).mono ?_); rintro e w3 ⟨rfl, hb3⟩)) | ((go_at_call 12; refine cR.out.mono ?_; rintro e w2 ⟨rfl, hb2⟩; have hw2 := hw.below hb2)))
    go_ret
    exact ⟨rfl, hb2.trans (hb3.mono hb2.size)⟩
  · have hI : ¬ (100 : Int) < (o.length : Int) := by omega
    have hol : o.length ≤ 1000 := by omega
    have F := msg_ok h0
    have hml := msgOf_len h0
    have hl := (areE_zero h0).1
    have hsz := areE_size h0
    have hLl : (lensA (msgOf l)).length ≤ 96 := by rw [lensA_len]; exact wts_few F.1
    have cLn := fun (u : Value) (H' : Snap) (W : World) (h1 : Holds H' W) (h2 : Sl H' u l) => lengths14_any u l h0 H' W h1 h2
    have cBt := fun (u : Value) (H' : Snap) (W : World) (h1 : Holds H' W) (h2 : Sl H' u l) => bits14_any u l h0 H' W h1 h2
    have cMs := fun (u : Value) (H' : Snap) (W : World) (h1 : Holds H' W) (h2 : Sl H' u l) => message14_any u l H' W h1 h2 (by omega) hsz
    have cB1 : ∀ (u : Value) (H' : Snap) (W : World), Holds H' W → Sl H' u (lensA (msgOf l)) → Calls Tryd.prog 23 #[.string (strB (msgOf l)), u] W (PostV W (.int .i64 ((bitsA (lensA (msgOf l)) (msgOf l)).length : Int))) := fun u H' W h1 h2 => by
      have := bitsOf14_any (strB (msgOf l)) (show (msgOf l).length ≤ 100000 by omega) u (lensA (msgOf l)) (by omega) (lens_code F).b15 H' W h1 h2
      rw [show bys (strB (msgOf l)) = msgOf l from rfl, bitsOf_lens F] at this
      exact this
    have cIc := fun (u : Value) (H' : Snap) (W : World) (h1 : Holds H' W) (h2 : Sl H' u o) => isCode14_any u o hol H' W h1 h2
    have hn0 : ∀ B : Nat, decide ((B : Int) < 0) = false := fun B => decide_eq_false (by omega)
    cases hg : isCodeA o with
    | false =>
      rw [hg] at cIc
      generalize strB (msgOf l) = m at *
      generalize lensA (msgOf l) = L at *
      generalize (bitsA L (msgOf l)).length = B at *
      have hn1 := hn0 B
      replace cW := Lib.hid cW
      replace cLn := Lib.hid cLn
      replace cBt := Lib.hid cBt
      replace cMs := Lib.hid cMs
      replace cB1 := Lib.hid cB1
      replace cIc := Lib.hid cIc
      clear F hml hl hsz hLl hn0 hg h2 h0 hole hol
      go_enter Tryd.func5, Tryd.ntmps5
      go_upto_region 3 with (go_at_call 12; refine cR.out.mono ?_; rintro e w2 ⟨rfl, hb2⟩; have x2 := (Ext.refl hw).step hb2 (hw.below hb2))
      clear hb2 hI
      go_upto_region 4 with (go_at_call 21; go_must (refine (cMs.out _ H _ x2.holds hs).mono ?_); rintro e w3 ⟨rfl, hb3⟩; have x3 := x2.step (hb3.mono x2.below.size) (x2.holds.below hb3))
      clear x2 hb3
      go_upto_region 5 with (go_at_call 22; go_must (refine (cBt.out _ H _ x3.holds hs).mono ?_); rintro e w4 ⟨rfl, hb4⟩; have x4 := x3.step (hb4.mono x3.below.size) (x3.holds.below hb4))
      clear x3 hb4
      go_upto_region 6 with (go_at_call 19; go_must (refine (cLn.out _ H _ x4.holds hs).mono ?_); rintro e w5 ⟨v5, H5, rfl, y5, o5⟩; obtain ⟨H6, y6, _, s6, _⟩ := o5.close y5; obtain ⟨a5, c5, rfl, _, _⟩ := o5.form; have x6 := x4.trans y6; have so := ho.mono (x6.le hw))
      clear x4 y5 o5 y6 hs ho
      go_upto_region 8 with (go_at_call 23; go_must (refine (cB1.out _ H6 _ x6.holds s6).mono ?_); rintro e w7 ⟨rfl, hb7⟩; have x7 := x6.step (hb7.mono x6.below.size) (x6.holds.below hb7))
      clear x6 hb7
      go_wp2_with (first | ((have hgd := x8; clear hgd; go_at_call 13; go_must (refine (cW.out H6 _ x8.holds).mono ?_); rintro e w9 ⟨rfl, hb9⟩)) | ((go_at_call 24; go_must (refine (cIc.out _ H6 _ x7.holds so).mono ?_); rintro e w8 ⟨rfl, hb8⟩; have x8 := x7.step (hb8.mono x7.below.size) (x7.holds.below hb8))))
      go_ret
      exact ⟨rfl, x8.below.trans (hb9.mono x8.below.size)⟩
    | true =>
      rw [hg] at cIc
      have C := isCodeA_code hg
      have hle := bitsOf_least F C
      have cB2 : ∀ (u : Value) (H' : Snap) (W : World), Holds H' W → Sl H' u o → Calls Tryd.prog 23 #[.string (strB (msgOf l)), u] W (PostV W (.int .i64 (bitsOfA o (msgOf l)))) := fun u H' W h1 h2 => bitsOf14_any (strB (msgOf l)) (show (msgOf l).length ≤ 100000 by omega) u o hol C.b15 H' W h1 h2
      generalize bitsOfA o (msgOf l) = D at *
      generalize strB (msgOf l) = m at *
      generalize lensA (msgOf l) = L at *
      generalize (bitsA L (msgOf l)).length = B at *
      have hn1 := hn0 B
      have hle2 : decide ((B : Int) ≤ D) = true := decide_eq_true hle
      replace cW := Lib.hid cW
      replace cLn := Lib.hid cLn
      replace cBt := Lib.hid cBt
      replace cMs := Lib.hid cMs
      replace cB1 := Lib.hid cB1
      replace cB2 := Lib.hid cB2
      replace cIc := Lib.hid cIc
      clear F hml hl hsz hLl hn0 hg h2 h0 hole hol C
      go_enter Tryd.func5, Tryd.ntmps5
      go_upto_region 3 with (go_at_call 12; refine cR.out.mono ?_; rintro e w2 ⟨rfl, hb2⟩; have x2 := (Ext.refl hw).step hb2 (hw.below hb2))
      clear hb2 hI
      go_upto_region 4 with (go_at_call 21; go_must (refine (cMs.out _ H _ x2.holds hs).mono ?_); rintro e w3 ⟨rfl, hb3⟩; have x3 := x2.step (hb3.mono x2.below.size) (x2.holds.below hb3))
      clear x2 hb3
      go_upto_region 5 with (go_at_call 22; go_must (refine (cBt.out _ H _ x3.holds hs).mono ?_); rintro e w4 ⟨rfl, hb4⟩; have x4 := x3.step (hb4.mono x3.below.size) (x3.holds.below hb4))
      clear x3 hb4
      go_upto_region 6 with (go_at_call 19; go_must (refine (cLn.out _ H _ x4.holds hs).mono ?_); rintro e w5 ⟨v5, H5, rfl, y5, o5⟩; obtain ⟨H6, y6, _, s6, _⟩ := o5.close y5; obtain ⟨a5, c5, rfl, _, _⟩ := o5.form; have x6 := x4.trans y6; have so := ho.mono (x6.le hw))
      clear x4 y5 o5 y6 hs ho
      go_upto_region 8 with (go_at_call 23; go_must (refine (cB1.out _ H6 _ x6.holds s6).mono ?_); rintro e w7 ⟨rfl, hb7⟩; have x7 := x6.step (hb7.mono x6.below.size) (x6.holds.below hb7))
      clear x6 hb7
      go_wp2_with (first | ((have hgd := x9; clear hgd; go_at_call 13; go_must (refine (cW.out H6 _ x9.holds).mono ?_); rintro e w10 ⟨rfl, hb10⟩)) | ((have hgd := x8; clear hgd; go_at_call 23; go_must (refine (cB2.out _ H6 _ x8.holds so).mono ?_); rintro e w9 ⟨rfl, hb9⟩; have x9 := x8.step (hb9.mono x8.below.size) (x8.holds.below hb9))) | ((go_at_call 24; go_must (refine (cIc.out _ H6 _ x7.holds so).mono ?_); rintro e w8 ⟨rfl, hb8⟩; have x8 := x7.step (hb8.mono x7.below.size) (x7.holds.below hb8))))
      go_ret
      exact ⟨rfl, x9.below.trans (hb10.mono x9.below.size)⟩
end Go.Proofs.YthcfhmebikcfpaaDoor

namespace Go.Proofs.YthcfhmebikcfpaaDoor
open Go.ChangeShapes Go.WideShapes Go.ChangeAt Go.RowKit

theorem nightLeast_own : ownKnob Tryd.prog.godebug = none := by kernel_rfl
theorem nightLeast_laid : laidOutB Tryd.prog = true := by kernel_rfl

set_option maxHeartbeats 1600000 in
set_option maxRecDepth 100000 in
theorem nightLeast_lifted (os : Os) (started : os.Started) (H : Type) (enc : TypeId × Value → H) :
    ReturnsInHanded {} Tryd.checked os 5 .any (fun w args => (Rows.nightLeastSpec.pre enc Tryd.prog Tryd.f5 [] false w args ∧ laidMetH Tryd.prog laidN w) ∧ sizedMet enc Tryd.prog Tryd.f5 (OpenSpec.ofChange Rows.nightLeastSpec) false w args)
      (Rows.nightLeastSpec.post enc Tryd.prog Tryd.f5 false true false false) := by
  refine returnsInHanded_of_change_and (C := Tryd.checked) (X := fun w _ => laidMetH Tryd.prog laidN w) (fun _ _ _ hh h => h.of_heap hh) nightLeast_own started (by kernel_rfl) Tryd.func5
    (ChangeSpec.witness_shaped (enc := enc) (C := Tryd.checked) (os := os) (X := fun w _ => laidMetH Tryd.prog laidN w) false (doorN os) #[.slice none 0 0, .slice none 0 0] 8 rfl (door_shaped os _) (by kernel_rfl) (by kernel_rfl) (by kernel_rfl) (door_met os _)) ?_
  intro W base args ds gs before hval0 hW _ hsz _ _
  have hval : ∀ (j : Nat) t v, Tryd.f5.params[j]? = some t → args[j]? = some v → Value.okWide Tryd.prog W .any base t v := hval0
  have hW' := hW
  obtain ⟨p, q, hA0, hV, rfl, _, _⟩ := hW
  have hA : DataW.TrodAll enc Tryd.prog W 0 (fun _ => true) true Tryd.f5.params.toList args.toList ds p := hA0
  have hS : (DataW.weightsEach Tryd.prog (Tryd.f5.params.toList ++ []) (ds ++ gs)).all (· ≤ reachBytes) = true := hsz
  rw [Tryd.params5] at hA hval hS
  obtain ⟨v0, v1, d0, d1, p0, p1, rfl, rfl, rfl, h0, h1⟩ := trodAll_two hA
  obtain ⟨rfl, rfl⟩ := trodVars_none hV
  clear hA0 hval0 hsz
  simp only [List.append_nil] at hW' hS
  have hlt : ∀ x ∈ p0 ++ p1, x.block < W.heap.size := fun x hx => by simpa using hW'.lt x hx
  have harg0 : ∀ W', Below W.heap.size W W' → DataW.Trod enc Tryd.prog W' 0 (fun b => decide (b < W.heap.size)) true 22 v0 d0 p0 := fun W' hb =>
    Below.trod nightLeast_laid (by kernel_rfl) (of_decide_eq_true (by kernel_rfl)) h0 hb (fun x hx => hlt x (List.mem_append.2 (.inl hx)))
  have hw0 : ∀ k ∈ d0.weights Tryd.prog 22, k ≤ reachBytes := fun k hk => by
    simpa using List.all_eq_true.1 hS k (DataW.weights_mem_each (j := 0) rfl rfl k hk)
  have harg1 : ∀ W', Below W.heap.size W W' → DataW.Trod enc Tryd.prog W' 0 (fun b => decide (b < W.heap.size)) true 34 v1 d1 p1 := fun W' hb =>
    Below.trod nightLeast_laid (by kernel_rfl) (of_decide_eq_true (by kernel_rfl)) h1 hb (fun x hx => hlt x (List.mem_append.2 (.inr hx)))
  have hw1 : ∀ k ∈ d1.weights Tryd.prog 34, k ≤ reachBytes := fun k hk => by
    simpa using List.all_eq_true.1 hS k (DataW.weights_mem_each (j := 1) rfl rfl k hk)
  obtain ⟨a0, l0, c0, rfl⟩ := okWide_slice Tryd.underlying22 (hval 0 22 v0 rfl rfl)
  obtain ⟨n0, h0'⟩ := h0
  obtain ⟨xs0, hx0⟩ := texts_opened (by simpa [Value.cells] using h0') hw0
  obtain ⟨a1, l1, c1, rfl⟩ := okWide_slice Tryd.underlying34 (hval 1 34 v1 rfl rfl)
  obtain ⟨n1, h1'⟩ := h1
  obtain ⟨xs1, hx1⟩ := lens_opened (by simpa [Value.cells] using h1') hw1
  refine (nightLeast_any _ _ xs0 xs1 (snapOf W) W (snapOf_holds W) hx0 hx1).mono fun e W' ⟨he, hb⟩ => ?_
  subst he
  refine ⟨_, rfl, _, _, _, [], _, [], hW', ?_, trodAll_mk2 (harg0 W' hb) (harg1 W' hb), rfl, hb.frame _, fun h => by cases h⟩
  exact trodAll_mk1 (shut_bool Tryd.underlying4 _)

theorem nightLeast_said : Rows.NightLeastSaid :=
  OpenClaim.holds_of_wide 5 Tryd.f5 rfl rfl rfl rfl rfl rfl rfl ⟨rfl, rfl, rfl, rfl, rfl⟩ rfl rfl rfl rfl rfl (by kernel_rfl) Tryd.func5 (by kernel_rfl)
    (of_decide_eq_true (by kernel_rfl)) (by unfold Func.isWrapper; first | (rw [if_pos (by decide +kernel)]; kernel_rfl) | (rw [if_neg (by decide +kernel)]; exact ⟨rfl, rfl⟩))
    (fun os started H enc _ => nightLeast_lifted os started H enc)
theorem nightLeast_card : Rows.NightLeastCardSaid :=
  Claim7.holds_tied_plain_at .later [] [.data, .pinned] true (true, "939a424db51006e050b52def13aedbed6d4c52175fd3e7427ddbb41609789fdc") false
    nightLeast_said (fun _ h => by cases h) (by kernel_rfl) (fun _ h => by cases h) nightLeast_row_tie rfl ⟨rfl, rfl⟩ (by kernel_rfl) rfl
    (fun f fn hf hfn => by
      obtain rfl : f = 5 := Option.some.inj ((show Tryd.prog.funcNamed "flong/flonglaw14.NightLeast" = some 5 by kernel_rfl).symm.trans hf) |>.symm
      obtain rfl : fn = Tryd.f5 := (Option.some.inj (Tryd.func5.symm.trans hfn)).symm
      exact ⟨by kernel_rfl, fun j t ht => by
        rw [Tryd.params5] at ht
        have hm : t ∈ [22, 34] := by simpa using Array.mem_of_getElem? ht
        have hall : ([22, 34].all fun u => !Tryd.prog.wantsStandIn u) = true := by kernel_rfl
        exact (show Tryd.prog.wantsStandIn t = false by simpa using List.all_eq_true.1 hall t hm)⟩)
    (by kernel_rfl)
end Go.Proofs.YthcfhmebikcfpaaDoor
