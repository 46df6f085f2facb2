/- Proved here: NightCodesCardSaid: the law NightCodes returns true for all lengths and any symbol, and the lengths read afterwards as they did. Conditions: none beyond those of the given statement. -/
import Derived.Test.YthcfhmebikcfpaaDoorG13
import Derived.Test.YthcfhmebikcfpaaDoorG14
import Derived.Test.YthcfhmebikcfpaaDoorRows
import Derived.Test.YthcfhmebikcfpaaDoorTie
import Derived.Test.YthcfhmebikcfpaaDoorCards
import Derived.ProofKit
import Derived.SevenTiedAt

set_option linter.all false

namespace Go.Proofs.YthcfhmebikcfpaaDoor
open Go.RowKit
attribute [local go_sem] Holds.drew Holds.alloc Holds.drewN WB.holds Oper.semAt_some

set_option maxRecDepth 100000 in
set_option maxHeartbeats 1000000 in
theorem nightCodes_any (v : Value) (l : List Pr) (s : Int) (H : Snap) (w : World) (hw : Holds H w) (hs : Sl H v l) (_hz : I64 s) :
    Calls Tryd.prog 9 #[v, .int .i64 s] w (PostV w (.bool true)) := by
  have hle := hs.le
  obtain ⟨a, c, rfl, _, _⟩ := hs.form
  by_cases h100 : 100 < l.length
  · have hI : (100 : Int) < (l.length : Int) := by omega
    clear hle
    go_enter Tryd.func9, Tryd.ntmps9
    go_wp2_with (first | ((go_at_call 13; refine (works14_any H _ hw).mono ?_; rintro e w2 ⟨rfl, hb2⟩)))
    go_ret
    exact ⟨rfl, hb2⟩
  · have hI : ¬ (100 : Int) < (l.length : Int) := by omega
    have cA : ∀ (u : Value) (H' : Snap) (W : World), Holds H' W → Sl H' u l → Calls Tryd.prog 20 #[u, .int .i64 s] W (PostV W (.tuple #[.string (codeR l s), .int .i64 (codeE l s)])) := fun u H' W h1 h2 => nCode_any u l (by omega) s H' W h1 h2
    have cB : ∀ (u : Value) (H' : Snap) (W : World), Holds H' W → Sl H' u l → Calls Tryd.prog 29 #[u, .int .i64 s] W (PostV W (.tuple #[.string (codeR l s), .int .i64 (codeE l s)])) := fun u H' W h1 h2 => code14_any u l (by omega) s H' W h1 h2
    have cS : ∀ (u v : Value) (H' : Snap) (W : World), Holds H' W → Sl H' u l → Sl H' v l → Calls Tryd.prog 27 #[u, v] W (PostV W (.bool true)) := fun u v H' W h1 h2 h3 => by
      have := sameLengths_any u v l l H' W h1 h2 h3
      rw [decide_eq_true rfl] at this
      exact this
    have cW : ∀ (H' : Snap) (W : World), Holds H' W → Calls Tryd.prog 13 #[] W (PostV W (.bool true)) := fun H' W h => works14_any H' W h
    have hbS : (([] : List Pr).length + l.length) * Enc.by_ Pr ≤ 140737488355328 := by simp only [Enc.by_, List.length_nil]; omega
    have hb63 : ([] : List Pr).length + l.length ≤ 9223372036854775807 := by simp only [List.length_nil]; omega
    generalize codeR l s = q at *
    generalize codeE l s = n at *
    have ht := toList_same q
    have hmark : Hid True := Lib.hid trivial
    replace cA := Lib.hid cA
    replace cB := Lib.hid cB
    replace cS := Lib.hid cS
    replace cW := Lib.hid cW
    replace hbS := Lib.hid hbS
    replace hb63 := Lib.hid hb63
    clear hle h100
    go_enter Tryd.func9, Tryd.ntmps9
    go_upto_region 4 with (have hgd := hmark; clear hgd; at_builtin; go_must (refine wpList_appX (w0 := w) (H0 := H) eLen rfl _ _ rfl ((Ext.refl hw).alloc _) rfl (Own.emptyAt (heap_alloc_new _ _) (Nat.le_refl _) (hw.none_of_ge (Nat.le_refl _))) rfl hs hbS.out hb63.out ?_); intro vB wB oB xB hwB hgB; rw [List.nil_append] at oB; obtain ⟨HB, xB2, lB, sB, _⟩ := oB.close xB; clear hmark)
    have sA := hs.mono (xB2.le hw)
    clear xB oB hwB hgB lB hI hs
    go_wp2_with (first | ((have hgd := x5; clear hgd; go_at_call 13; go_must (refine (cW.out HB _ x5.holds).mono ?_); rintro e w6 ⟨rfl, hb6⟩)) | ((have hgd := x4; clear hgd; go_at_call 27; go_must (refine (cS.out _ _ HB _ x4.holds sB sA).mono ?_); rintro e w5 ⟨rfl, hb5⟩; have x5 := x4.step (hb5.mono x4.below.size) (x4.holds.below hb5))) | ((have hgd := x3; clear hgd; go_at_call 29; go_must (refine (cB.out _ HB _ x3.holds sA).mono ?_); rintro e w4 ⟨rfl, hb4⟩; have x4 := x3.step (hb4.mono x3.below.size) (x3.holds.below hb4))) | ((go_at_call 20; go_must (refine (cA.out _ HB _ xB2.holds sB).mono ?_); rintro e w3 ⟨rfl, hb3⟩; have x3 := xB2.step (hb3.mono xB2.below.size) (xB2.holds.below hb3))))
    go_ret
    exact ⟨rfl, x5.below.trans (hb6.mono x5.below.size)⟩
end Go.Proofs.YthcfhmebikcfpaaDoor

namespace Go.Proofs.YthcfhmebikcfpaaDoor
open Go.ChangeShapes Go.WideShapes Go.ChangeAt Go.RowKit

theorem nightCodes_own : ownKnob Tryd.prog.godebug = none := by kernel_rfl
theorem nightCodes_laid : laidOutB Tryd.prog = true := by kernel_rfl

set_option maxHeartbeats 1600000 in
set_option maxRecDepth 100000 in
theorem nightCodes_lifted (os : Os) (started : os.Started) (H : Type) (enc : TypeId × Value → H) :
    ReturnsInHanded {} Tryd.checked os 9 .any (fun w args => (Rows.nightCodesSpec.pre enc Tryd.prog Tryd.f9 [] false w args ∧ laidMetH Tryd.prog laidN w) ∧ sizedMet enc Tryd.prog Tryd.f9 (OpenSpec.ofChange Rows.nightCodesSpec) false w args)
      (Rows.nightCodesSpec.post enc Tryd.prog Tryd.f9 false true false false) := by
  refine returnsInHanded_of_change_and (C := Tryd.checked) (X := fun w _ => laidMetH Tryd.prog laidN w) (fun _ _ _ hh h => h.of_heap hh) nightCodes_own started (by kernel_rfl) Tryd.func9
    (ChangeSpec.witness_shaped (enc := enc) (C := Tryd.checked) (os := os) (X := fun w _ => laidMetH Tryd.prog laidN w) false (doorN os) #[.slice none 0 0, .int .i64 0] 8 rfl (door_shaped os _) (by kernel_rfl) (by kernel_rfl) (by kernel_rfl) (door_met os _)) ?_
  intro W base args ds gs before hval0 hW _ hsz _ _
  have hval : ∀ (j : Nat) t v, Tryd.f9.params[j]? = some t → args[j]? = some v → Value.okWide Tryd.prog W .any base t v := hval0
  have hW' := hW
  obtain ⟨p, q, hA0, hV, rfl, _, _⟩ := hW
  have hA : DataW.TrodAll enc Tryd.prog W 0 (fun _ => true) true Tryd.f9.params.toList args.toList ds p := hA0
  have hS : (DataW.weightsEach Tryd.prog (Tryd.f9.params.toList ++ []) (ds ++ gs)).all (· ≤ reachBytes) = true := hsz
  rw [Tryd.params9] at hA hval hS
  obtain ⟨v0, v1, d0, d1, p0, p1, rfl, rfl, rfl, h0, h1⟩ := trodAll_two hA
  obtain ⟨rfl, rfl⟩ := trodVars_none hV
  clear hA0 hval0 hsz
  simp only [List.append_nil] at hW' hS
  have hlt : ∀ x ∈ p0 ++ p1, x.block < W.heap.size := fun x hx => by simpa using hW'.lt x hx
  have harg0 : ∀ W', Below W.heap.size W W' → DataW.Trod enc Tryd.prog W' 0 (fun b => decide (b < W.heap.size)) true 34 v0 d0 p0 := fun W' hb =>
    Below.trod nightCodes_laid (by kernel_rfl) (of_decide_eq_true (by kernel_rfl)) h0 hb (fun x hx => hlt x (List.mem_append.2 (.inl hx)))
  have hw0 : ∀ k ∈ d0.weights Tryd.prog 34, k ≤ reachBytes := fun k hk => by
    simpa using List.all_eq_true.1 hS k (DataW.weights_mem_each (j := 0) rfl rfl k hk)
  obtain ⟨a0, l0, c0, rfl⟩ := okWide_slice Tryd.underlying34 (hval 0 34 v0 rfl rfl)
  obtain ⟨n0, h0'⟩ := h0
  obtain ⟨xs0, hx0⟩ := lens_opened (by simpa [Value.cells] using h0') hw0
  obtain ⟨z1, rfl, rfl, rfl, wz1⟩ := open_int Tryd.underlying3 (hval 1 3 v1 rfl rfl) h1
  have hz1 := i64_wf wz1
  refine (nightCodes_any _ xs0 z1 (snapOf W) W (snapOf_holds W) hx0 hz1).mono fun e W' ⟨he, hb⟩ => ?_
  subst he
  refine ⟨_, rfl, _, _, _, [], _, [], hW', ?_, trodAll_mk2 (harg0 W' hb) (shut_int Tryd.underlying3 wz1), rfl, hb.frame _, fun h => by cases h⟩
  exact trodAll_mk1 (shut_bool Tryd.underlying4 _)

theorem nightCodes_said : Rows.NightCodesSaid :=
  OpenClaim.holds_of_wide 9 Tryd.f9 rfl rfl rfl rfl rfl rfl rfl ⟨rfl, rfl, rfl, rfl, rfl⟩ rfl rfl rfl rfl rfl (by kernel_rfl) Tryd.func9 (by kernel_rfl)
    (of_decide_eq_true (by kernel_rfl)) (by unfold Func.isWrapper; first | (rw [if_pos (by decide +kernel)]; kernel_rfl) | (rw [if_neg (by decide +kernel)]; exact ⟨rfl, rfl⟩))
    (fun os started H enc _ => nightCodes_lifted os started H enc)
theorem nightCodes_card : Rows.NightCodesCardSaid :=
  Claim7.holds_tied_plain_at .later [] [.data, .pinned] true (true, "939a424db51006e050b52def13aedbed6d4c52175fd3e7427ddbb41609789fdc") false
    nightCodes_said (fun _ h => by cases h) (by kernel_rfl) (fun _ h => by cases h) nightCodes_row_tie rfl ⟨rfl, rfl⟩ (by kernel_rfl) rfl
    (fun f fn hf hfn => by
      obtain rfl : f = 9 := Option.some.inj ((show Tryd.prog.funcNamed "flong/flonglaw14.NightCodes" = some 9 by kernel_rfl).symm.trans hf) |>.symm
      obtain rfl : fn = Tryd.f9 := (Option.some.inj (Tryd.func9.symm.trans hfn)).symm
      exact ⟨by kernel_rfl, fun j t ht => by
        rw [Tryd.params9] at ht
        have hm : t ∈ [34, 3] := by simpa using Array.mem_of_getElem? ht
        have hall : ([34, 3].all fun u => !Tryd.prog.wantsStandIn u) = true := by kernel_rfl
        exact (show Tryd.prog.wantsStandIn t = false by simpa using List.all_eq_true.1 hall t hm)⟩)
    (by kernel_rfl)
end Go.Proofs.YthcfhmebikcfpaaDoor
