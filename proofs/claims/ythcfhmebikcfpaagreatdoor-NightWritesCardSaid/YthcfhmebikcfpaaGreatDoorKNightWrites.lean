/- Proved here: NightWritesCardSaid: the law NightWrites returns true for all texts, and they read afterwards as they did. Conditions: none beyond those of the given statement. -/
import Derived.Test.YthcfhmebikcfpaaGreatDoorG13
import Derived.Test.YthcfhmebikcfpaaGreatDoorG18
import Derived.Test.YthcfhmebikcfpaaGreatDoorRows
import Derived.Test.YthcfhmebikcfpaaGreatDoorTie
import Derived.Test.YthcfhmebikcfpaaGreatDoorCards
import Derived.ProofKit
import Derived.SevenTiedAt

set_option linter.all false

namespace Go.Proofs.YthcfhmebikcfpaaGreatDoor
open Go.RowKit
attribute [local go_sem] Holds.drew Holds.alloc Holds.drewN WB.holds Oper.semAt_some

set_option maxRecDepth 100000 in
set_option maxHeartbeats 4000000 in
theorem nightWrites_any (v : Value) (l : List ByteArray) (H : Snap) (w : World) (hw : Holds H w) (hs : Sl H v l) :
    Calls Tryz.prog 3 #[v] w (PostV w (.bool true)) := by
  have cW : ∀ (H' : Snap) (W : World), Holds H' W → Calls Tryz.prog 7 #[] W (PostV W (.bool true)) := fun H' W h => works14_any H' W h
  have cG := long14_any v l H w hw hs
  have hlg : longA l = (decide (60 < l.length) || l.any fun s => decide (200 < s.size)) := rfl
  obtain ⟨a, c, rfl, _, _⟩ := hs.form
  cases hb : longA l
  case true =>
    rw [hb] at cG
    replace cG := Lib.hid cG
    replace cW := Lib.hid cW
    clear hb hlg
    go_enter Tryz.func3, Tryz.ntmps3
    go_wp2_with (first | ((have hgd := hw2; clear hgd; go_at_call 7; go_must (refine (cW.out H _ hw2).mono ?_); rintro e w3 ⟨rfl, hb3⟩)) | ((go_at_call 6; refine cG.out.mono ?_; rintro e w2 ⟨rfl, hb2⟩; have hw2 := hw.below hb2)))
    go_ret
    exact ⟨rfl, hb2.trans (hb3.mono hb2.size)⟩
  case false =>
  rw [hb] at cG hlg
  have hlf := hlg.symm
  rw [Bool.or_eq_false_iff] at hlf
  have hl6 := of_decide_eq_false hlf.1
  have hz : ∀ s ∈ l, s.size ≤ 1000000 := fun s hs => by
    have h1 := List.any_eq_false.1 hlf.2 s hs
    have h2 : ¬ 200 < s.size := by simpa using h1
    omega
  have hf1 : (([] : List ByteArray).length + l.length) * Enc.by_ ByteArray ≤ 140737488355328 := by simp only [Enc.by_, List.length_nil]; omega
  have hf2 : ([] : List ByteArray).length + l.length ≤ 9223372036854775807 := by simp only [List.length_nil]; omega
  have cS : ∀ (H' : Snap) (W : World), Holds H' W → ∀ {u v : Value}, Sl H' u l → Sl H' v l → Calls Tryz.prog 10 #[u, v] W (PostV W (.bool true)) := fun H' W h1 u v h2 h3 => by
    have := sameTexts_any u v l l H' W h1 h2 h3
    rw [decide_eq_true rfl] at this
    exact this
  have cA : ∀ (H' : Snap) (W : World), Holds H' W → ∀ {u : Value}, Sl H' u l → Calls Tryz.prog 8 #[u] W (PostV W (.tuple #[.string (fileR l), .int .i64 (areE l)])) := fun H' W h1 u h2 => nWrite_any u l H' W h1 h2 hz
  have cB : ∀ (H' : Snap) (W : World), Holds H' W → ∀ {u : Value}, Sl H' u l → Calls Tryz.prog 9 #[u] W (PostV W (.tuple #[.string (fileR l), .int .i64 (areE l)])) := fun H' W h1 u h2 => writeT14_any u l H' W h1 h2
  generalize fileR l = q at *
  generalize areE l = n at *
  have ht := toList_same q
  have hx0 := Ext.refl hw
  replace cW := Lib.hid cW
  replace cG := Lib.hid cG
  replace cS := Lib.hid cS
  replace cA := Lib.hid cA
  replace cB := Lib.hid cB
  replace hf1 := Lib.hid hf1
  replace hf2 := Lib.hid hf2
  clear hb hlg hlf hl6 hz
  have x0 : Ext w H w H := hx0
  clear hx0
  go_enter Tryz.func3, Tryz.ntmps3
  go_wp2_with (first | ((have hgd := x5; clear hgd; go_at_call 7; go_must (refine (cW.out H1 _ x5.holds ).mono ?_); rintro e w6 ⟨rfl, hb6⟩; have x6 := x5.step (hb6.mono x5.below.size) (x5.holds.below hb6))) | ((have hgd := x4; clear hgd; go_at_call 10; go_must (refine (cS.out H1 _ x4.holds s2 ht_1).mono ?_); rintro e w5 ⟨rfl, hb5⟩; have x5 := x4.step (hb5.mono x4.below.size) (x4.holds.below hb5))) | ((have hgd := x3; clear hgd; go_at_call 9; go_must (refine (cB.out H1 _ x3.holds ht_1).mono ?_); rintro e w4 ⟨rfl, hb4⟩; have x4 := x3.step (hb4.mono x3.below.size) (x3.holds.below hb4))) | ((have hgd := x2; clear hgd; go_at_call 8; go_must (refine (cA.out H1 _ x2.holds s2).mono ?_); rintro e w3 ⟨rfl, hb3⟩; have x3 := x2.step (hb3.mono x2.below.size) (x2.holds.below hb3))) | ((at_builtin; have hgd := x1; clear hgd; go_must (refine wpList_appX (w0 := w) (H0 := H) eStr rfl _ _ rfl (x1.alloc _) rfl (Own.emptyAt (heap_alloc_new _ _) x1.below.size (x1.holds.none_of_ge (Nat.le_refl _))) rfl hs hf1.out hf2.out ?_); intro v2 w2 o2 y2 hw2 hg2; rw [List.nil_append] at o2; obtain ⟨H1, x2, l2, s2, _⟩ := o2.close y2; obtain ⟨a2, c2, rfl, _, _⟩ := o2.form; have ht_1 := hs.mono l2)) | ((go_at_call 6; refine cG.out.mono ?_; rintro e w1 ⟨rfl, hb1⟩; have x1 := x0.step hb1 (hw.below hb1))))
  go_ret
  exact ⟨rfl, x6.below⟩
end Go.Proofs.YthcfhmebikcfpaaGreatDoor

namespace Go.Proofs.YthcfhmebikcfpaaGreatDoor
open Go.ChangeShapes Go.WideShapes Go.ChangeAt Go.RowKit

theorem nightWrites_own : ownKnob Tryz.prog.godebug = none := by kernel_rfl
theorem nightWrites_laid : laidOutB Tryz.prog = true := by kernel_rfl

set_option maxHeartbeats 1600000 in
set_option maxRecDepth 100000 in
theorem nightWrites_lifted (os : Os) (started : os.Started) (H : Type) (enc : TypeId × Value → H) :
    ReturnsInHanded {} Tryz.checked os 3 .any (fun w args => (Rows.nightWritesSpec.pre enc Tryz.prog Tryz.f3 [] false w args ∧ laidMetH Tryz.prog laidN w) ∧ sizedMet enc Tryz.prog Tryz.f3 (OpenSpec.ofChange Rows.nightWritesSpec) false w args)
      (Rows.nightWritesSpec.post enc Tryz.prog Tryz.f3 false true false false) := by
  refine returnsInHanded_of_change_and (C := Tryz.checked) (X := fun w _ => laidMetH Tryz.prog laidN w) (fun _ _ _ hh h => h.of_heap hh) nightWrites_own started (by kernel_rfl) Tryz.func3
    (ChangeSpec.witness_shaped (enc := enc) (C := Tryz.checked) (os := os) (X := fun w _ => laidMetH Tryz.prog laidN w) false (doorN os) #[.slice none 0 0] 8 rfl (door_shaped os _) (by kernel_rfl) (by kernel_rfl) (by kernel_rfl) (door_met os _)) ?_
  intro W base args ds gs before hval0 hW _ hsz _ _
  have hval : ∀ (j : Nat) t v, Tryz.f3.params[j]? = some t → args[j]? = some v → Value.okWide Tryz.prog W .any base t v := hval0
  have hW' := hW
  obtain ⟨p, q, hA0, hV, rfl, _, _⟩ := hW
  have hA : DataW.TrodAll enc Tryz.prog W 0 (fun _ => true) true Tryz.f3.params.toList args.toList ds p := hA0
  have hS : (DataW.weightsEach Tryz.prog (Tryz.f3.params.toList ++ []) (ds ++ gs)).all (· ≤ reachBytes) = true := hsz
  rw [Tryz.params3] at hA hval hS
  obtain ⟨v0, d0, rfl, rfl, h0⟩ := trodAll_one hA
  obtain ⟨rfl, rfl⟩ := trodVars_none hV
  clear hA0 hval0 hsz
  simp only [List.append_nil] at hW' hS
  have hlt : ∀ x ∈ p, x.block < W.heap.size := fun x hx => by simpa using hW'.lt x hx
  have harg0 : ∀ W', Below W.heap.size W W' → DataW.Trod enc Tryz.prog W' 0 (fun b => decide (b < W.heap.size)) true 22 v0 d0 p := fun W' hb =>
    Below.trod nightWrites_laid (by kernel_rfl) (of_decide_eq_true (by kernel_rfl)) h0 hb (fun x hx => hlt x (hx))
  have hw0 : ∀ k ∈ d0.weights Tryz.prog 22, k ≤ reachBytes := fun k hk => by
    simpa using List.all_eq_true.1 hS k (DataW.weights_mem_each (j := 0) rfl rfl k hk)
  obtain ⟨a0, l0, c0, rfl⟩ := okWide_slice Tryz.underlying22 (hval 0 22 v0 rfl rfl)
  obtain ⟨n0, h0'⟩ := h0
  obtain ⟨xs0, hx0⟩ := texts_opened (by simpa [Value.cells] using h0') hw0
  refine (nightWrites_any _ xs0 (snapOf W) W (snapOf_holds W) hx0).mono fun e W' ⟨he, hb⟩ => ?_
  subst he
  refine ⟨_, rfl, _, _, _, [], _, [], hW', ?_, trodAll_mk1 (harg0 W' hb), rfl, hb.frame _, fun h => by cases h⟩
  exact trodAll_mk1 (shut_bool Tryz.underlying4 _)

theorem nightWrites_said : Rows.NightWritesSaid :=
  OpenClaim.holds_of_wide 3 Tryz.f3 rfl rfl rfl rfl rfl rfl rfl ⟨rfl, rfl, rfl, rfl, rfl⟩ rfl rfl rfl rfl rfl (by kernel_rfl) Tryz.func3 (by kernel_rfl)
    (of_decide_eq_true (by kernel_rfl)) (by unfold Func.isWrapper; first | (rw [if_pos (by decide +kernel)]; kernel_rfl) | (rw [if_neg (by decide +kernel)]; exact ⟨rfl, rfl⟩))
    (fun os started H enc _ => nightWrites_lifted os started H enc)
theorem nightWrites_card : Rows.NightWritesCardSaid :=
  Claim7.holds_tied_plain_at .later [] [.data, .pinned] true (true, "fb92854d84a68b69838ef80b1ab28b19d9342683594d7e78a6e644e267e32732") false
    nightWrites_said (fun _ h => by cases h) (by kernel_rfl) (fun _ h => by cases h) nightWrites_row_tie rfl ⟨rfl, rfl⟩ (by kernel_rfl) rfl
    (fun f fn hf hfn => by
      obtain rfl : f = 3 := Option.some.inj ((show Tryz.prog.funcNamed "flong/flonglaw14.NightWrites" = some 3 by kernel_rfl).symm.trans hf) |>.symm
      obtain rfl : fn = Tryz.f3 := (Option.some.inj (Tryz.func3.symm.trans hfn)).symm
      exact ⟨by kernel_rfl, fun j t ht => by
        rw [Tryz.params3] at ht
        have hm : t ∈ [22] := by simpa using Array.mem_of_getElem? ht
        have hall : ([22].all fun u => !Tryz.prog.wantsStandIn u) = true := by kernel_rfl
        exact (show Tryz.prog.wantsStandIn t = false by simpa using List.all_eq_true.1 hall t hm)⟩)
    (by kernel_rfl)
end Go.Proofs.YthcfhmebikcfpaaGreatDoor
