/- Proved here: NightMoreCardSaid: the law NightMore returns true for all texts, and they read afterwards as they did. Conditions: none beyond those of the given statement. -/
import Derived.Test.YthcfhmebikcfpaaDoorG13
import Derived.Test.YthcfhmebikcfpaaDoorG14
import Derived.Test.YthcfhmebikcfpaaDoorG15
import Derived.Test.YthcfhmebikcfpaaDoorRows
import Derived.Test.YthcfhmebikcfpaaDoorTie
import Derived.Test.YthcfhmebikcfpaaDoorCards
import Derived.ProofKit
import Derived.SevenTiedAt

set_option linter.all false

namespace Go.Proofs.YthcfhmebikcfpaaDoor
open Go.RowKit
attribute [local go_sem] Holds.drew Holds.alloc Holds.drewN WB.holds Oper.semAt_some

theorem areE_take {l : List ByteArray} (h : areE l = 0) (k : Nat) : areE (l.take k) = 0 := by
  obtain ⟨h1, h2⟩ := areE_zero h
  unfold areE
  rw [if_neg (by rw [List.length_take]; omega), if_pos (List.all_eq_true.2 fun s hs => h2 s (List.mem_of_mem_take hs))]
theorem fileR_yes {l : List ByteArray} (h : areE l = 0) : fileR l = strB (fileA l) := by unfold fileR; rw [if_pos h]
theorem add_file {l : List ByteArray} (h : areE l = 0) {k : Nat} {x : ByteArray} (hx : At l k x) : addR (strB (fileA (l.take k))) x = strB (fileA (l.take (k + 1))) ∧ addE (strB (fileA (l.take k))) x = 0 := by
  have hr : readA (bys (strB (fileA (l.take k)))) = (l.take k, 0) := read_file (areE_take h k)
  unfold addR addE
  rw [hr]
  rw [if_pos rfl, if_pos rfl, ← hx.take]
  exact ⟨fileR_yes (areE_take h (k + 1)), areE_take h (k + 1)⟩
theorem cut_file {l : List ByteArray} (h : areE l = 0) {k : Nat} {x : ByteArray} (hx : At l k x) : cutR (strB (fileA (l.take (k + 1)))) = strB (fileA (l.take k)) ∧ cutE (strB (fileA (l.take (k + 1)))) = 0 := by
  have hr : readA (bys (strB (fileA (l.take (k + 1))))) = (l.take (k + 1), 0) := read_file (areE_take h (k + 1))
  have hd : (l.take (k + 1)).dropLast = l.take k := by rw [hx.take, List.dropLast_concat]
  have hn : ¬ l.take (k + 1) = [] := by rw [hx.take]; simp
  unfold cutR cutE
  rw [hr]
  rw [if_pos rfl, if_pos rfl, if_neg hn, if_neg hn, hd]
  exact ⟨fileR_yes (areE_take h k), areE_take h k⟩
set_option maxRecDepth 100000 in
set_option maxHeartbeats 2000000 in
theorem nightMore_any (v : Value) (l : List ByteArray) (H : Snap) (w : World) (hw : Holds H w) (hs : Sl H v l) :
    Calls Tryd.prog 11 #[v] w (PostV w (.bool true)) := by
  have cW : ∀ (H' : Snap) (W : World), Holds H' W → Calls Tryd.prog 13 #[] W (PostV W (.bool true)) := fun H' W h => works14_any H' W h
  have cR := ready14_any v l H w hw hs
  obtain ⟨a, c, rfl, _, _⟩ := hs.form
  by_cases h0 : areE l = 0
  case neg =>
    rw [decide_eq_false h0] at cR
    replace cR := Lib.hid cR
    replace cW := Lib.hid cW
    clear h0
    go_enter Tryd.func11, Tryd.ntmps11
    go_wp2_with (first | ((have hgd := hw2; clear hgd; go_at_call 13; go_must (refine (cW.out H _ hw2).mono ?_); rintro e w3 ⟨rfl, hb3⟩)) | ((go_at_call 12; refine cR.out.mono ?_; rintro e w2 ⟨rfl, hb2⟩; have hw2 := hw.below hb2)))
    go_ret
    exact ⟨rfl, hb2.trans (hb3.mono hb2.size)⟩
  case pos =>
  rw [decide_eq_true h0] at cR
  have cWr := fun (u : Value) (H' : Snap) (W : World) (h1 : Holds H' W) (h2 : Sl H' u l) => written14_any u l h0 H' W h1 h2
  have cW0 := fun (H' : Snap) (W : World) (h1 : Holds H' W) => written14_any (.slice none 0 0) [] (by decide) H' W h1 (Sl.nil0 H')
  have hl := (areE_zero h0).1
  have cAd : ∀ (k : Nat) (x : ByteArray), At l k x → ∀ (H' : Snap) (W : World), Holds H' W → Calls Tryd.prog 31 #[.string (strB (fileA (l.take k))), .string x] W (PostV W (.tuple #[.string (strB (fileA (l.take (k + 1)))), .int .i64 0])) := fun k x hx H' W hW => by
    have := nAdd_any (strB (fileA (l.take k))) x (by have := areE_size h0 x hx.mem; omega) H' W hW
    rw [(add_file h0 hx).1, (add_file h0 hx).2] at this
    exact this
  have cCt : ∀ (k : Nat) (x : ByteArray), At l k x → ∀ (H' : Snap) (W : World), Holds H' W → Calls Tryd.prog 32 #[.string (strB (fileA (l.take (k + 1))))] W (PostV W (.tuple #[.string (strB (fileA (l.take k))), .int .i64 0])) := fun k x hx H' W hW => by
    have := nCut_any (strB (fileA (l.take (k + 1)))) H' W hW
    rw [(cut_file h0 hx).1, (cut_file h0 hx).2] at this
    exact this
  have hfs : ∀ k, ((strB (fileA (l.take k))).size : Int) ≤ 1340 := fun k => by
    have := (file_le (areE_take h0 k)).1
    have e : (strB (fileA (l.take k))).size = (fileA (l.take k)).length := rfl
    omega
  replace cW := Lib.hid cW
  replace cR := Lib.hid cR
  replace cWr := Lib.hid cWr
  replace cW0 := Lib.hid cW0
  replace cAd := Lib.hid cAd
  replace cCt := Lib.hid cCt
  replace hfs := Lib.hid hfs
  replace hl := Lib.hid hl
  clear h0
  go_enter Tryd.func11, Tryd.ntmps11
  go_upto_region 3 with (go_at_call 12; refine cR.out.mono ?_; rintro e w2 ⟨rfl, hb2⟩; have x2 := (Ext.refl hw).step hb2 (hw.below hb2))
  clear hb2
  go_upto_region 4 with (go_at_call 14; go_must (refine (cWr.out _ H _ x2.holds hs).mono ?_); rintro e w3 ⟨rfl, hb3⟩; have x3 := x2.step (hb3.mono x2.below.size) (x2.holds.below hb3))
  clear x2 hb3
  go_upto_region 7 with (go_at_call 14; go_must (refine (cW0.out H _ x3.holds).mono ?_); rintro e w4 ⟨rfl, hb4⟩; have x4 := x3.step (hb4.mono x3.below.size) (x3.holds.below hb4))
  clear x3 hb4
  go_wp2_with fail
  go_loopw [5, 7] (fun fv i wr => ∃ k : Nat, k ≤ l.length ∧ fv = .string (strB (fileA (l.take k))) ∧ i = .int .i64 (k : Int) ∧ Ext w H wr H) (fun _ i _ => l.length - (intOf i).toNat)
  case atStart => exact ⟨0, Nat.zero_le _, rfl, rfl, x4⟩
  case round =>
    clear x4
    obtain ⟨k, hk, rfl, rfl, xr⟩ := hrel
    have hwr := xr.holds
    by_cases hlt : k < l.length
    · obtain ⟨x, hx⟩ := At.mk hlt
      obtain ⟨b, o, c', he, hi, hr⟩ := hs.str hx
      cases he
      have cA := cAd.out k x hx
      have cC := cCt.out k x hx
      have hfk := hfs.out (k + 1)
      have hq1 := toList_same (strB (fileA (l.take k)))
      generalize strB (fileA (l.take k)) = q at *
      generalize hq2 : strB (fileA (l.take (k + 1))) = q2 at *
      have hI : ¬ (1500 : Int) < (q2.size : Int) := by omega
      have hg : wrap64 ((k : Int) + 1) = (k : Int) + 1 := wrap64_in _ (by omega) (by have := hl.out; omega)
      replace hq2 := Lib.hid hq2
      replace hg := Lib.hid hg
      replace cA := Lib.hid cA
      replace cC := Lib.hid cC
      clear hi hfk
      go_wp2_with (first | ((have hgd := x5; clear hgd; go_at_call 32; go_must (refine (cC.out H _ x5.holds).mono ?_); rintro e w6 ⟨rfl, hb6⟩; have x6 := x5.step (hb6.mono x5.below.size) (x5.holds.below hb6))) | ((go_at_call 31; go_must (refine (cA.out H _ xr.holds).mono ?_); rintro e w5 ⟨rfl, hb5⟩; have x5 := xr.step (hb5.mono xr.below.size) (xr.holds.below hb5))))
      go_roundw
      case rel => exact ⟨k + 1, hlt, by rw [hq2.out], by first | rfl | (rw [hg.out]; rfl), x6⟩
      case measure => first | (simp [intOf]; omega) | (rw [hg.out]; simp [intOf]; omega)
    · have hke : k = l.length := by omega
      have hq1 := toList_same (strB (fileA l))
      have hkf : l.take k = l := by rw [hke]; exact List.take_length
      rw [hkf]
      generalize strB (fileA l) = q at *
      clear hkf hke
      go_wp2_with (first | ((go_at_call 13; go_must (refine (cW.out H _ xr.holds).mono ?_); rintro e w6 ⟨rfl, hb6⟩)))
      go_ret
      exact ⟨rfl, xr.below.trans (hb6.mono xr.below.size)⟩
end Go.Proofs.YthcfhmebikcfpaaDoor

namespace Go.Proofs.YthcfhmebikcfpaaDoor
open Go.ChangeShapes Go.WideShapes Go.ChangeAt Go.RowKit

theorem nightMore_own : ownKnob Tryd.prog.godebug = none := by kernel_rfl
theorem nightMore_laid : laidOutB Tryd.prog = true := by kernel_rfl

set_option maxHeartbeats 1600000 in
set_option maxRecDepth 100000 in
theorem nightMore_lifted (os : Os) (started : os.Started) (H : Type) (enc : TypeId × Value → H) :
    ReturnsInHanded {} Tryd.checked os 11 .any (fun w args => (Rows.nightMoreSpec.pre enc Tryd.prog Tryd.f11 [] false w args ∧ laidMetH Tryd.prog laidN w) ∧ sizedMet enc Tryd.prog Tryd.f11 (OpenSpec.ofChange Rows.nightMoreSpec) false w args)
      (Rows.nightMoreSpec.post enc Tryd.prog Tryd.f11 false true false false) := by
  refine returnsInHanded_of_change_and (C := Tryd.checked) (X := fun w _ => laidMetH Tryd.prog laidN w) (fun _ _ _ hh h => h.of_heap hh) nightMore_own started (by kernel_rfl) Tryd.func11
    (ChangeSpec.witness_shaped (enc := enc) (C := Tryd.checked) (os := os) (X := fun w _ => laidMetH Tryd.prog laidN w) false (doorN os) #[.slice none 0 0] 8 rfl (door_shaped os _) (by kernel_rfl) (by kernel_rfl) (by kernel_rfl) (door_met os _)) ?_
  intro W base args ds gs before hval0 hW _ hsz _ _
  have hval : ∀ (j : Nat) t v, Tryd.f11.params[j]? = some t → args[j]? = some v → Value.okWide Tryd.prog W .any base t v := hval0
  have hW' := hW
  obtain ⟨p, q, hA0, hV, rfl, _, _⟩ := hW
  have hA : DataW.TrodAll enc Tryd.prog W 0 (fun _ => true) true Tryd.f11.params.toList args.toList ds p := hA0
  have hS : (DataW.weightsEach Tryd.prog (Tryd.f11.params.toList ++ []) (ds ++ gs)).all (· ≤ reachBytes) = true := hsz
  rw [Tryd.params11] at hA hval hS
  obtain ⟨v0, d0, rfl, rfl, h0⟩ := trodAll_one hA
  obtain ⟨rfl, rfl⟩ := trodVars_none hV
  clear hA0 hval0 hsz
  simp only [List.append_nil] at hW' hS
  have hlt : ∀ x ∈ p, x.block < W.heap.size := fun x hx => by simpa using hW'.lt x hx
  have harg0 : ∀ W', Below W.heap.size W W' → DataW.Trod enc Tryd.prog W' 0 (fun b => decide (b < W.heap.size)) true 22 v0 d0 p := fun W' hb =>
    Below.trod nightMore_laid (by kernel_rfl) (of_decide_eq_true (by kernel_rfl)) h0 hb (fun x hx => hlt x (hx))
  have hw0 : ∀ k ∈ d0.weights Tryd.prog 22, k ≤ reachBytes := fun k hk => by
    simpa using List.all_eq_true.1 hS k (DataW.weights_mem_each (j := 0) rfl rfl k hk)
  obtain ⟨a0, l0, c0, rfl⟩ := okWide_slice Tryd.underlying22 (hval 0 22 v0 rfl rfl)
  obtain ⟨n0, h0'⟩ := h0
  obtain ⟨xs0, hx0⟩ := texts_opened (by simpa [Value.cells] using h0') hw0
  refine (nightMore_any _ xs0 (snapOf W) W (snapOf_holds W) hx0).mono fun e W' ⟨he, hb⟩ => ?_
  subst he
  refine ⟨_, rfl, _, _, _, [], _, [], hW', ?_, trodAll_mk1 (harg0 W' hb), rfl, hb.frame _, fun h => by cases h⟩
  exact trodAll_mk1 (shut_bool Tryd.underlying4 _)

theorem nightMore_said : Rows.NightMoreSaid :=
  OpenClaim.holds_of_wide 11 Tryd.f11 rfl rfl rfl rfl rfl rfl rfl ⟨rfl, rfl, rfl, rfl, rfl⟩ rfl rfl rfl rfl rfl (by kernel_rfl) Tryd.func11 (by kernel_rfl)
    (of_decide_eq_true (by kernel_rfl)) (by unfold Func.isWrapper; first | (rw [if_pos (by decide +kernel)]; kernel_rfl) | (rw [if_neg (by decide +kernel)]; exact ⟨rfl, rfl⟩))
    (fun os started H enc _ => nightMore_lifted os started H enc)
theorem nightMore_card : Rows.NightMoreCardSaid :=
  Claim7.holds_tied_plain_at .later [] [.data, .pinned] true (true, "939a424db51006e050b52def13aedbed6d4c52175fd3e7427ddbb41609789fdc") false
    nightMore_said (fun _ h => by cases h) (by kernel_rfl) (fun _ h => by cases h) nightMore_row_tie rfl ⟨rfl, rfl⟩ (by kernel_rfl) rfl
    (fun f fn hf hfn => by
      obtain rfl : f = 11 := Option.some.inj ((show Tryd.prog.funcNamed "flong/flonglaw14.NightMore" = some 11 by kernel_rfl).symm.trans hf) |>.symm
      obtain rfl : fn = Tryd.f11 := (Option.some.inj (Tryd.func11.symm.trans hfn)).symm
      exact ⟨by kernel_rfl, fun j t ht => by
        rw [Tryd.params11] at ht
        have hm : t ∈ [22] := by simpa using Array.mem_of_getElem? ht
        have hall : ([22].all fun u => !Tryd.prog.wantsStandIn u) = true := by kernel_rfl
        exact (show Tryd.prog.wantsStandIn t = false by simpa using List.all_eq_true.1 hall t hm)⟩)
    (by kernel_rfl)
end Go.Proofs.YthcfhmebikcfpaaDoor
