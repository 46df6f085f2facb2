/- Proved here: NightLongCardSaid: the law NightLong returns true for all texts, and they read afterwards as they did. Conditions: none beyond those of the given statement. -/
import Derived.Test.YthcfhmebikcfpaaDoorG13
import Derived.Test.YthcfhmebikcfpaaDoorG14
import Derived.Test.YthcfhmebikcfpaaDoorG15
import Derived.Test.YthcfhmebikcfpaaDoorRows
import Derived.Test.YthcfhmebikcfpaaDoorTie
import Derived.Test.YthcfhmebikcfpaaDoorCards
import Derived.ProofKit
import Derived.SevenTiedAt

set_option linter.all false

namespace Go.Proofs.YthcfhmebikcfpaaDoor
open Go.RowKit
attribute [local go_sem] Holds.drew Holds.alloc Holds.drewN WB.holds Oper.semAt_some

theorem long_facts {B L M N : Nat} (hL : L ≤ 96) (hB : B ≤ 7 * M) (hM : M ≤ 980) (hN : N = 4 + 2 * L + six B) :
    (0 : Int) ≤ (B : Int) ∧ wrap64 (2 * (L : Int)) = 2 * (L : Int) ∧ wrap64 (4 + 2 * (L : Int)) = 4 + 2 * (L : Int) ∧ wrap64 ((B : Int) + 5) = (B : Int) + 5 ∧ Int.tdiv ((B : Int) + 5) 6 = ((six B : Nat) : Int) ∧
    wrap64 (4 + 2 * (L : Int) + ((six B : Nat) : Int)) = (N : Int) ∧ wrap64 ((M : Int) - (N : Int)) = (M : Int) - (N : Int) ∧ wrap64 ((six B : Nat) : Int) = ((six B : Nat) : Int) := by
  have h6 : six B ≤ B + 5 := by unfold six; omega
  refine ⟨by omega, wrap64_in _ (by omega) (by omega), wrap64_in _ (by omega) (by omega), wrap64_in _ (by omega) (by omega), ?_, ?_, wrap64_in _ (by omega) (by omega), wrap64_in _ (by omega) (by omega)⟩
  · unfold six; rw [show (B : Int) + 5 = ((B + 5 : Nat) : Int) by omega]; rfl
  · rw [wrap64_in _ (by omega) (by omega), hN]; omega
set_option maxRecDepth 100000 in
set_option maxHeartbeats 2000000 in
theorem nightLong_any (v : Value) (l : List ByteArray) (H : Snap) (w : World) (hw : Holds H w) (hs : Sl H v l) :
    Calls Tryd.prog 10 #[v] w (PostV w (.bool true)) := by
  have cW : ∀ (H' : Snap) (W : World), Holds H' W → Calls Tryd.prog 13 #[] W (PostV W (.bool true)) := fun H' W h => works14_any H' W h
  have cR := ready14_any v l H w hw hs
  obtain ⟨a, c, rfl, _, _⟩ := hs.form
  by_cases h0 : areE l = 0
  case neg =>
    rw [decide_eq_false h0] at cR
    replace cR := Lib.hid cR
    replace cW := Lib.hid cW
    clear h0
    go_enter Tryd.func10, Tryd.ntmps10
    go_wp2_with (first | ((have hgd := hw2; clear hgd; go_at_call 13; go_must (refine (cW.out H _ hw2).mono ?_); rintro e w3 ⟨rfl, hb3⟩)) | ((go_at_call 12; refine cR.out.mono ?_; rintro e w2 ⟨rfl, hb2⟩; have hw2 := hw.below hb2)))
    go_ret
    exact ⟨rfl, hb2.trans (hb3.mono hb2.size)⟩
  case pos =>
  rw [decide_eq_true h0] at cR
  have cWr := fun (u : Value) (H' : Snap) (W : World) (h1 : Holds H' W) (h2 : Sl H' u l) => written14_any u l h0 H' W h1 h2
  have cLn := fun (u : Value) (H' : Snap) (W : World) (h1 : Holds H' W) (h2 : Sl H' u l) => lengths14_any u l h0 H' W h1 h2
  have cBt := fun (u : Value) (H' : Snap) (W : World) (h1 : Holds H' W) (h2 : Sl H' u l) => bits14_any u l h0 H' W h1 h2
  have hl := (areE_zero h0).1
  have hsz := areE_size h0
  have hz : ∀ s ∈ l, s.size ≤ 1000000 := fun s hs => by have := hsz s hs; omega
  have hsv : savesR l = ((msgOf l).length : Int) - ((fileA l).length : Int) := by unfold savesR; rw [if_pos h0]
  have cSv : ∀ (u : Value) (H' : Snap) (W : World), Holds H' W → Sl H' u l → Calls Tryd.prog 30 #[u] W (PostV W (.tuple #[.int .i64 (((strB (msgOf l)).size : Int) - ((strB (fileA l)).size : Int)), .int .i64 0])) := fun u H' W h1 h2 => by
    have := nSaves_any u l H' W h1 h2 hz
    rw [hsv, h0] at this
    exact this
  have cMs := fun (u : Value) (H' : Snap) (W : World) (h1 : Holds H' W) (h2 : Sl H' u l) => message14_any u l H' W h1 h2 (by omega) hsz
  have hfl : (strB (fileA l)).size = 4 + 2 * (lensA (msgOf l)).length + six (bitsA (lensA (msgOf l)) (msgOf l)).length := file_len l
  have hml : (strB (msgOf l)).size ≤ 980 := msgOf_len h0
  have F := msg_ok h0
  have hLl : (lensA (msgOf l)).length ≤ 96 := by rw [lensA_len]; exact wts_few F.1
  have hbb : (bitsA (lensA (msgOf l)) (msgOf l)).length ≤ 7 * (strB (msgOf l)).size := bits_bound F
  generalize strB (fileA l) = q at *
  generalize strB (msgOf l) = m at *
  generalize hB : (bitsA (lensA (msgOf l)) (msgOf l)).length = B at *
  generalize hL : lensA (msgOf l) = L at *
  obtain ⟨hb0, e1, e2, e3, e4, e5, e6, e7⟩ := long_facts hLl hbb hml hfl
  have hb1 : decide ((0 : Int) ≤ (B : Int)) = true := decide_eq_true hb0
  have hbS : (([] : List ByteArray).length + l.length) * Enc.by_ ByteArray ≤ 140737488355328 := by simp only [Enc.by_, List.length_nil]; omega
  have hb63 : ([] : List ByteArray).length + l.length ≤ 9223372036854775807 := by simp only [List.length_nil]; omega
  have hmark : Hid True := Lib.hid trivial
  clear hfl hml F hLl hbb hL hB hsv hz hsz hl h0 hb0 hb1
  have hb1 : decide ((0 : Int) ≤ (B : Int)) = true := decide_eq_true (Int.natCast_nonneg B)
  generalize six B = SX at *
  replace cW := Lib.hid cW
  replace cR := Lib.hid cR
  replace cWr := Lib.hid cWr
  replace cLn := Lib.hid cLn
  replace cBt := Lib.hid cBt
  replace cSv := Lib.hid cSv
  replace cMs := Lib.hid cMs
  replace hbS := Lib.hid hbS
  replace hb63 := Lib.hid hb63
  go_enter Tryd.func10, Tryd.ntmps10
  go_upto_region 3 with (go_at_call 12; refine cR.out.mono ?_; rintro e w2 ⟨rfl, hb2⟩; have x2 := (Ext.refl hw).step hb2 (hw.below hb2))
  clear hb2
  go_upto_region 4 with (go_at_call 14; go_must (refine (cWr.out _ H _ x2.holds hs).mono ?_); rintro e w3 ⟨rfl, hb3⟩; have x3 := x2.step (hb3.mono x2.below.size) (x2.holds.below hb3))
  clear x2 hb3
  go_upto_region 5 with (go_at_call 19; go_must (refine (cLn.out _ H _ x3.holds hs).mono ?_); rintro e w4 ⟨v4, H4, rfl, y4, o4⟩; obtain ⟨a4, c4, rfl, _, _⟩ := o4.form; have x4 := x3.trans y4; have s4 := hs.mono (x4.le hw))
  clear x3 y4 o4 hs
  go_upto_region 6 with (go_at_call 22; go_must (refine (cBt.out _ H4 _ x4.holds s4).mono ?_); rintro e w5 ⟨rfl, hb5⟩; have x5 := x4.step (hb5.mono x4.below.size) (x4.holds.below hb5))
  clear x4 hb5
  go_upto_region 7 with (first | (have hgd := sB; clear hgd; go_at_call 30; go_must (refine (cSv.out vB HB _ xB2.holds sB).mono ?_); rintro e w6 ⟨rfl, hb6⟩; have x6 := (x5.trans xB2).step (hb6.mono (x5.trans xB2).below.size) (xB2.holds.below hb6); have s6 := s4.mono (xB2.le x5.holds)) | (have hgd := hmark; clear hgd; at_builtin; go_must (refine wpList_appX (w0 := w5) (H0 := H4) eStr rfl _ _ rfl ((Ext.refl x5.holds).alloc _) rfl (Own.emptyAt (heap_alloc_new _ _) (Nat.le_refl _) (x5.holds.none_of_ge (Nat.le_refl _))) rfl s4 hbS.out hb63.out ?_); intro vB wB oB xB hwB hgB; rw [List.nil_append] at oB; obtain ⟨HB, xB2, _, sB, _⟩ := oB.close xB; clear hmark xB oB hwB hgB))
  clear x5 sB xB2 hb6 s4
  go_wp2_with (first | ((have hgd := x7; clear hgd; go_at_call 13; go_must (refine (cW.out HB _ x7.holds).mono ?_); rintro e w8 ⟨rfl, hb8⟩)) | ((go_at_call 21; go_must (refine (cMs.out _ HB _ x6.holds s6).mono ?_); rintro e w7 ⟨rfl, hb7⟩; have x7 := x6.step (hb7.mono x6.below.size) (x6.holds.below hb7))))
  go_ret
  exact ⟨rfl, x7.below.trans (hb8.mono x7.below.size)⟩
end Go.Proofs.YthcfhmebikcfpaaDoor

namespace Go.Proofs.YthcfhmebikcfpaaDoor
open Go.ChangeShapes Go.WideShapes Go.ChangeAt Go.RowKit

theorem nightLong_own : ownKnob Tryd.prog.godebug = none := by kernel_rfl
theorem nightLong_laid : laidOutB Tryd.prog = true := by kernel_rfl

set_option maxHeartbeats 1600000 in
set_option maxRecDepth 100000 in
theorem nightLong_lifted (os : Os) (started : os.Started) (H : Type) (enc : TypeId × Value → H) :
    ReturnsInHanded {} Tryd.checked os 10 .any (fun w args => (Rows.nightLongSpec.pre enc Tryd.prog Tryd.f10 [] false w args ∧ laidMetH Tryd.prog laidN w) ∧ sizedMet enc Tryd.prog Tryd.f10 (OpenSpec.ofChange Rows.nightLongSpec) false w args)
      (Rows.nightLongSpec.post enc Tryd.prog Tryd.f10 false true false false) := by
  refine returnsInHanded_of_change_and (C := Tryd.checked) (X := fun w _ => laidMetH Tryd.prog laidN w) (fun _ _ _ hh h => h.of_heap hh) nightLong_own started (by kernel_rfl) Tryd.func10
    (ChangeSpec.witness_shaped (enc := enc) (C := Tryd.checked) (os := os) (X := fun w _ => laidMetH Tryd.prog laidN w) false (doorN os) #[.slice none 0 0] 8 rfl (door_shaped os _) (by kernel_rfl) (by kernel_rfl) (by kernel_rfl) (door_met os _)) ?_
  intro W base args ds gs before hval0 hW _ hsz _ _
  have hval : ∀ (j : Nat) t v, Tryd.f10.params[j]? = some t → args[j]? = some v → Value.okWide Tryd.prog W .any base t v := hval0
  have hW' := hW
  obtain ⟨p, q, hA0, hV, rfl, _, _⟩ := hW
  have hA : DataW.TrodAll enc Tryd.prog W 0 (fun _ => true) true Tryd.f10.params.toList args.toList ds p := hA0
  have hS : (DataW.weightsEach Tryd.prog (Tryd.f10.params.toList ++ []) (ds ++ gs)).all (· ≤ reachBytes) = true := hsz
  rw [Tryd.params10] at hA hval hS
  obtain ⟨v0, d0, rfl, rfl, h0⟩ := trodAll_one hA
  obtain ⟨rfl, rfl⟩ := trodVars_none hV
  clear hA0 hval0 hsz
  simp only [List.append_nil] at hW' hS
  have hlt : ∀ x ∈ p, x.block < W.heap.size := fun x hx => by simpa using hW'.lt x hx
  have harg0 : ∀ W', Below W.heap.size W W' → DataW.Trod enc Tryd.prog W' 0 (fun b => decide (b < W.heap.size)) true 22 v0 d0 p := fun W' hb =>
    Below.trod nightLong_laid (by kernel_rfl) (of_decide_eq_true (by kernel_rfl)) h0 hb (fun x hx => hlt x (hx))
  have hw0 : ∀ k ∈ d0.weights Tryd.prog 22, k ≤ reachBytes := fun k hk => by
    simpa using List.all_eq_true.1 hS k (DataW.weights_mem_each (j := 0) rfl rfl k hk)
  obtain ⟨a0, l0, c0, rfl⟩ := okWide_slice Tryd.underlying22 (hval 0 22 v0 rfl rfl)
  obtain ⟨n0, h0'⟩ := h0
  obtain ⟨xs0, hx0⟩ := texts_opened (by simpa [Value.cells] using h0') hw0
  refine (nightLong_any _ xs0 (snapOf W) W (snapOf_holds W) hx0).mono fun e W' ⟨he, hb⟩ => ?_
  subst he
  refine ⟨_, rfl, _, _, _, [], _, [], hW', ?_, trodAll_mk1 (harg0 W' hb), rfl, hb.frame _, fun h => by cases h⟩
  exact trodAll_mk1 (shut_bool Tryd.underlying4 _)

theorem nightLong_said : Rows.NightLongSaid :=
  OpenClaim.holds_of_wide 10 Tryd.f10 rfl rfl rfl rfl rfl rfl rfl ⟨rfl, rfl, rfl, rfl, rfl⟩ rfl rfl rfl rfl rfl (by kernel_rfl) Tryd.func10 (by kernel_rfl)
    (of_decide_eq_true (by kernel_rfl)) (by unfold Func.isWrapper; first | (rw [if_pos (by decide +kernel)]; kernel_rfl) | (rw [if_neg (by decide +kernel)]; exact ⟨rfl, rfl⟩))
    (fun os started H enc _ => nightLong_lifted os started H enc)
theorem nightLong_card : Rows.NightLongCardSaid :=
  Claim7.holds_tied_plain_at .later [] [.data, .pinned] true (true, "939a424db51006e050b52def13aedbed6d4c52175fd3e7427ddbb41609789fdc") false
    nightLong_said (fun _ h => by cases h) (by kernel_rfl) (fun _ h => by cases h) nightLong_row_tie rfl ⟨rfl, rfl⟩ (by kernel_rfl) rfl
    (fun f fn hf hfn => by
      obtain rfl : f = 10 := Option.some.inj ((show Tryd.prog.funcNamed "flong/flonglaw14.NightLong" = some 10 by kernel_rfl).symm.trans hf) |>.symm
      obtain rfl : fn = Tryd.f10 := (Option.some.inj (Tryd.func10.symm.trans hfn)).symm
      exact ⟨by kernel_rfl, fun j t ht => by
        rw [Tryd.params10] at ht
        have hm : t ∈ [22] := by simpa using Array.mem_of_getElem? ht
        have hall : ([22].all fun u => !Tryd.prog.wantsStandIn u) = true := by kernel_rfl
        exact (show Tryd.prog.wantsStandIn t = false by simpa using List.all_eq_true.1 hall t hm)⟩)
    (by kernel_rfl)
end Go.Proofs.YthcfhmebikcfpaaDoor
