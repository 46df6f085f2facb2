/- Lemmas and walks on which the claims of this seat lean: NGj NGn Open2 NOpen NOpn2 NDoor NOrdP. -/
import Derived.Test.YthcfhmebikcfpaaGreatDoorG01
import Derived.Test.YthcfhmebikcfpaaGreatDoorG02
import Derived.Test.YthcfhmebikcfpaaGreatDoorG10
import Derived.Test.YthcfhmebikcfpaaGreatDoorG13
import Derived.Test.YthcfhmebikcfpaaGreatDoorG14
import Derived.Test.YthcfhmebikcfpaaGreatDoorG15
import Derived.Test.YthcfhmebikcfpaaGreatDoorG17
import Derived.Deep.Slices
import Derived.SizedLaws
import Derived.OpenShut
import Derived.Lib.SmallJoins
import Derived.Deep.Strs
import Derived.Test.YthcfhmebikcfpaaGreatDoorRows
import Derived.ProofKit
import Derived.LaidMore
import Derived.Stop.Joined

set_option linter.all false

namespace Go.Proofs.YthcfhmebikcfpaaGreatDoor
open Go.RowKit

attribute [local go_sem] Holds.drew Holds.alloc Holds.drewN WB.holds Oper.semAt_some

theorem lenC_any : LenC := fun s F H W hW => by
  have hsz : s.size ≤ 986 := by rw [← bys_len]; exact F.2
  have h1 := wts_few F.1
  have h := lengthsOf14_walk s (wtsA (bys s)) (by omega) (fun p hp => by
    obtain ⟨c, _, _, rfl⟩ := wts_mem hp
    exact Int.natCast_nonneg _) (by have := wsA_sum (bys s); have h2 := F.2; show (wsA (bys s)).sum ≤ 100000; omega) (fun W' H' h' => weightsOf14_any s (by omega) H' W' h') H W hW
  rw [lensOf_wts] at h
  exact h

set_option maxRecDepth 100000 in
theorem lengthsT14_any (v : Value) (l : List ByteArray) (H : Snap) (w : World) (hw : Holds H w) (hs : Sl H v l) :
    Calls Tryz.prog 14 #[v] w (PostOE w H 47 (lensR l) (areE l)) := by
  have hc := areTexts14_any v l H w hw hs
  by_cases h : areE l = 0
  · have e : lensR l = lensA (msgOf l) := by unfold lensR; rw [if_pos h]
    have hl := (areE_zero h).1
    have hz := areE_size h
    have F := msg_ok h
    have hl3 : (lensA (msgOf l)).length ≤ 96 := by rw [lensA_len]; exact wts_few F.1
    have hmsg : ∀ W, Holds H W → Calls Tryz.prog 42 #[v] W (PostV W (.string (strB (msgOf l)))) := fun W hW => message14_any _ l H W hW hs (by omega) hz
    have hL : ∀ W, Holds H W → Calls Tryz.prog 44 #[.string (strB (msgOf l))] W (PostO W H 47 (lensA (msgOf l))) := fun W hW => lenC_any (strB (msgOf l)) F H W hW
    replace hL := Lib.hid hL
    rw [h] at hc
    rw [e, h]
    clear e h
    replace hc := Lib.hid hc
    replace hmsg := Lib.hid hmsg
    go_enter Tryz.func14, Tryz.ntmps14
    go_wp2_with (first | ((have hgd := hw3; clear hgd; go_at_call 44; go_must (refine (hL.out _ hw3).mono ?_); rintro e w4 ⟨v4, H4, rfl, x4, o4⟩)) | ((have hgd := hw2; clear hgd; go_at_call 42; go_must (refine (hmsg.out _ hw2).mono ?_); rintro e w3 ⟨rfl, hb3⟩; have hw3 := hw2.below hb3; have x3 := x2.step (hb3.mono x2.below.size) hw3)) | ((go_at_call 37; refine hc.out.mono ?_; rintro e w2 ⟨rfl, hb2⟩; have hw2 := hw.below hb2; have x2 := (Ext.refl hw).step hb2 hw2)))
    go_ret2
    exact ⟨v4, H4, rfl, x3.trans x4, o4.weaken x3.below.size⟩
  · have e : lensR l = [] := by unfold lensR; rw [if_neg h]
    have hb : (areE l == 0) = false := by rw [beq_eq_false_iff_ne]; exact h
    have hb2 : (areE l != 0) = true := by rw [bne_iff_ne]; exact h
    rw [e]
    generalize areE l = n at *
    clear e h
    replace hc := Lib.hid hc
    go_enter Tryz.func14, Tryz.ntmps14
    go_wp2_with (first | ((go_at_call 37; refine hc.out.mono ?_; rintro e w2 ⟨rfl, hb2⟩; have hw2 := hw.below hb2; have x2 := (Ext.refl hw).step hb2 hw2)))
    go_ret2
    exact ⟨_, H, rfl, x2, Own.nil _ _ _ _⟩

set_option maxRecDepth 100000 in
theorem bitsT14_any (v : Value) (l : List ByteArray) (H : Snap) (w : World) (hw : Holds H w) (hs : Sl H v l) :
    Calls Tryz.prog 18 #[v] w (PostV w (.tuple #[.int .i64 (bitsR l), .int .i64 (areE l)])) := by
  have hc := areTexts14_any v l H w hw hs
  by_cases h : areE l = 0
  · have e : bitsR l = ((bitsA (lensA (msgOf l)) (msgOf l)).length : Int) := by unfold bitsR; rw [if_pos h]
    have hl := (areE_zero h).1
    have hz := areE_size h
    have F := msg_ok h
    have hl3 : (lensA (msgOf l)).length ≤ 96 := by rw [lensA_len]; exact wts_few F.1
    have hmsg : ∀ W, Holds H W → Calls Tryz.prog 42 #[v] W (PostV W (.string (strB (msgOf l)))) := fun W hW => message14_any _ l H W hW hs (by omega) hz
    have hL : ∀ W, Holds H W → Calls Tryz.prog 44 #[.string (strB (msgOf l))] W (PostO W H 47 (lensA (msgOf l))) := fun W hW => lenC_any (strB (msgOf l)) F H W hW
    replace hL := Lib.hid hL
    have hB : ∀ (u : Value) (H' : Snap) (W : World), Holds H' W → Sl H' u (lensA (msgOf l)) → Calls Tryz.prog 45 #[.string (strB (msgOf l)), u] W (PostV W (.int .i64 ((bitsA (lensA (msgOf l)) (msgOf l)).length : Int))) := fun u H' W h1 h2 => by
      have hk := bitsOf14_any (strB (msgOf l)) (show (msgOf l).length ≤ 100000 by have := F.2; omega) u (lensA (msgOf l)) (by omega) F.b15 H' W h1 h2
      rw [show bys (strB (msgOf l)) = msgOf l from rfl, bitsOf_lens F] at hk
      exact hk
    replace hB := Lib.hid hB
    rw [h] at hc
    rw [e, h]
    clear e h
    replace hc := Lib.hid hc
    replace hmsg := Lib.hid hmsg
    go_enter Tryz.func18, Tryz.ntmps18
    go_wp2_with (first | ((have hgd := s5; clear hgd; go_at_call 45; go_must (refine (hB.out _ H5 _ x5.holds s5).mono ?_); rintro e w6 ⟨rfl, hb6⟩; have x6 := x5.below.trans (hb6.mono x5.below.size))) | ((have hgd := hw3; clear hgd; go_at_call 44; go_must (refine (hL.out _ hw3).mono ?_); rintro e w4 ⟨v4, H4, rfl, x4, o4⟩; obtain ⟨H5, x5', _, s5, _⟩ := o4.close x4; have x5 := x3.trans x5')) | ((have hgd := hw2; clear hgd; go_at_call 42; go_must (refine (hmsg.out _ hw2).mono ?_); rintro e w3 ⟨rfl, hb3⟩; have hw3 := hw2.below hb3; have x3 := x2.step (hb3.mono x2.below.size) hw3)) | ((go_at_call 37; refine hc.out.mono ?_; rintro e w2 ⟨rfl, hb2⟩; have hw2 := hw.below hb2; have x2 := (Ext.refl hw).step hb2 hw2)))
    go_ret2
    exact ⟨rfl, x6⟩
  · have e : bitsR l = 0 := by unfold bitsR; rw [if_neg h]
    have hb : (areE l == 0) = false := by rw [beq_eq_false_iff_ne]; exact h
    have hb2 : (areE l != 0) = true := by rw [bne_iff_ne]; exact h
    rw [e]
    generalize areE l = n at *
    clear e h
    replace hc := Lib.hid hc
    go_enter Tryz.func18, Tryz.ntmps18
    go_wp2_with (first | ((go_at_call 37; refine hc.out.mono ?_; rintro e w2 ⟨rfl, hb2⟩; have hw2 := hw.below hb2; have x2 := (Ext.refl hw).step hb2 hw2)))
    go_ret2
    exact ⟨rfl, x2.below⟩

set_option maxRecDepth 100000 in
theorem writeT14_any (v : Value) (l : List ByteArray) (H : Snap) (w : World) (hw : Holds H w) (hs : Sl H v l) :
    Calls Tryz.prog 9 #[v] w (PostV w (.tuple #[.string (fileR l), .int .i64 (areE l)])) := by
  have hc := areTexts14_any v l H w hw hs
  by_cases h : areE l = 0
  · have e : fileR l = strB (fileA l) := by unfold fileR; rw [if_pos h]
    have hl := (areE_zero h).1
    have hz := areE_size h
    have F := msg_ok h
    have hl3 : (lensA (msgOf l)).length ≤ 96 := by rw [lensA_len]; exact wts_few F.1
    have hmsg : ∀ W, Holds H W → Calls Tryz.prog 42 #[v] W (PostV W (.string (strB (msgOf l)))) := fun W hW => message14_any _ l H W hW hs (by omega) hz
    have hF : ∀ W, Holds H W → Calls Tryz.prog 38 #[v] W (PostV W (.string (strB (fileA l)))) := fun W hW => fileof14_any lenC_any v l h H W hW hs
    replace hF := Lib.hid hF
    rw [h] at hc
    rw [e, h]
    clear e h
    replace hc := Lib.hid hc
    replace hmsg := Lib.hid hmsg
    go_enter Tryz.func9, Tryz.ntmps9
    go_wp2_with (first | ((have hgd := hw2; clear hgd; go_at_call 38; go_must (refine (hF.out _ hw2).mono ?_); rintro e w6 ⟨rfl, hb6⟩; have x6 := x2.below.trans (hb6.mono x2.below.size))) | ((go_at_call 37; refine hc.out.mono ?_; rintro e w2 ⟨rfl, hb2⟩; have hw2 := hw.below hb2; have x2 := (Ext.refl hw).step hb2 hw2)))
    go_ret2
    exact ⟨rfl, x6⟩
  · have e : fileR l = ⟨#[]⟩ := by unfold fileR; rw [if_neg h]
    have hb : (areE l == 0) = false := by rw [beq_eq_false_iff_ne]; exact h
    have hb2 : (areE l != 0) = true := by rw [bne_iff_ne]; exact h
    rw [e]
    generalize areE l = n at *
    clear e h
    replace hc := Lib.hid hc
    go_enter Tryz.func9, Tryz.ntmps9
    go_wp2_with (first | ((go_at_call 37; refine hc.out.mono ?_; rintro e w2 ⟨rfl, hb2⟩; have hw2 := hw.below hb2; have x2 := (Ext.refl hw).step hb2 hw2)))
    go_ret2
    exact ⟨rfl, x2.below⟩

set_option maxRecDepth 100000 in
theorem savesT14_any (v : Value) (l : List ByteArray) (H : Snap) (w : World) (hw : Holds H w) (hs : Sl H v l) :
    Calls Tryz.prog 20 #[v] w (PostV w (.tuple #[.int .i64 (savesR l), .int .i64 (areE l)])) := by
  have hc := areTexts14_any v l H w hw hs
  by_cases h : areE l = 0
  · have e : savesR l = ((msgOf l).length : Int) - ((fileA l).length : Int) := by unfold savesR; rw [if_pos h]
    have hl := (areE_zero h).1
    have hz := areE_size h
    have F := msg_ok h
    have hl3 : (lensA (msgOf l)).length ≤ 96 := by rw [lensA_len]; exact wts_few F.1
    have hmsg : ∀ W, Holds H W → Calls Tryz.prog 42 #[v] W (PostV W (.string (strB (msgOf l)))) := fun W hW => message14_any _ l H W hW hs (by omega) hz
    have hF : ∀ W, Holds H W → Calls Tryz.prog 38 #[v] W (PostV W (.string (strB (fileA l)))) := fun W hW => fileof14_any lenC_any v l h H W hW hs
    replace hF := Lib.hid hF
    have hs1 : (strB (msgOf l)).size = (msgOf l).length := rfl
    have hs2 : (strB (fileA l)).size = (fileA l).length := rfl
    have hfl := (file_le h).1
    have hml := msgOf_len h
    have hwr : wrap64 (((msgOf l).length : Int) - ((fileA l).length : Int)) = ((msgOf l).length : Int) - ((fileA l).length : Int) := wrap64_in _ (by omega) (by omega)
    clear hfl hml
    rw [h] at hc
    rw [e, h]
    clear e h
    replace hc := Lib.hid hc
    replace hmsg := Lib.hid hmsg
    go_enter Tryz.func20, Tryz.ntmps20
    go_wp2_with (first | ((have hgd := hw3; clear hgd; go_at_call 38; go_must (refine (hF.out _ hw3).mono ?_); rintro e w6 ⟨rfl, hb6⟩; have x6 := x3.below.trans (hb6.mono x3.below.size))) | ((have hgd := hw2; clear hgd; go_at_call 42; go_must (refine (hmsg.out _ hw2).mono ?_); rintro e w3 ⟨rfl, hb3⟩; have hw3 := hw2.below hb3; have x3 := x2.step (hb3.mono x2.below.size) hw3)) | ((go_at_call 37; refine hc.out.mono ?_; rintro e w2 ⟨rfl, hb2⟩; have hw2 := hw.below hb2; have x2 := (Ext.refl hw).step hb2 hw2)))
    go_ret2
    first
    | exact ⟨rfl, x6⟩
    | exact ⟨congrArg (fun n => Ending.returned (.tuple #[.int .i64 n, .int .i64 0])) hwr, x6⟩
  · have e : savesR l = 0 := by unfold savesR; rw [if_neg h]
    have hb : (areE l == 0) = false := by rw [beq_eq_false_iff_ne]; exact h
    have hb2 : (areE l != 0) = true := by rw [bne_iff_ne]; exact h
    rw [e]
    generalize areE l = n at *
    clear e h
    replace hc := Lib.hid hc
    go_enter Tryz.func20, Tryz.ntmps20
    go_wp2_with (first | ((go_at_call 37; refine hc.out.mono ?_; rintro e w2 ⟨rfl, hb2⟩; have hw2 := hw.below hb2; have x2 := (Ext.refl hw).step hb2 hw2)))
    go_ret2
    exact ⟨rfl, x2.below⟩
end Go.Proofs.YthcfhmebikcfpaaGreatDoor

namespace Go.Proofs.YthcfhmebikcfpaaGreatDoor
open Go.RowKit
attribute [local go_sem] Holds.drew Holds.alloc Holds.drewN WB.holds Oper.semAt_some

set_option maxRecDepth 100000 in
set_option maxHeartbeats 1000000 in
theorem read14_any (s : ByteArray) (H : Snap) (w : World) (hw : Holds H w) :
    Calls Tryz.prog 22 #[.string s] w (PostOE w H 9 (readA (bys s)).1 (readA (bys s)).2) := by
  have hp := form14_any s H w hw
  cases hf : formA (bys s) with
  | none =>
    rw [readA_none hf]
    rw [hf] at hp
    replace hp := Lib.hid hp
    clear hf
    go_enter Tryz.func22, Tryz.ntmps22
    go_wp2_with (first | ((go_at_call 48; refine hp.out.mono ?_; rintro e w2 ⟨rfl, hb2⟩)))
    go_ret2
    exact ⟨_, H, rfl, (Ext.refl hw).step hb2 (hw.below hb2), Own.nil _ _ _ _⟩
  | some f =>
    obtain ⟨hm, hl, hrs, hall⟩ := formA_some hf
    rw [hf] at hp
    have hrd : ∀ (W : World) (H' : Snap) (v : Value), Holds H' W → Sl H' v f.l → Calls Tryz.prog 49 #[.int .i64 (f.many : Int), v, .string (strB (unsix f.rest))] W (TextsPost W H' (textsA f.many f.l (unsix f.rest))) := fun W H' v h1 h2 => texts14_any f.many hm v f.l hl (strB (unsix f.rest)) (by rw [strB_len, unsix_len]; omega) H' W h1 h2
    cases ht : textsA f.many f.l (unsix f.rest) with
    | none =>
      rw [readA_bits hf ht]
      rw [ht] at hrd
      replace hp := Lib.hid hp
      replace hrd := Lib.hid hrd
      clear hf ht hall hm hl hrs
      go_enter Tryz.func22, Tryz.ntmps22
      go_wp2_with (first | ((have hgd := x2; clear hgd; go_at_call 49; go_must (refine (hrd.out _ H2 _ x2.holds s2).mono ?_); rintro e w4 ⟨rfl, hb4⟩)) | ((go_at_call 48; refine hp.out.mono ?_; rintro e w2 ⟨v2, H2, rfl, x2, s2⟩; obtain ⟨a2, c2, rfl, _, _⟩ := s2.form)))
      go_ret2
      exact ⟨_, H, rfl, ⟨x2.below.trans (hb4.mono x2.below.size), (x2.old hw).below hb4, fun _ _ => rfl⟩, Own.nil _ _ _ _⟩
    | some out =>
      rw [ht] at hrd
      obtain ⟨R, hR⟩ : ∃ R, R = readA (bys s) := ⟨_, rfl⟩
      rw [← hR]
      have cA : ∀ (v : Value) (H' : Snap) (W : World), Holds H' W → Sl H' v out → Calls Tryz.prog 37 #[v] W (PostV W (.int .i64 (areE out))) := fun v H' W h1 h2 => areTexts14_any v out H' W h1 h2
      by_cases h0 : areE out = 0
      · have cF : ∀ (v : Value) (H' : Snap) (W : World), Holds H' W → Sl H' v out → Calls Tryz.prog 38 #[v] W (PostV W (.string (strB (fileA out)))) := fun v H' W h1 h2 => fileof14_any lenC_any v out h0 H' W h1 h2
        have hyes : strB (fileA out) = s → R = (out, 0) := fun h => by rw [hR]; exact readA_yes hf ht ⟨h0, by rw [← h]; rfl⟩
        have hno : ¬ strB (fileA out) = s → R = ([], 142) := fun h => by rw [hR]; exact readA_code hf ht (fun h1 => h (by rw [h1.2]; rfl))
        rw [h0] at cA
        replace cA := Lib.hid cA
        replace cF := Lib.hid cF
        replace hp := Lib.hid hp
        replace hrd := Lib.hid hrd
        clear hf ht hall hm hl hrs hR
        generalize strB (fileA out) = q at *
        by_cases hq : q = s
        · have hRy := hyes hq
          subst hRy
          subst hq
          have hb1 : (q == q) = true := beq_bytes_self q
          have hb2 : (q != q) = false := by unfold bne; rw [hb1]; rfl
          have hb3 : (q.toList == q.toList) = true := by simp
          have hb4 : (q.toList != q.toList) = false := by unfold bne; rw [hb3]; rfl
          clear hyes hno
          go_enter Tryz.func22, Tryz.ntmps22
          go_wp2_with (first | ((have hgd := x6; clear hgd; go_at_call 38; go_must (refine (cF.out _ H5 _ x6.holds s5).mono ?_); rintro e w7 ⟨rfl, hb7⟩; have x7 := x6.step (hb7.mono x6.below.size) (x6.holds.below hb7); have o7 := o6.ext x4h6 ⟨hb7, x4h6.below hb7, fun _ _ => rfl⟩; have x47 := x46.step (hb7.mono x46.below.size) (x4h6.below hb7))) | ((have hgd := s5; clear hgd; go_at_call 37; go_must (refine (cA.out _ H5 _ x5.holds s5).mono ?_); rintro e w6 ⟨rfl, hb6⟩; have x6 := x5.step (hb6.mono x5.below.size) (x5.holds.below hb6); have o6 := o4.ext x4.holds ⟨hb6, x4.holds.below hb6, fun _ _ => rfl⟩; have x46 := x4.step (hb6.mono x4.below.size) (x4.holds.below hb6); have x4h6 := x46.holds)) | ((have hgd := x2; clear hgd; go_at_call 49; go_must (refine (hrd.out _ H2 _ x2.holds s2).mono ?_); rintro e w4 ⟨v4, H4, rfl, x4, o4⟩; obtain ⟨H5, x5, _, s5, _⟩ := o4.close x4; obtain ⟨a4, c4, rfl, _, _⟩ := o4.form)) | ((go_at_call 48; refine hp.out.mono ?_; rintro e w2 ⟨v2, H2, rfl, x2, s2⟩; obtain ⟨a2, c2, rfl, _, _⟩ := s2.form)))
          go_ret2
          exact ⟨_, H4, rfl, x2.trans x47, o7.weaken x2.below.size⟩
        · have hRn := hno hq
          subst hRn
          have hb1 := beq_bytes_ne hq
          have hb2 : (q != s) = true := by unfold bne; rw [hb1]; rfl
          have hb3 : (q.toList == s.toList) = false := by
            rw [ByteArray.toList_eq, ByteArray.toList_eq, beq_eq_false_iff_ne]
            exact fun e => hq (bytes_of_list e)
          have hb4 : (q.toList != s.toList) = true := by unfold bne; rw [hb3]; rfl
          clear hyes hno hq
          go_enter Tryz.func22, Tryz.ntmps22
          go_wp2_with (first | ((have hgd := x6; clear hgd; go_at_call 38; go_must (refine (cF.out _ H5 _ x6.holds s5).mono ?_); rintro e w7 ⟨rfl, hb7⟩; have x7 := x6.step (hb7.mono x6.below.size) (x6.holds.below hb7))) | ((have hgd := s5; clear hgd; go_at_call 37; go_must (refine (cA.out _ H5 _ x5.holds s5).mono ?_); rintro e w6 ⟨rfl, hb6⟩; have x6 := x5.step (hb6.mono x5.below.size) (x5.holds.below hb6))) | ((have hgd := x2; clear hgd; go_at_call 49; go_must (refine (hrd.out _ H2 _ x2.holds s2).mono ?_); rintro e w4 ⟨v4, H4, rfl, x4, o4⟩; obtain ⟨H5, x5, _, s5, _⟩ := o4.close x4; obtain ⟨a4, c4, rfl, _, _⟩ := o4.form)) | ((go_at_call 48; refine hp.out.mono ?_; rintro e w2 ⟨v2, H2, rfl, x2, s2⟩; obtain ⟨a2, c2, rfl, _, _⟩ := s2.form)))
          go_ret2
          exact ⟨_, _, rfl, x2.trans x7, Own.nil _ _ _ _⟩
      · have hRn : R = ([], 142) := by rw [hR]; exact readA_code hf ht (fun h => h0 h.1)
        subst hRn
        replace hp := Lib.hid hp
        replace hrd := Lib.hid hrd
        clear hf ht hall hm hl hrs hR
        generalize areE out = n at *
        have hn1 : (n == 0) = false := beq_eq_false_iff_ne.2 h0
        have hn2 : (n != 0) = true := bne_iff_ne.2 h0
        replace cA := Lib.hid cA
        clear h0
        go_enter Tryz.func22, Tryz.ntmps22
        go_wp2_with (first | ((have hgd := s5; clear hgd; go_at_call 37; go_must (refine (cA.out _ H5 _ x5.holds s5).mono ?_); rintro e w6 ⟨rfl, hb6⟩; have x6 := x5.step (hb6.mono x5.below.size) (x5.holds.below hb6))) | ((have hgd := x2; clear hgd; go_at_call 49; go_must (refine (hrd.out _ H2 _ x2.holds s2).mono ?_); rintro e w4 ⟨v4, H4, rfl, x4, o4⟩; obtain ⟨H5, x5, _, s5, _⟩ := o4.close x4; obtain ⟨a4, c4, rfl, _, _⟩ := o4.form)) | ((go_at_call 48; refine hp.out.mono ?_; rintro e w2 ⟨v2, H2, rfl, x2, s2⟩; obtain ⟨a2, c2, rfl, _, _⟩ := s2.form)))
        go_ret2
        exact ⟨_, _, rfl, x2.trans x6, Own.nil _ _ _ _⟩

set_option maxRecDepth 100000 in
theorem state14_any (s : ByteArray) (H : Snap) (w : World) (hw : Holds H w) : Calls Tryz.prog 28 #[.string s] w (PostV w (.int .i64 (stateA (bys s)))) := by
  have hc := read14_any s H w hw
  unfold stateA
  rcases readA_err (bys s) with h | h | h | h
  all_goals
    rw [h] at hc ⊢
    generalize (readA (bys s)).1 = l at *
    clear h
    replace hc := Lib.hid hc
    go_enter Tryz.func28, Tryz.ntmps28
    go_wp2_with (first | ((go_at_call 22; refine hc.out.mono ?_; rintro e w2 ⟨v2, H2, rfl, x2, o2⟩)))
    go_ret
    exact ⟨rfl, x2.below⟩


set_option maxRecDepth 100000 in
theorem add14_any (s t : ByteArray) (ht : t.size ≤ 1000000) (H : Snap) (w : World) (hw : Holds H w) : Calls Tryz.prog 24 #[.string s, .string t] w (PostV w (.tuple #[.string (addR s t), .int .i64 (addE s t)])) := by
  have hc := read14_any s H w hw
  obtain ⟨hl, hsz⟩ := readA_sizes (s := bys s)
  by_cases h : (readA (bys s)).2 = 0
  · have e1 : addR s t = fileR ((readA (bys s)).1 ++ [t]) := by unfold addR; rw [if_pos h]
    have e2 : addE s t = areE ((readA (bys s)).1 ++ [t]) := by unfold addE; rw [if_pos h]
    rw [e1, e2]
    rw [h] at hc
    generalize (readA (bys s)).1 = l at *
    have hz : ∀ x ∈ l ++ [t], x.size ≤ 1000000 := fun x hx => by
      rcases List.mem_append.1 hx with hx | hx
      · have := hsz x hx; omega
      · rw [List.mem_singleton.1 hx]; exact ht
    have hwr : ∀ (v : Value) (H' : Snap) (W : World), Holds H' W → Sl H' v (l ++ [t]) → Calls Tryz.prog 9 #[v] W (PostV W (.tuple #[.string (fileR (l ++ [t])), .int .i64 (areE (l ++ [t]))])) := fun v H' W h1 h2 => writeT14_any v (l ++ [t]) H' W h1 h2
    generalize fileR (l ++ [t]) = q at *
    generalize areE (l ++ [t]) = n at *
    have hrep : Enc.rep H t [.string t] := ⟨rfl, by omega⟩
    have hbS : (l.length + 1) * Enc.by_ ByteArray ≤ 140737488355328 := by simp only [Enc.by_]; omega
    have hb63 : l.length + 1 ≤ 9223372036854775807 := by omega
    have hbL : (([] : List ByteArray).length + l.length) * Enc.by_ ByteArray ≤ 140737488355328 := by simp only [Enc.by_, List.length_nil]; omega
    have hbM : ([] : List ByteArray).length + l.length ≤ 9223372036854775807 := by simp only [List.length_nil]; omega
    replace hbL := Lib.hid hbL
    replace hbM := Lib.hid hbM
    clear e1 e2 h hsz hz hl ht
    replace hrep := Lib.hid hrep
    replace hbS := Lib.hid hbS
    replace hb63 := Lib.hid hb63
    replace hc := Lib.hid hc
    replace hwr := Lib.hid hwr
    go_enter Tryz.func24, Tryz.ntmps24
    go_wp2_with (first | ((have hgd := s4; clear hgd; go_at_call 9; go_must (refine (hwr.out _ H4 _ x4.holds s4).mono ?_); rintro e w6 ⟨rfl, hb6⟩)) | ((at_builtin; have hgd := x3; clear hgd; go_must (refine wpList_app1 (c := 1) (cs := [.string t]) eStr rfl _ _ rfl rfl o3 rfl ⟨rfl, hrep.out.2⟩ x3.holds hbS.out hb63.out x3.below.size ?_); intro v5 w5 o5 g5 hw5 _; have x5 := (x3.alloc _).grown g5 (fun k hk => (o3.lt k hk).1) (fun k hk => o3.free k hk); obtain ⟨H4, x4, _, s4, _⟩ := o5.close x5)) | ((at_builtin; go_must (refine wpList_appX (w0 := w) (H0 := H) eStr rfl _ _ rfl (xe.alloc _) rfl (Own.emptyG rfl xe.holds xe.below.size) rfl s2 hbL.out hbM.out ?_); intro v3 w3 o3 x3 hw3 _; rw [List.nil_append] at o3)) | ((go_at_call 22; refine hc.out.mono ?_; rintro e w2 ⟨v2, H2, rfl, x2, o2⟩; obtain ⟨He, xe, _, s2, _⟩ := o2.close x2; obtain ⟨a2, c2, rfl, _, _⟩ := o2.form)))
    go_ret2
    exact ⟨rfl, x4.below.trans (hb6.mono x4.below.size)⟩
  · have e1 : addR s t = ⟨#[]⟩ := by unfold addR; rw [if_neg h]
    have e2 : addE s t = (readA (bys s)).2 := by unfold addE; rw [if_neg h]
    rw [e1, e2]
    generalize (readA (bys s)).1 = l at *
    generalize (readA (bys s)).2 = n at *
    have hn1 : (n == 0) = false := beq_eq_false_iff_ne.2 h
    have hn2 : (n != 0) = true := bne_iff_ne.2 h
    clear e1 e2 h hsz hl
    replace hc := Lib.hid hc
    go_enter Tryz.func24, Tryz.ntmps24
    go_wp2_with (first | ((go_at_call 22; refine hc.out.mono ?_; rintro e w2 ⟨v2, H2, rfl, x2, o2⟩)))
    go_ret2
    exact ⟨rfl, x2.below⟩


set_option maxRecDepth 100000 in
set_option maxHeartbeats 1000000 in
theorem cut14_any (s : ByteArray) (H : Snap) (w : World) (hw : Holds H w) : Calls Tryz.prog 26 #[.string s] w (PostV w (.tuple #[.string (cutR s), .int .i64 (cutE s)])) := by
  have hc := read14_any s H w hw
  obtain ⟨hl, hsz⟩ := readA_sizes (s := bys s)
  by_cases h : (readA (bys s)).2 = 0
  · by_cases h0 : (readA (bys s)).1 = []
    · have e1 : cutR s = ⟨#[]⟩ := by unfold cutR; rw [if_pos h, if_pos h0]
      have e2 : cutE s = 3 := by unfold cutE; rw [if_pos h, if_pos h0]
      rw [e1, e2]
      rw [h, h0] at hc
      clear e1 e2 h h0 hsz hl
      replace hc := Lib.hid hc
      go_enter Tryz.func26, Tryz.ntmps26
      go_wp2_with (first | ((go_at_call 22; refine hc.out.mono ?_; rintro e w2 ⟨v2, H2, rfl, x2, o2⟩; obtain ⟨a2, c2, rfl, _, _⟩ := o2.form)))
      go_ret2
      exact ⟨rfl, x2.below⟩
    · have e1 : cutR s = fileR (readA (bys s)).1.dropLast := by unfold cutR; rw [if_pos h, if_neg h0]
      have e2 : cutE s = areE (readA (bys s)).1.dropLast := by unfold cutE; rw [if_pos h, if_neg h0]
      rw [e1, e2]
      rw [h] at hc
      generalize (readA (bys s)).1 = l at *
      obtain ⟨k, hk⟩ : ∃ k, l.length = k + 1 := ⟨l.length - 1, by cases l with | nil => exact absurd rfl h0 | cons => simp⟩
      have hdl : l.dropLast = l.take k := by rw [List.dropLast_eq_take, hk]; rfl
      rw [hdl]
      have hz : ∀ x ∈ l.take k, x.size ≤ 1000000 := fun x hx => by have := hsz x (List.mem_of_mem_take hx); omega
      have hwr : ∀ (v : Value) (H' : Snap) (W : World), Holds H' W → Sl H' v (l.take k) → Calls Tryz.prog 9 #[v] W (PostV W (.tuple #[.string (fileR (l.take k)), .int .i64 (areE (l.take k))])) := fun v H' W h1 h2 => writeT14_any v (l.take k) H' W h1 h2
      have hcut : ∀ (H' : Snap) (a : Option Addr) (c : Nat), Sl H' (.slice a l.length c) l → Sl H' (.slice a k c) (l.take k) := fun H' a c hs => hs.take (by omega)
      have hlc : l.length ≤ 20 := hl
      obtain ⟨N, hN⟩ : ∃ N, N = l.length := ⟨_, rfl⟩
      have hw1 : wrap64 ((N : Int) - 1) = (k : Int) := by rw [show (N : Int) - 1 = (k : Int) by omega]; exact wrap64_in _ (by omega) (by omega)
      have hl0 : ¬ N = 0 := by omega
      have hl1 : ((N : Int) == 0) = false := beq_eq_false_iff_ne.2 (by omega)
      have hkl : k ≤ N := by omega
      have hk0 : (0 : Int) ≤ (k : Int) := by omega
      rw [← hN] at hcut
      generalize fileR (l.take k) = q at *
      generalize areE (l.take k) = n at *
      clear e1 e2 h h0 hsz hl hz hdl hk hlc
      replace hN := Lib.hid hN
      replace hcut := Lib.hid hcut
      replace hkl := Lib.hid hkl
      replace hc := Lib.hid hc
      replace hwr := Lib.hid hwr
      go_enter Tryz.func26, Tryz.ntmps26
      go_upto_region 6 with (first | (go_at_call 22; refine hc.out.mono ?_; rintro e w2 ⟨v2, H2, rfl, x2, o2⟩; obtain ⟨H4, x4, _, s4, _⟩ := o2.close x2; obtain ⟨a2, c2, hv2, hlc, _⟩ := o2.form; rw [← hN.out] at hv2 hlc; subst hv2; have hkc : (k : Int) ≤ (c2 : Int) := Int.ofNat_le.2 (Nat.le_trans hkl.out hlc)))
      clear hl0 hl1 hlc x2 o2
      go_wp2_with (first | ((have hgd := s4; clear hgd; go_at_call 9; go_must (refine (hwr.out _ H4 _ x4.holds (hcut.out _ _ _ s4)).mono ?_); rintro e w6 ⟨rfl, hb6⟩)))
      go_ret2
      exact ⟨rfl, x4.below.trans (hb6.mono x4.below.size)⟩
  · have e1 : cutR s = ⟨#[]⟩ := by unfold cutR; rw [if_neg h]
    have e2 : cutE s = (readA (bys s)).2 := by unfold cutE; rw [if_neg h]
    rw [e1, e2]
    generalize (readA (bys s)).1 = l at *
    generalize (readA (bys s)).2 = n at *
    have hn1 : (n == 0) = false := beq_eq_false_iff_ne.2 h
    have hn2 : (n != 0) = true := bne_iff_ne.2 h
    clear e1 e2 h hsz hl
    replace hc := Lib.hid hc
    go_enter Tryz.func26, Tryz.ntmps26
    go_wp2_with (first | ((go_at_call 22; refine hc.out.mono ?_; rintro e w2 ⟨v2, H2, rfl, x2, o2⟩)))
    go_ret2
    exact ⟨rfl, x2.below⟩
end Go.Proofs.YthcfhmebikcfpaaGreatDoor

namespace Go.Proofs.YthcfhmebikcfpaaGreatDoor
open Go.RowKit Go.ChangeShapes Go.WideShapes Go.Deep

/-- The whole heap, as it is. -/
def snapOf (w : World) : Snap := fun b => w.heap[b]?
theorem snapOf_holds (w : World) : Holds (snapOf w) w := ⟨fun _ _ e => e⟩

theorem reps_chunks {α : Type} [Enc α] {H : Snap} (L : List Value) (f : Nat → α) : ∀ (n : Nat), (∀ i, i < n → ∃ cs, Enc.rep H (f i) cs ∧ ∀ j, j < Enc.sz α → L[i * Enc.sz α + j]? = cs[j]?) → reps H ((List.range n).map f) (L.take (n * Enc.sz α))
  | 0, _ => by simp [reps]
  | n + 1, h => by
    obtain ⟨cs, hr, hj⟩ := h n (by omega)
    have hl := Enc.len hr
    have e : L.take ((n + 1) * Enc.sz α) = L.take (n * Enc.sz α) ++ cs := by
      rw [Nat.add_mul, Nat.one_mul, List.take_add]
      congr 1
      apply List.ext_getElem?
      intro j
      rw [List.getElem?_take]
      by_cases hjs : j < Enc.sz α
      · rw [if_pos hjs, List.getElem?_drop]
        exact hj j hjs
      · rw [if_neg hjs, List.getElem?_eq_none (by omega)]
    rw [List.range_succ, List.map_append, e]
    exact reps.append (reps_chunks L f n fun i hi => h i (by omega)) (reps.single hr)

theorem weightsAll_get {H : Type} {P : Program} {e : TypeId} : ∀ {l : List (DataW H)} {i : Nat} {d : DataW H}, l[i]? = some d → ∀ n ∈ d.weights P e, n ∈ DataW.weightsAll P e l
  | d0 :: l, 0, d, h, n, hn => by
    simp only [List.getElem?_cons_zero, Option.some.injEq] at h
    subst h
    simp only [DataW.weightsAll, List.mem_append]
    exact Or.inl hn
  | d0 :: l, i + 1, d, h, n, hn => by
    simp only [List.getElem?_cons_succ] at h
    simp only [DataW.weightsAll, List.mem_append]
    exact Or.inr (weightsAll_get h n hn)
  | [], _, _, h, _, _ => by simp at h

theorem row_of_cell {w : World} {a : Addr} {v : Value} (h : w.cell? a = some v) : ∃ b o cur t fr, a = ⟨b, o, none⟩ ∧ w.heap[b]? = some (.cells cur t fr) := by
  obtain ⟨b, o, s⟩ := a
  unfold World.cell? at h
  split at h
  · next c t fr hb =>
    split at h
    · cases h
    · next hs =>
      cases s with
      | none => exact ⟨b, o, _, _, _, rfl, hb⟩
      | some _ => simp at hs
  · cases h

/-- A slice that reads as data. -/
theorem Sl.opened {α : Type} [Enc α] [Inhabited α] {H : Type} {enc : TypeId × Value → H} {P : Program} {w : World} {sp : Nat → Bool} {hd : Bool} {t e : TypeId} {n : Nat} {v : Value} {y : DataW H × List MemPlace}
    (ht : P.underlying t = some (.slice e)) (hc : P.cellsOf e = Enc.sz α) (hp : 0 < Enc.sz α) (hb : P.bytesOf e = Enc.by_ α)
    (el : ∀ (n : Nat) (cs : List Value) (y : DataW H × List MemPlace), DataW.trod enc P w 0 sp hd n e cs = some y → (∀ k ∈ y.1.weights P e, k ≤ reachBytes) → ∃ x : α, Enc.rep (snapOf w) x cs)
    (h : DataW.trod enc P w 0 sp hd n t [v] = some y) (hw : ∀ k ∈ y.1.weights P t, k ≤ reachBytes) : ∃ xs : List α, Sl (snapOf w) v xs := by
  rcases open_slice ht h with ⟨hcs, _⟩ | ⟨a, len, cap, m, n', D, Pl, hcs, _, hl, hm, hmm, rfl, hx⟩
  · simp at hcs
    subst hcs
    exact ⟨[], Sl.nil0 _⟩
  · simp at hcs
    subst hcs
    have hlm : len ≤ m := by rw [hmm]; split <;> omega
    simp only [DataW.weights, ht, List.mem_cons, List.mem_append] at hw
    have h0 := hw _ (Or.inl rfl)
    simp only [List.length_map, List.length_range, hb] at h0
    have hby : len * Enc.by_ α ≤ 140737488355328 := by
      have h1 : len * Enc.by_ α ≤ (len + (m - len)) * Enc.by_ α := Nat.mul_le_mul_right _ (by omega)
      have h2 : reachBytes ≤ 140737488355328 := by decide
      omega
    have hcap : cap ≤ 9223372036854775807 := by simp only [maxLen] at hm; omega
    by_cases hz : len = 0
    · subst hz
      exact ⟨[], Sl.nil _ _ hcap⟩
    · obtain ⟨cs0, hc0, _⟩ := hx 0 (by omega)
      obtain ⟨_, hl0, hg0⟩ := World.cells?_some hc0
      have hcell0 := hg0 0 (by omega)
      rw [List.getElem?_eq_getElem (by omega)] at hcell0
      obtain ⟨b, o, cur, tt, fr, ha, hrow⟩ := row_of_cell hcell0
      have ha' : a = ⟨b, o, none⟩ := by simpa [Addr.add] using ha
      subst ha'
      have hat : ∀ i, i < len → ∃ cs, (∃ x : α, Enc.rep (snapOf w) x cs) ∧ cs.length = Enc.sz α ∧ ∀ j, j < Enc.sz α → cur[o + i * Enc.sz α + j]? = cs[j]? := fun i hi => by
        obtain ⟨cs, hc1, ht1⟩ := hx i (by omega)
        obtain ⟨_, hl1, hg1⟩ := World.cells?_some hc1
        rw [hc] at hl1 hg1
        refine ⟨cs, el _ _ _ ht1 (fun k hk => hw k (Or.inr (Or.inl (weightsAll_get (i := i) (by simp [hi]) k hk)))), hl1, fun j hj => ?_⟩
        have := hg1 j hj
        rw [Addr.add_lit, Addr.add_lit, cell_of_row w b _ cur tt fr hrow] at this
        exact this
      obtain ⟨f, hf⟩ := choose_lt (α := α) (p := fun i x => ∃ cs, Enc.rep (snapOf w) x cs ∧ cs.length = Enc.sz α ∧ ∀ j, j < Enc.sz α → cur[o + i * Enc.sz α + j]? = cs[j]?) (fun i hi => by
        obtain ⟨cs, ⟨x, hx⟩, hl, hj⟩ := hat i hi
        exact ⟨x, cs, hx, hl, hj⟩)
      have hsz : o + len * Enc.sz α ≤ cur.size := by
        obtain ⟨cs, _, hl1, hj1⟩ := hf (len - 1) (by omega)
        have h1 := hj1 (Enc.sz α - 1) (by omega)
        rw [List.getElem?_eq_getElem (by omega)] at h1
        have h2 := (Array.getElem?_eq_some_iff.1 h1).1
        have h3 : (len - 1) * Enc.sz α + Enc.sz α = len * Enc.sz α := by
          rw [show len * Enc.sz α = (len - 1 + 1) * Enc.sz α by rw [Nat.sub_add_cancel (by omega)], Nat.add_mul, Nat.one_mul]
        omega
      refine ⟨(List.range len).map f, some ⟨b, o, none⟩, cap, by simp, by simpa using hl, hcap, by simpa using hby, .inr ⟨b, o, cur, tt, fr, rfl, hrow, by simpa using hsz, ?_⟩⟩
      rw [List.length_map, List.length_range]
      refine reps_chunks _ f len fun i hi => ?_
      obtain ⟨cs, hr, _, hj⟩ := hf i hi
      refine ⟨cs, hr, fun j hjj => ?_⟩
      rw [List.getElem?_drop, ← hj j hjj, Array.getElem?_toList, ← Nat.add_assoc]

end Go.Proofs.YthcfhmebikcfpaaGreatDoor

namespace Go.Proofs.YthcfhmebikcfpaaGreatDoor
open Go.RowKit Go.ChangeShapes Go.WideShapes Go.Deep Go.Joins

section
variable {H : Type} {enc : TypeId × Value → H} {W : World} {sp : Nat → Bool} {hd : Bool}

instance : Inhabited Mach := ⟨⟨0, 0, 0⟩⟩
instance : Inhabited Bund := ⟨⟨0, 0, 0⟩⟩

theorem cells_int : Tryz.prog.cellsOf 3 = 1 := by kernel_rfl
theorem i64_of_wf {n : Int} (h : (Lit.int .i64 n).wf = true) : I64 n := by
  have : -9223372036854775808 ≤ n ∧ n ≤ 9223372036854775807 := by simpa [Lit.wf, IntKind.min, IntKind.max, IntKind.signed, IntKind.bits] using h
  exact this

theorem el_int (n : Nat) (cs : List Value) (y : DataW H × List MemPlace) (h : DataW.trod enc Tryz.prog W 0 sp hd n 3 cs = some y) : ∃ x : Int, Enc.rep (snapOf W) x cs := by
  obtain ⟨k, rfl, _, hk⟩ := DataW.trod_int Tryz.underlying3 h
  exact ⟨k, rfl, i64_of_wf hk⟩

theorem three {α : Type} {l : List α} (h : l.length = 3) : ∃ a b c, l = [a, b, c] := by
  match l, h with
  | [a, b, c], _ => exact ⟨a, b, c, rfl⟩

theorem ints_opened {n : Nat} {v : Value} {y : DataW H × List MemPlace} (h : DataW.trod enc Tryz.prog W 0 sp hd n 92 [v] = some y) (hw : ∀ k ∈ y.1.weights Tryz.prog 92, k ≤ reachBytes) : ∃ xs : List Int, Sl (snapOf W) v xs :=
  Sl.opened Tryz.underlying92 (by kernel_rfl) (by decide) (by kernel_rfl) (fun n cs y h _ => el_int n cs y h) h hw
theorem el_ints (n : Nat) (cs : List Value) (y : DataW H × List MemPlace) (h : DataW.trod enc Tryz.prog W 0 sp hd n 92 cs = some y) (hw : ∀ k ∈ y.1.weights Tryz.prog 92, k ≤ reachBytes) : ∃ x : List Int, Enc.rep (snapOf W) x cs := by
  obtain ⟨a, l, c, rfl⟩ := slice_form Tryz.underlying92 h
  obtain ⟨xs, hx⟩ := ints_opened h hw
  exact ⟨xs, _, rfl, hx⟩
theorem lists_opened {n : Nat} {v : Value} {y : DataW H × List MemPlace} (h : DataW.trod enc Tryz.prog W 0 sp hd n 124 [v] = some y) (hw : ∀ k ∈ y.1.weights Tryz.prog 124, k ≤ reachBytes) : ∃ xs : List (List Int), Sl (snapOf W) v xs :=
  Sl.opened Tryz.underlying124 (by kernel_rfl) (by decide) (by kernel_rfl) (fun n cs y h hw => el_ints n cs y h hw) h hw

end

end Go.Proofs.YthcfhmebikcfpaaGreatDoor

namespace Go.Proofs.YthcfhmebikcfpaaGreatDoor
open Go.RowKit Go.ChangeShapes Go.WideShapes Go.Deep Go.Joins

section
variable {H : Type} {enc : TypeId × Value → H} {W : World} {sp : Nat → Bool} {hd : Bool}

theorem two2 {α : Type} {l : List α} (h : l.length = 2) : ∃ a b, l = [a, b] := by
  match l, h with
  | [a, b], _ => exact ⟨a, b, rfl⟩
theorem cells_n : Tryz.prog.cellsOf 3 = 1 := by kernel_rfl
theorem i64_wf {n : Int} (h : (Lit.int .i64 n).wf = true) : I64 n := by
  have : -9223372036854775808 ≤ n ∧ n ≤ 9223372036854775807 := by simpa [Lit.wf, IntKind.min, IntKind.max, IntKind.signed, IntKind.bits] using h
  exact this
theorem el_pr (n : Nat) (cs : List Value) (y : DataW H × List MemPlace) (h : DataW.trod enc Tryz.prog W 0 sp hd n 47 cs = some y) : ∃ x : Pr, Enc.rep (snapOf W) x cs := by
  obtain ⟨y0, y1, m, _, hl, h0, h1⟩ := trod_struct2 Tryz.underlying47 h
  obtain ⟨a, b, rfl⟩ := two2 (hl.trans (by kernel_rfl))
  simp only [cells_n, List.drop_zero, List.drop_succ_cons, List.take_succ_cons, List.take_zero] at h0 h1
  obtain ⟨k0, e0, _, w0⟩ := DataW.trod_int Tryz.underlying3 h0
  obtain ⟨k1, e1, _, w1⟩ := DataW.trod_int Tryz.underlying3 h1
  simp at e0 e1
  subst e0; subst e1
  exact ⟨⟨k0, k1⟩, rfl, i64_wf w0, i64_wf w1⟩
theorem lens_opened {n : Nat} {v : Value} {y : DataW H × List MemPlace} (h : DataW.trod enc Tryz.prog W 0 sp hd n 32 [v] = some y) (hw : ∀ k ∈ y.1.weights Tryz.prog 32, k ≤ reachBytes) : ∃ xs : List Pr, Sl (snapOf W) v xs :=
  Sl.opened Tryz.underlying32 (by kernel_rfl) (by decide) (by kernel_rfl) (fun n cs y h _ => el_pr n cs y h) h hw
theorem reach_le : reachBytes ≤ 140737488355328 := by decide
instance : Inhabited ByteArray := ⟨⟨#[]⟩⟩
theorem el_str (n : Nat) (cs : List Value) (y : DataW H × List MemPlace) (h : DataW.trod enc Tryz.prog W 0 sp hd n 9 cs = some y) (hw : ∀ k ∈ y.1.weights Tryz.prog 9, k ≤ reachBytes) : ∃ x : ByteArray, Enc.rep (snapOf W) x cs := by
  obtain ⟨s, rfl, rfl, _⟩ := DataW.trod_string Tryz.underlying9 h
  have h1 := hw s.data.toList.length (by simp [DataW.weights])
  exact ⟨s, rfl, Nat.le_trans (show s.size ≤ reachBytes by simpa using h1) reach_le⟩
theorem texts_opened {n : Nat} {v : Value} {y : DataW H × List MemPlace} (h : DataW.trod enc Tryz.prog W 0 sp hd n 22 [v] = some y) (hw : ∀ k ∈ y.1.weights Tryz.prog 22, k ≤ reachBytes) : ∃ xs : List ByteArray, Sl (snapOf W) v xs :=
  Sl.opened Tryz.underlying22 (by kernel_rfl) (by decide) (by kernel_rfl) (fun n cs y h hw => el_str n cs y h hw) h hw
end
end Go.Proofs.YthcfhmebikcfpaaGreatDoor

namespace Go.Proofs.YthcfhmebikcfpaaGreatDoor
open Go.RowKit Go.ChangeShapes Go.WideShapes Go.Deep Go.Joins

section
variable {H : Type} {enc : TypeId × Value → H} {W : World} {sp : Nat → Bool} {hd : Bool}

theorem str_reach {P : Program} {t : TypeId} {s : ByteArray} (hw : ∀ k ∈ (DataW.lit (H := H) (.string s.data.toList)).weights P t, k ≤ reachBytes) : s.size ≤ 140737488355328 := by
  have h1 := hw s.data.toList.length (by simp [DataW.weights])
  exact Nat.le_trans (show s.size ≤ reachBytes by simpa using h1) reach_le
theorem array2n {α : Type} {cs : Array α} (h : cs.size = 2) : ∃ a b, cs = #[a, b] := by
  obtain ⟨l⟩ := cs
  match l, h with
  | [a, b], _ => exact ⟨a, b, rfl⟩
end
end Go.Proofs.YthcfhmebikcfpaaGreatDoor

namespace Go.Proofs.YthcfhmebikcfpaaGreatDoor
open Go.ChangeShapes Go.WideShapes Go.ChangeAt Go.RowKit

def laidN : List (String × DataW Unit) := [("unicode/utf8.acceptRanges", Rows.laid_unicode_utf8_acceptRanges), ("unicode/utf8.first", Rows.laid_unicode_utf8_first)]
def firstCells : Array Value := (match Go.Pinned.utf8First with
  | .agg ds => ds.map fun (d : DataW Unit) => (match d with | DataW.lit (Lit.int k x) => Value.int k x | _ => undef)
  | _ => []).toArray
noncomputable def doorN (os : Os) : World := { World.doorLaid Tryz.prog 400 os with heap := (World.doorLaid Tryz.prog 400 os).heap.setIfInBounds 1 (.cells firstCells 159 (0, 0)) }
set_option maxRecDepth 100000
theorem door_met (os : Os) (args : Array Value) : laidMetH Tryz.prog laidN ((doorN os).forCall (fun _ _ => 0) ⟨#[], args, []⟩).memory :=
  laidMetH_of_parts3 (fuel := 8) (laidMet_of_run' 8 (by kernel_rfl) (by kernel_rfl)) (by kernel_rfl) (by kernel_rfl)
theorem door_shaped (os : Os) (args : Array Value) : ((doorN os).forCall (fun _ _ => 0) ⟨#[], args, []⟩).Shaped Tryz.prog := World.shaped_of_RefB (by kernel_rfl) (by kernel_rfl)
end Go.Proofs.YthcfhmebikcfpaaGreatDoor

namespace Go.Proofs.YthcfhmebikcfpaaGreatDoor
open Go.RowKit
attribute [local go_sem] Holds.drew Holds.alloc Holds.drewN WB.holds Oper.semAt_some

def turnN (n r i : Nat) : Nat := if i + r < n then i + r else i + r - n
def ordN (n r : Nat) (back : Bool) (i : Nat) : Nat := if back then n - 1 - turnN n r i else turnN n r i
theorem ordN_lt {n r i : Nat} {back : Bool} (hr : r < n) (hi : i < n) : ordN n r back i < n := by
  unfold ordN turnN
  cases back <;> simp only [if_true, Bool.false_eq_true, if_false] <;> split <;> omega
theorem ordN_inj {n r i j : Nat} {back : Bool} (hr : r < n) (hi : i < n) (hj : j < n) (h : ordN n r back i = ordN n r back j) : i = j := by
  unfold ordN turnN at h
  cases back
  · simp only [Bool.false_eq_true, if_false] at h
    split at h <;> split at h <;> omega
  · simp only [if_true] at h
    split at h <;> split at h <;> omega
theorem ordN_onto {n r j : Nat} {back : Bool} (hr : r < n) (hj : j < n) : ∃ i, i < n ∧ ordN n r back i = j := by
  unfold ordN turnN
  cases back
  · simp only [Bool.false_eq_true, if_false]
    by_cases h : r ≤ j
    · exact ⟨j - r, by omega, by rw [if_pos (by omega)]; omega⟩
    · exact ⟨j + n - r, by omega, by rw [if_neg (by omega)]; omega⟩
  · simp only [if_true]
    by_cases h : r ≤ n - 1 - j
    · exact ⟨n - 1 - j - r, by omega, by rw [if_pos (by omega)]; omega⟩
    · exact ⟨n - 1 - j + n - r, by omega, by rw [if_neg (by omega)]; omega⟩
theorem turn_mod {n f i : Nat} (hi : i < n) : (i + f) % n = turnN n (f % n) i := by
  have hr : f % n < n := Nat.mod_lt _ (by omega)
  rw [Nat.add_mod, Nat.mod_eq_of_lt hi]
  unfold turnN
  split
  · rename_i h; exact Nat.mod_eq_of_lt h
  · rename_i h
    rw [Nat.mod_eq_sub_mod (by omega), Nat.mod_eq_of_lt (by omega)]
def ordTo (l : List ByteArray) (r : Nat) (back : Bool) (k : Nat) : List ByteArray := (List.range k).map fun i => l.getD (ordN l.length r back i) ⟨#[]⟩
theorem ordTo_next {l : List ByteArray} {r k : Nat} {back : Bool} {x : ByteArray} (hx : At l (ordN l.length r back k) x) : ordTo l r back (k + 1) = ordTo l r back k ++ [x] := by
  unfold ordTo
  rw [List.range_succ, List.map_append, List.map_cons, List.map_nil, hx.getD]
theorem ordTo_len (l : List ByteArray) (r : Nat) (back : Bool) (k : Nat) : (ordTo l r back k).length = k := by unfold ordTo; simp
theorem ordTo_perm (l : List ByteArray) {r : Nat} (back : Bool) (hr : r < l.length) : (ordTo l r back l.length).Perm l := by
  have e1 : (List.range l.length).map (fun i => l.getD i ⟨#[]⟩) = l := List.ext_getElem (by simp) fun i h1 h2 => by
    simp only [List.getElem_map, List.getElem_range]
    rw [List.getD_eq_getElem?_getD, List.getElem?_eq_getElem h2]; rfl
  have e2 : ((List.range l.length).map (ordN l.length r back)).Perm (List.range l.length) := by
    refine (List.perm_ext_iff_of_nodup ?_ List.nodup_range).2 fun j => ?_
    · exact List.pairwise_map.2 (List.Pairwise.imp_of_mem (fun ha hb hne e => hne (ordN_inj hr (List.mem_range.1 ha) (List.mem_range.1 hb) e)) List.nodup_range)
    · rw [List.mem_map, List.mem_range]
      constructor
      · rintro ⟨i, hi, rfl⟩; exact ordN_lt hr (List.mem_range.1 hi)
      · intro hj
        obtain ⟨i, hi, e⟩ := ordN_onto (back := back) hr hj
        exact ⟨i, List.mem_range.2 hi, e⟩
  have e3 := e2.map (fun i => l.getD i ⟨#[]⟩)
  rw [List.map_map, e1] at e3
  exact e3
theorem msg_cnt {l o : List ByteArray} (h : o.Perm l) (c : Nat) : cnt (msgOf o) c = cnt (msgOf l) c := by
  unfold cnt msgOf
  exact (h.flatMap_right _).countP_eq _
theorem wts_same {l o : List ByteArray} (h : o.Perm l) : wtsA (msgOf o) = wtsA (msgOf l) := by
  have e : cnt (msgOf o) = cnt (msgOf l) := funext (msg_cnt h)
  unfold wtsA wtsTo
  rw [e]
theorem lens_same {l o : List ByteArray} (h : o.Perm l) : lensA (msgOf o) = lensA (msgOf l) := by
  unfold lensA wsA
  rw [wts_same h]
theorem areE_perm {l o : List ByteArray} (h : o.Perm l) (h0 : areE l = 0) : areE o = 0 := by
  obtain ⟨g1, g2⟩ := areE_zero h0
  unfold areE
  rw [if_neg (by rw [h.length_eq]; omega), if_pos (List.all_eq_true.2 fun s hs => g2 s (h.mem_iff.1 hs))]
theorem bits_same {l o : List ByteArray} (h : o.Perm l) (h0 : areE l = 0) : (bitsA (lensA (msgOf o)) (msgOf o)).length = (bitsA (lensA (msgOf l)) (msgOf l)).length := by
  rw [bits_cost (msg_ok h0), bits_cost (msg_ok (areE_perm h h0))]
  unfold wsA
  rw [wts_same h]
set_option maxRecDepth 100000 in
theorem sameWeights_any (va vb : Value) (xs ys : List Pr) (H : Snap) (w : World) (hw : Holds H w) (ha : Sl H va xs) (hb : Sl H vb ys) :
    Calls Tryz.prog 15 #[va, vb] w (PostV w (.bool (decide (xs = ys)))) := by
  obtain ⟨aa, ca, rfl, ha1, ha2⟩ := ha.form
  obtain ⟨ab, cb, rfl, hb1, hb2⟩ := hb.form
  cases hl : ((xs.length : Int) != ys.length)
  · have HL : Hid (xs.length = ys.length) := Lib.hid (by have := bne_eq_false_iff_eq.1 hl; omega)
    go_enter Tryz.func15, Tryz.ntmps15
    go_wp2
    go_loopw [4, 5] (fun _ i wr => ∃ k : Nat, k ≤ xs.length ∧ i = .int .i64 k ∧ xs.take k = ys.take k ∧ Ext w H wr H) (fun _ i _ => xs.length - (intOf i).toNat)
    case atStart => exact ⟨0, Nat.zero_le _, rfl, rfl, Ext.refl hw⟩
    case round =>
      obtain ⟨k, hk, rfl, hok, hxr⟩ := hrel
      have hwr := hxr.holds
      replace hok := Lib.hid hok
      by_cases hlt : k < xs.length
      · obtain ⟨x, hxk⟩ := At.mk hlt
        have hlt2 : k < ys.length := by rw [← HL.out]; exact hlt
        obtain ⟨y, hyk⟩ := At.mk hlt2
        obtain ⟨b, o, c, he, hi, hr, hr1⟩ := ha.pr hxk
        cases he
        obtain ⟨b', o', c', he, hi', hr', hr1'⟩ := hb.pr hyk
        cases he
        clear hi hi'
        obtain ⟨x1, x2⟩ := x
        obtain ⟨y1, y2⟩ := y
        simp only at hr hr1 hr' hr1'
        by_cases hxy : x1 = y1 ∧ x2 = y2
        · obtain ⟨rfl, rfl⟩ := hxy
          go_wp2
          go_quiet (fail)
          go_wp2
          go_roundw
          case rel => exact ⟨k + 1, by omega, by go_num, by rw [hxk.take, hyk.take, hok.out], hxr.drewN _⟩
          case measure => simp [intOf]; omega
        · have hfin : decide (xs = ys) = false := by
            rw [decide_eq_false_iff_not]
            intro e
            have hyk2 := hyk
            rw [← e] at hyk2
            have := Option.some.inj (hxk.symm.trans hyk2)
            simp only [Pr.mk.injEq] at this
            exact hxy this
          by_cases h1 : x1 = y1
          · subst h1
            have ht : (x2 == y2) = false := beq_eq_false_iff_ne.2 fun e => hxy ⟨rfl, e⟩
            have ht2 : ¬ x2 = y2 := fun e => hxy ⟨rfl, e⟩
            go_wp2
            go_quiet (fail)
            go_wp2
            go_ret
            exact ⟨ret_bool hfin.symm, (hxr.drewN _).below⟩
          · have ht : (x1 == y1) = false := beq_eq_false_iff_ne.2 h1
            go_wp2
            go_quiet (fail)
            go_wp2
            go_ret
            exact ⟨ret_bool hfin.symm, (hxr.drewN _).below⟩
      · go_wp2
        go_ret
        have h1 : xs.take k = ys.take k := hok.out
        rw [List.take_of_length_le (by omega), List.take_of_length_le (by rw [← HL.out]; omega)] at h1
        exact ⟨ret_bool (by simp [h1]), hxr.below⟩
  · go_enter Tryz.func15, Tryz.ntmps15
    go_wp2
    go_ret
    exact ⟨ret_bool (by symm; rw [decide_eq_false_iff_not]; rintro rfl; simp at hl), Below.refl _ _⟩

end Go.Proofs.YthcfhmebikcfpaaGreatDoor
