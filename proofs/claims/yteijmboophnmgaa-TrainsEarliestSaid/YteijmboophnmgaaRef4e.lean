/- The walk of flongref04.plans. -/
import Derived.Test.YteijmboophnmgaaRef4a
import Derived.Test.YteijmboophnmgaaBase
import Derived.Test.YteijmboophnmgaaPlain
namespace Go.Proofs.Yteijmboophnmgaa
open Go.RowKit

attribute [local go_sem] Holds.drew Holds.alloc Holds.drewN WB.holds

set_option maxRecDepth 100000 in
set_option maxHeartbeats 4000000 in
theorem plans4_step (vm vb vt vf : Value) (h : House) (stop : Int) (first : List (List Int)) (rec : List (List Int) → List (List (List Int))) (L : Nat) (H : Snap) (w : World) (hw : Holds H w) (hh : Hou H vm vb vt h) (hf : Sl H vf first) (hv : Valid h) (hst : -1 ≤ stop ∧ stop ≤ 3)
    (hg : GoodF h first) (hL : ∀ f, (rec f).length ≤ L) (hL8 : L ≤ 100000000)
    (hrec : ∀ (first' : List (List Int)) (vf' : Value) (H' : Snap) (w' : World), mu h first' < mu h first → GoodF h first' → SLe H H' → Holds H' w' → Sl H' vf' first' →
      Calls Try.prog 104 #[houV vm vb vt h, .int .i64 stop, vf'] w' (PostO w' H' 63 (rec first'))) :
    Calls Try.prog 104 #[houV vm vb vt h, .int .i64 stop, vf] w (PostO w H 63 (plansStep h stop rec first)) := by
  obtain ⟨am, cm, rfl, hm1, hm2⟩ := hh.m.form
  obtain ⟨ab, cb, rfl, hb1, hb2⟩ := hh.b.form
  obtain ⟨af, cf, rfl, hf1, hf2⟩ := hf.form
  have hb5 := hv.b5
  have hm3 := hv.m3
  have hfl := hg.le
  have hfn := hg.ne
  replace hrec := Lib.hid hrec
  replace hL := Lib.hid hL
  go_enter Try.func104, Try.ntmps104
  go_upto_if 21 with (refine wpList_boxF rfl _ rfl (Ext.refl hw) ?_; intro B w1 H1 hle hx hB hBw; obtain ⟨hc0, hc1, hc2, hc3⟩ := cellsHou hB; clear hB hw; have hw1 := hx.holds)
  go_cut [8] (fun v wx => ∃ H2, Ext w H wx H2 ∧ SLe H1 H2 ∧ Own H2 w.heap.size wx 63 v (plansA h rec first))
  case first =>
    cases hl : ((first.length : Int) == h.ms.length)
    · have HL : Hid (first.length ≠ h.ms.length) := Lib.hid (fun e => by rw [e] at hl; simp at hl)
      go_wp2_with fail
      go_region_held3 (fun w' => Holds H1 w' ∧ Ext w H w' H1)
        (first | assumption | exact ⟨by assumption, by assumption⟩ | (go_split_ands; exact ⟨Holds.drew (by assumption), Ext.drew (by assumption)⟩) | (go_split_ands; exact ⟨Holds.alloc (by assumption) _, Ext.alloc (by assumption) _⟩) | (go_split_ands; exact ⟨Holds.drew (Holds.alloc (by assumption) _), Ext.drew (Ext.alloc (by assumption) _)⟩))
        (first
          | (go_split_ands; refine step_appX eList rfl _ _ rfl (by assumption) rfl (Own.emptyAt (by first | exact heap_alloc_new _ _ | exact (Below.heap_alloc _ _ _ (by simp)).trans (heap_alloc_new _ _) | (have h := heap_alloc_new (w1.alloc (.cells #[.slice none 0 0] 24)) (.cells #[] 24); rw [World.size_alloc] at h; exact h)) (by have := hx.below.size; first | omega | (simp; omega)) (hw1.none_of_ge (by simp))) rfl (hf.mono hle) (by simp [Enc.by_]; omega) (by simp; omega) ?_; intro vA wA hownA hxA hwA hgA)
          | (go_split_ands; refine step_appCX eList rfl _ _ rfl (by assumption) rfl (by first | exact hownA | exact hownA.alloc _ | exact (hownA.alloc _).drew) rfl ⟨_, rfl, Sl.nil0 _⟩ (one_cell (by first | (simp [go_sem]; done) | (exact hgA.cell (by simp [go_sem]) (by first | exact (show some (w1.heap.size + 1) ≠ some w1.heap.size from by simp) | exact (show some w1.heap.size ≠ some (w1.heap.size + 1) from by simp))))) (by simp [Enc.by_]; omega) (by simp; omega) ?_; intro vB wB hownB hxB hwB hgB; rw [List.nil_append] at hownB; obtain ⟨avB, cvB, evB, _, _⟩ := hownB.form; subst evB)
          | (go_split_ands; go_at_call 104; obtain ⟨H2, hx2, hle2, hs2, _⟩ := hownB.close hxB; refine (hrec.out (first ++ [[]]) _ H2 _ (hg.nil_ok HL.out).2 (hg.nil_ok HL.out).1 (hle.trans hle2) hx2.holds (by simpa using hs2)).mono ?_; rintro e w' ⟨v, H3, rfl, hx3, ho3⟩; have hT := hx2.trans hx3; have hle3 := hx3.le hx2.holds; have hk1 : Holds H1 w' := hx3.holds.mono (hle2.trans hle3); have hk2 : Ext w H w' H1 := hT.back hxB (hle2.trans hle3)))

      all_goals
        go_wp2_with fail
        go_meet
        exact ⟨H3, hT, hle2.trans hle3, (ho3.weaken hxB.below.size).congr (by unfold plansA; rw [if_neg HL.out])⟩
    · have HL : Hid (first.length = h.ms.length) := Lib.hid (Int.ofNat.inj (by simpa using hl))
      go_wp2_with (first | (at_builtin; go_must (refine wpList_app1L eLists _ _ hx (Own.nil _ _ _ _) first (hf.mono hle) (by simp) rfl rfl rfl rfl ?_); intro vA wA hownA hxA hwA))
      go_meet
      exact ⟨H1, hxA, SLe.refl _, hownA.congr (by unfold plansA; rw [if_pos HL.out]; rfl)⟩
  case rest =>
    obtain ⟨H2, hx2, hle2, hown⟩ := hcut
    have hw2 := hx2.holds
    replace hc0 := lift hle2 hc0
    replace hc1 := lift hle2 hc1
    replace hc2 := lift hle2 hc2
    replace hc3 := lift hle2 hc3
    have hle3 := hle.trans hle2
    clear hx hle hle2 hw1
    have he : (first.length : Int) - 1 = ((first.length - 1 : Nat) : Int) := by omega
    rw [he]
    cases hst2 : (((first.length - 1 : Nat) : Int) == stop)
    · go_wp2_with fail
      have hst3 : Hid (plansStep h stop rec first = plansA h rec first ++ plansB h rec first h.bs.length) := by
        show _ = _
        unfold plansStep
        rw [if_neg (by rw [he]; intro e; rw [e] at hst2; simp at hst2)]
      replace hst := Lib.hid hst
      clear he hst2
      go_loopw [8, 9, 10, 11, 12] (fun v i _ _ _ wr => ∃ (k : Nat) (acc : List (List (List Int))) (Hr : Snap), k ≤ h.bs.length ∧ i = .int .i64 k ∧ Hid (acc = plansA h rec first ++ plansB h rec first k) ∧ Ext w H wr Hr ∧ SLe H2 Hr ∧ Own Hr w.heap.size wr 63 v acc) (fun _ i _ _ _ _ => h.bs.length - (intOf i).toNat)
      case atStart => exact ⟨0, _, H2, Nat.zero_le _, rfl, by simp [Hid, plansB], hx2, SLe.refl _, hown⟩
      case round =>
        clear hx2 hw2 hown
        obtain ⟨k, acc, Hr, hk, rfl, hacc, hxr, hle2, hown⟩ := hrel
        have hwr := hxr.holds
        have hd0 := lift hle2 hc0
        have hd1 := lift hle2 hc1
        have hd2 := lift hle2 hc2
        have hd3 := lift hle2 hc3
        have hle4 := hle3.trans hle2
        by_cases hlk : k < h.bs.length
        · go_wp2_with fail
          go_loopw [10, 11] (fun l i wr => ∃ m : Nat, m ≤ first.length ∧ i = .int .i64 m ∧ l = .bool (decide ((k : Int) ∈ (first.take m).flatten)) ∧ Ext w H wr Hr ∧ Own Hr w.heap.size wr 63 u8 acc) (fun _ i _ => first.length - (intOf i).toNat)
          case atStart => exact ⟨0, Nat.zero_le _, rfl, by simp, hxr, hown⟩
          case round =>
            clear hxr hwr hown
            obtain ⟨m, hm, rfl, rfl, hxr, hown⟩ := hrel
            have hwr := hxr.holds
            by_cases hlm : m < first.length
            · obtain ⟨l, hml⟩ := At.mk hlm
              obtain ⟨b, o, c, u, he, hu, hr⟩ := (hf.mono hle4).list hml
              cases he
              have hsucc : Hid ((decide ((k : Int) ∈ (first.take (m + 1)).flatten)) = (decide ((k : Int) ∈ (first.take m).flatten) || decide ((k : Int) ∈ l))) := by
                show _ = _
                rw [flatten_take hml]; simp
              cases hin : decide ((k : Int) ∈ (first.take m).flatten)
              · go_wp2_with (first | (go_at_call 37; refine (in_any _ _ _ _ _ hwr hu).mono ?_; rintro e w' ⟨rfl, hb2⟩))
                go_roundw
                case rel => exact ⟨m + 1, by omega, by go_num, by rw [hsucc.out, hin]; simp, hxr.step (hb2.mono hxr.below.size) (hwr.below hb2), hown.ext hwr ⟨hb2, hwr.below hb2, fun _ _ => rfl⟩⟩
                case measure => simp [intOf]; omega
              · go_wp2_with fail
                go_roundw
                case rel => exact ⟨m + 1, by omega, by go_num, by rw [hsucc.out, hin]; simp, hxr, hown⟩
                case measure => simp [intOf]; omega
            · have hall : first.take m = first := take_all (xs := first) (k := m) (by omega)
              have hsucc := plansB_succ h rec first k
              cases hin : decide ((k : Int) ∈ (first.take m).flatten)
              all_goals
                rw [hall] at hin
                rw [hin] at hsucc
                rw [← hall] at hin
                replace hsucc := Lib.hid hsucc
                replace hall := Lib.hid hall
              · have hin2 : (k : Int) ∉ first.flatten := by rw [← hall.out]; simpa using hin
                obtain ⟨hgood, hmu⟩ := hg.grow_ok hlk hin2
                replace hin2 := Lib.hid hin2
                obtain ⟨l, hml⟩ := At.mk (xs := first) (k := first.length - 1) (by omega)
                have hmlt := hml.lt
                obtain ⟨b, o, c, u, he, hu, hr⟩ := (hf.mono hle4).list hml
                cases he
                have hgrow : growP first k = first.take (first.length - 1) ++ [l ++ [(k : Int)]] := by
                  unfold growP
                  rw [List.getD_eq_getElem?_getD, show first[first.length - 1]? = some l from hml]; rfl
                have hl5 : l.length ≤ 5 := by
                  have h1 := hg.len
                  have h2 := congrArg List.length (congrArg List.flatten hml.split)
                  simp at h1 h2; omega
                have hacl : acc.length ≤ 700000000 := by
                  rw [hacc.out, List.length_append]
                  have h1 := plansA_len (h := h) hL.out first
                  have h2 := plansB_len (h := h) hL.out first k
                  have h3 : k * L ≤ 5 * L := Nat.mul_le_mul_right _ (by omega)
                  omega
                have hrecl := hL.out (growP first k)
                have hft := (hf.mono hle4).take (k := first.length - 1) (by omega)
                have htl : (first.take (first.length - 1)).length = first.length - 1 := by simp
                replace htl := Lib.hid htl
                obtain ⟨av, cv, ev, _, _⟩ := hown.form
                subst ev
                obtain ⟨au, cu, eu, _, _⟩ := hu.form
                subst eu
                go_wp2_with (first | ((at_builtin; have hgd := hs7; clear hgd; go_must (refine wpList_appX (w0 := w) (H0 := H) eLists rfl _ _ rfl hxOut7 rfl hownOut7 rfl hs7 (by simp [Enc.by_]; omega) (by omega) ?_); intro vF wF hownF hxF hwF hgF)) | (go_at_call 104; refine (hrec.out (growP first k) _ H5 _ hmu hgood (hle4.trans hleD) hwD5 hs5).mono ?_; rintro e w' ⟨vE, H6, rfl, hx6, ho6⟩; obtain ⟨H7, hx7, hle7, hs7, _⟩ := ho6.close hx6; have hxOut7 := hxOut.trans hx7; have hownOut7 := hownOut.ext hwD5 hx7; have hle57 := hx7.le hwD5) | ((refine wpList_appX (w0 := wr) (H0 := Hr) eList rfl _ _ rfl ((Ext.refl hwr).alloc _) rfl (Own.emptyAt (heap_alloc_new _ _) (Nat.le_refl _) (hwr.none_of_ge (Nat.le_refl _))) rfl hft (by rw [htl.out]; simp [Enc.by_]; omega) (by rw [htl.out]; simp; omega) ?_; intro vA wA hownA hxA hwA hgA; obtain ⟨avA, cvA, evA, _, _⟩ := hownA.form; rw [List.nil_append, htl.out] at evA; subst evA)) | ((refine wpList_appX (w0 := wA) (H0 := Hr) eInt rfl _ _ rfl ((Ext.refl hwA).alloc _) rfl (Own.emptyAt (heap_alloc_new _ _) (Nat.le_refl _) (hwA.none_of_ge (Nat.le_refl _))) rfl hu (by simp [Enc.by_]; omega) (by simp; omega) ?_; intro vB wB hownB hxB hwB hgB; rw [List.nil_append] at hownB; obtain ⟨avB, cvB, evB, _, _⟩ := hownB.form; subst evB)) | ((at_builtin; have hgd := hxA4; clear hgd; go_must (refine wpList_app1L eList _ _ hxA4 hownA4 _ hs4 (by rw [List.nil_append, htl.out]; omega) rfl rfl rfl rfl ?_); intro vD wD hownD hxD hwD; obtain ⟨H5, hx5, hle6, hs5, _⟩ := hownD.close hxD; have hwD5 := hx5.holds; have hleD := hle5.trans hle6; have hownOut := hown.ext hwr hx5; have hxOut := hxr.trans hx5; rw [List.nil_append, ← hgrow] at hs5; have hwDr := hwD5.mono hleD)) | ((at_builtin; have hgd := hxB; clear hgd; go_must (refine wpList_app1I eInt _ _ hxB hownB (k : Int) (by unfold I64; omega) (by omega) rfl rfl rfl rfl ?_); intro vC wC hownC hxC hwC; obtain ⟨l', hl'⟩ : ∃ l', Hid (l' = l ++ [(k : Int)]) := ⟨_, rfl⟩; rw [← hl'.out] at hownC hgrow; obtain ⟨avC, cvC, evC, _, _⟩ := hownC.form; subst evC; obtain ⟨H4, hx4, hle5, hs4, _⟩ := hownC.close hxC; have hwC4 := hx4.holds; have hownA4 := hownA.ext hwA hx4; have hxA4 := hxA.trans hx4)))
                go_roundw
                case rel => exact ⟨k + 1, acc ++ rec (growP first k), H7, by omega, by go_num, by show _ = _; rw [hacc.out, hsucc.out]; simp, hxF, hle2.trans (hleD.trans hle57), hownF⟩
                case measure => simp [intOf]; omega
              · go_wp2_with fail
                go_roundw
                case rel => exact ⟨k + 1, acc, Hr, by omega, by go_num, by show acc = _; rw [hacc.out, hsucc.out]; simp, hxr, hle2, hown⟩
                case measure => simp [intOf]; omega
        · go_wp2_with fail
          go_ret
          refine ⟨_, Hr, rfl, hxr, hown.congr ?_⟩
          rw [hst3.out, hacc.out, show k = h.bs.length by omega]
    · have hst3 : Hid (plansStep h stop rec first = plansA h rec first) := by
        show _ = _
        unfold plansStep
        rw [if_pos (by rw [he]; simpa using hst2), List.append_nil]
      go_wp2_with fail
      go_ret
      exact ⟨_, H2, rfl, hx2, hown.congr hst3.out.symm⟩


theorem plansF_any (vm vb vt : Value) (h : House) (stop : Int) (hv : Valid h) (hst : -1 ≤ stop ∧ stop ≤ 3) : ∀ (n : Nat) (vf : Value) (first : List (List Int)) (H : Snap) (w : World), mu h first ≤ n → n ≤ 8 → Holds H w → Hou H vm vb vt h → Sl H vf first → GoodF h first →
    Calls Try.prog 104 #[houV vm vb vt h, .int .i64 stop, vf] w (PostO w H 63 (plansF h stop n first))
  | 0, vf, first, H, w, hmu, _, hw, hh, hf, hg =>
    plans4_step vm vb vt vf h stop first (fun _ => []) 0 H w hw hh hf hv hst hg (by simp) (by omega) fun first' vf' H' w' hlt => by omega
  | n + 1, vf, first, H, w, hmu, hn, hw, hh, hf, hg =>
    plans4_step vm vb vt vf h stop first (plansF h stop n) 100000000 H w hw hh hf hv hst hg (fun f => Nat.le_trans (plansF_len hv.b5 n f) (Nat.le_trans (plansBd_mono (show n ≤ 8 by omega)) plansBd8)) (by omega)
      fun first' vf' H' w' hlt hg' hle' hw' hf' => plansF_any vm vb vt h stop hv hst n vf' first' H' w' (by omega) (by omega) hw' (hh.mono hle') hf' hg'


theorem plansOf4_any (vm vb vt : Value) (h : House) (stop : Int) (H : Snap) (w : World) (hw : Holds H w) (hh : Hou H vm vb vt h) (hv : Valid h) (hst : -1 ≤ stop ∧ stop ≤ 3) :
    Calls Try.prog 75 #[houV vm vb vt h, .int .i64 stop] w (PostO w H 63 (plansOf h stop)) := by
  go_enter Try.func75, Try.ntmps75
  go_wp2_with (first | (refine wpList_boxF rfl _ rfl (Ext.refl hw) ?_; intro B w1 H1 hle hx hB hBw; obtain ⟨hc0, hc1, hc2, hc3⟩ := cellsHou hB; clear hB hw; have hw1 := hx.holds) | ((go_at_call 104; obtain ⟨H2, hle2, hx2, hs2⟩ := Ext.lit (xs := [([] : List Int)]) (cs := [.slice none 0 0]) hx (reps.single (show Enc.rep H1 ([] : List Int) [.slice none 0 0] from ⟨_, rfl, Sl.nil0 _⟩)) 24 (by simp [Enc.by_]) (by simp); refine (plansF_any vm vb vt h stop hv hst (mu h [[]]) _ [[]] H2 _ (Nat.le_refl _) (mu_le hv _) hx2.holds (hh.mono (hle.trans hle2)) hs2 (goodF_start hv)).mono ?_; rintro e w' hpost; obtain ⟨v, H3, rfl, hx3, ho3⟩ := hpost.up hx2)))
  go_ret
  exact ⟨v, H3, rfl, hx3, ho3⟩

end Go.Proofs.Yteijmboophnmgaa
