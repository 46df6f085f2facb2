/- The walks of flongref04: lists, toldOf, Told, Sure. The walks of flongref04: toldOf, Told, Sure. -/
import Derived.Test.YteijmboophnmgaaRef4g
import Derived.Deep.CutBlock

namespace Go.Proofs.Yteijmboophnmgaa
open Go.RowKit

attribute [local go_sem] Holds.drew Holds.alloc Holds.drewN WB.holds

set_option maxRecDepth 100000 in
set_option maxHeartbeats 4000000 in
theorem lists4_step (vf : Value) (first : List Int) (many below : Nat) (rec : List Int → List (List Int)) (H : Snap) (w : World) (hw : Holds H w) (hf : Sl H vf first) (hm : many ≤ 4) (hb : below ≤ 4) (hfm : first.length ≤ many) (hfb : ∀ x ∈ first, 0 ≤ x ∧ x < below)
    (hL : ∀ f, (rec f).length ≤ 1000)
    (hrec : ∀ (first' : List Int) (vf' : Value) (H' : Snap) (w' : World), first.length < first'.length → first'.length ≤ many → (∀ x ∈ first', 0 ≤ x ∧ x < below) → SLe H H' → Holds H' w' → Sl H' vf' first' →
      Calls Try.prog 105 #[vf', .int .i64 many, .int .i64 below] w' (PostO w' H' 24 (rec first'))) :
    Calls Try.prog 105 #[vf, .int .i64 many, .int .i64 below] w (PostO w H 24 (listsStep many below rec first)) := by
  obtain ⟨af, cf, rfl, hf1, hf2⟩ := hf.form
  replace hrec := Lib.hid hrec
  replace hL := Lib.hid hL
  cases hl : ((first.length : Int) == many)
  · have HL : Hid (first.length ≠ many) := Lib.hid (fun e => by rw [e] at hl; simp at hl)
    have hfr : fromOf first ≤ below := by
      unfold fromOf
      split
      · rename_i h0
        obtain ⟨x, hx⟩ := At.mk (xs := first) (k := first.length - 1) (by omega)
        rw [hx.getD]
        have := hfb x hx.mem
        omega
      · omega
    have key : Hid (listsStep many below rec first = listsTo below rec first below) := by
      show _ = _; unfold listsStep; rw [if_neg HL.out]
    go_enter Try.func105, Try.ntmps105
    go_upto_if 18 with fail
    go_cut [7] (fun v wx => v = .int .i64 (fromOf first) ∧ w = wx)
    case first =>
      by_cases h0 : 0 < first.length
      · obtain ⟨x, hx⟩ := At.mk (xs := first) (k := first.length - 1) (by omega)
        have hxlt := hx.lt
        obtain ⟨b, o, c, he, hi, hr⟩ := hf.int hx
        cases he
        have hxb := hfb x hx.mem
        have hfrom : fromOf first = x.toNat + 1 := by unfold fromOf; rw [if_pos h0, hx.getD]
        obtain ⟨x, rfl⟩ := Int.eq_ofNat_of_zero_le hxb.1
        have he : (first.length : Int) - 1 = ((first.length - 1 : Nat) : Int) := by omega
        go_wp2_with fail
        go_meet
        exact ⟨by rw [hfrom]; go_num, rfl⟩
      · have h0' : decide (0 < first.length) = false := decide_eq_false h0
        have hfrom : Hid (fromOf first = 0) := by show _ = _; unfold fromOf; rw [if_neg h0]
        replace h0 := Lib.hid h0
        go_wp2_with fail
        go_meet
        exact ⟨by rw [hfrom.out]; rfl, rfl⟩
    case rest =>
      obtain ⟨rfl, rfl⟩ := hcut
      have hlen : first.length ≤ 4 := by omega
      go_wp2_with fail
      go_loopw [8, 9] (fun v i wr => ∃ (k : Nat) (acc : List (List Int)) (Hr : Snap), fromOf first ≤ k ∧ k ≤ below ∧ i = .int .i64 k ∧ Hid (acc = listsTo below rec first k) ∧ Ext w H wr Hr ∧ SLe H Hr ∧ Own Hr w.heap.size wr 24 v acc) (fun _ i _ => below - (intOf i).toNat)
      case atStart => exact ⟨fromOf first, [], H, Nat.le_refl _, hfr, rfl, (listsTo_from below rec first).symm, Ext.refl hw, SLe.refl _, Own.nil _ _ _ _⟩
      case round =>
        obtain ⟨k, acc, Hr, hkf, hk, rfl, hacc, hxr, hle, hown⟩ := hrel
        have hwr := hxr.holds
        by_cases hlk : k < below
        · have hfr' := hf.mono hle
          have hsucc := listsTo_succ below rec first k hkf
          replace hsucc := Lib.hid hsucc
          have hacl : acc.length ≤ 4000 := by
            rw [hacc.out]
            have h1 := listsTo_len (below := below) hL.out first k
            have h2 : k * 1000 ≤ 4 * 1000 := Nat.mul_le_mul_right _ (by omega)
            omega
          have hrl := hL.out (first ++ [(k : Int)])
          obtain ⟨f', hf'⟩ : ∃ f', Hid (f' = first ++ [(k : Int)]) := ⟨_, rfl⟩
          rw [← hf'.out] at hrl hsucc
          have hfl' : f'.length = first.length + 1 := by rw [hf'.out]; simp
          have hfb' : ∀ x ∈ f', 0 ≤ x ∧ x < below := by
            rw [hf'.out]
            intro x hx
            rcases List.mem_append.1 hx with hx | hx
            · exact hfb x hx
            · rw [List.mem_singleton.1 hx]; omega
          have hlm : f'.length ≤ many := by have := HL.out; omega
          replace hfb' := Lib.hid hfb'
          replace hfl' := Lib.hid hfl'
          obtain ⟨av, cv, ev, _, _⟩ := hown.form
          subst ev
          go_wp2_with (first | ((at_builtin; have hgd := hs7; clear hgd; go_must (refine wpList_appX (w0 := w) (H0 := H) eList rfl _ _ rfl hxOut7 rfl hownOut7 rfl hs7 (by simp [Enc.by_]; omega) (by omega) ?_); intro vF wF hownF hxF hwF hgF)) | (go_at_call 105; refine (hrec.out f' _ H5 _ (by rw [hfl'.out]; omega) hlm hfb'.out (hle.trans hle5) hx5.holds hs5).mono ?_; rintro e w' ⟨vE, H6, rfl, hx6, ho6⟩; obtain ⟨H7, hx7, hle7, hs7, _⟩ := ho6.close hx6; have hxOut7 := hxOut.trans hx7; have hownOut7 := hownOut.ext hx5.holds hx7; have hle57 := hx7.le hx5.holds) | ((at_builtin; have hgd := hxB; clear hgd; go_must (refine wpList_app1I eInt _ _ hxB hownB (k : Int) (by unfold I64; omega) (by omega) rfl rfl rfl rfl ?_); intro vC wC hownC hxC hwC; rw [← hf'.out] at hownC; obtain ⟨H5, hx5, hle5, hs5, _⟩ := hownC.close hxC; have hownOut := hown.ext hwr hx5; have hxOut := hxr.trans hx5)) | ((refine wpList_appX (w0 := wr) (H0 := Hr) eInt rfl _ _ rfl ((Ext.refl hwr).alloc _) rfl (Own.emptyAt (heap_alloc_new _ _) (Nat.le_refl _) (hwr.none_of_ge (Nat.le_refl _))) rfl hfr' (by simp [Enc.by_]; omega) (by simp; omega) ?_; intro vB wB hownB hxB hwB hgB; rw [List.nil_append] at hownB; obtain ⟨avB, cvB, evB, _, _⟩ := hownB.form; subst evB)))
          go_roundw
          case rel => exact ⟨k + 1, acc ++ rec f', H7, by omega, by omega, by go_num, by show _ = _; rw [hacc.out, hsucc.out], hxF, hle.trans (hle5.trans hle57), hownF⟩
          case measure => simp [intOf]; omega
        · go_wp2_with fail
          go_ret
          exact ⟨_, Hr, rfl, hxr, hown.congr (show acc = listsStep many below rec first by rw [key.out, hacc.out, show k = below by omega])⟩
  · have HL : Hid (first.length = many) := Lib.hid (Int.ofNat.inj (by simpa using hl))
    go_enter Try.func105, Try.ntmps105
    go_wp2
    go_ret
    exact ⟨_, H, rfl, (Ext.refl hw).alloc _, (Own.lit (xs := [first]) (cs := [.slice af first.length cf]) hw (reps.single (show Enc.rep H first [.slice af first.length cf] from ⟨_, rfl, hf⟩)) _ (Nat.le_refl _) (by simp [Enc.by_]) (by simp)).congr (by unfold listsStep; rw [if_pos HL.out])⟩

theorem listsF_any (many below : Nat) (hm : many ≤ 4) (hb : below ≤ 4) : ∀ (n : Nat) (vf : Value) (first : List Int) (H : Snap) (w : World), many - first.length ≤ n → n ≤ 4 → first.length ≤ many → (∀ x ∈ first, 0 ≤ x ∧ x < below) → Holds H w → Sl H vf first →
    Calls Try.prog 105 #[vf, .int .i64 many, .int .i64 below] w (PostO w H 24 (listsF many below n first))
  | 0, vf, first, H, w, hn, _, hl, hfb, hw, hf =>
    lists4_step vf first many below (fun _ => []) H w hw hf hm hb hl hfb (by simp) fun first' vf' H' w' h1 h2 => by omega
  | n + 1, vf, first, H, w, hn, h4, hl, hfb, hw, hf =>
    lists4_step vf first many below (listsF many below n) H w hw hf hm hb hl hfb (fun f => Nat.le_trans (listsF_len hb n f) (Nat.le_trans (listsBd_mono (show n ≤ 4 by omega)) (by decide)))
      fun first' vf' H' w' h1 h2 h3 hle' hw' hf' => listsF_any many below hm hb n vf' first' H' w' (by omega) (by omega) h2 h3 hw' hf'

theorem listsOf4_any (many below : Nat) (hm : many ≤ 4) (hb : below ≤ 4) (H : Snap) (w : World) (hw : Holds H w) :
    Calls Try.prog 105 #[.slice none 0 0, .int .i64 many, .int .i64 below] w (PostO w H 24 (listsOf many below)) :=
  listsF_any many below hm hb many _ [] H w (by simp) hm (by simp) (by simp) hw (Sl.nil0 _)

end Go.Proofs.Yteijmboophnmgaa

namespace Go.Proofs.Yteijmboophnmgaa
open Go.RowKit

attribute [local go_sem] Holds.drew Holds.alloc Holds.drewN WB.holds

set_option maxRecDepth 100000 in
set_option maxHeartbeats 8000000 in
theorem toldOf4_any (vm vb vt : Value) (h : House) (H : Snap) (w : World) (hw : Holds H w) (hh : Hou H vm vb vt h) (hV : Valid h) :
    Calls Try.prog 82 #[houV vm vb vt h] w (Post w H fun v H' => Sl H' v (toldOf h)) := by
  obtain ⟨at', ct, rfl, ht1, ht2⟩ := hh.t.form
  have hm3 := hV.m3
  have ht4 := hV.t4
  have hcm : Hid (∀ c ∈ casesOf h, -1 ≤ c ∧ c < h.ms.length) := Lib.hid fun c hc => casesOf_mem hc
  have hclen : (casesOf h).length ≤ 4 := Nat.le_trans (casesTo_len h _) (by omega)
  have hlates : Hid (lates h = (casesOf h).map fun c => (plansOf h c).map (lateOf h)) := rfl
  have htold : Hid (toldOf h = (((List.range h.ts.length).flatMap fun many => listsOf many h.ts.length).find? (okTold h)).getD ((listsOf h.ts.length h.ts.length).getD 0 [])) := rfl
  obtain ⟨cs, hcs⟩ : ∃ cs, Hid (cs = casesOf h) := ⟨_, rfl⟩
  rw [← hcs.out] at hcm hclen hlates
  go_enter Try.func82, Try.ntmps82
  go_upto_block 0 with (first | (refine wpList_boxF rfl _ rfl (Ext.refl hw) ?_; intro B w1 H1 hle hx hB hBw; obtain ⟨hc0, hc1, hc2, hc3⟩ := cellsHou hB; clear hB hw; have hw1 := hx.holds) | (go_at_call 74; refine (casesOf4_any _ _ _ _ _ _ hw1 (hh.mono hle) hV).mono ?_; rintro e w' ⟨v5, H2, rfl, hx5, hs5⟩; rw [← hcs.out] at hs5; obtain ⟨a5, c5, rfl, _, _⟩ := hs5.form; have hw3 := hx5.holds; have hle2 := hx5.le hw1))
  have hx3 := hx.trans hx5
  replace hc0 := lift hle2 hc0
  replace hc1 := lift hle2 hc1
  replace hc2 := lift hle2 hc2
  replace hc3 := lift hle2 hc3
  have hhm := (hh.mono hle).mono hle2
  clear hx hx5 hw3 hle2 hw1
  go_cut [3, 5, 6, 7, 8] (fun v _ _ _ _ wx => ∃ H5, Ext w H wx H5 ∧ SLe H2 H5 ∧ Sl H5 v (lates h))
  case first =>
    go_wp2_with fail
    go_loopw [3, 5, 6, 7, 8] (fun v i _ _ _ wr => ∃ (k : Nat) (acc : List (List (List Int))) (Hr : Snap), k ≤ cs.length ∧ i = .int .i64 k ∧ Hid (acc = (cs.take k).map fun c => (plansOf h c).map (lateOf h)) ∧ acc.length ≤ k ∧ Ext w H wr Hr ∧ SLe H2 Hr ∧ Own Hr w.heap.size wr 63 v acc) (fun _ i _ _ _ _ => cs.length - (intOf i).toNat)
    case atStart => exact ⟨0, [], H2, Nat.zero_le _, rfl, rfl, by simp, hx3, SLe.refl _, Own.nil _ _ _ _⟩
    case round =>
      clear hx3
      obtain ⟨k, acc, Hr, hk, rfl, hacc, hacl, hxr, hler, hown⟩ := hrel
      have hwr := hxr.holds
      have hd0 := lift hler hc0
      have hd1 := lift hler hc1
      have hd2 := lift hler hc2
      have hd3 := lift hler hc3
      have hhr := hhm.mono hler
      by_cases hlk : k < cs.length
      · obtain ⟨c, hck⟩ := At.mk hlk
        obtain ⟨bc, oc, cc, he', hic, hcc⟩ := hs5.int hck
        cases he'
        replace hcc := lift hler hcc
        have hcb := hcm.out c hck.mem
        have hsucc : Hid (((cs.take (k + 1)).map fun c => (plansOf h c).map (lateOf h)) = acc ++ [(plansOf h c).map (lateOf h)]) := by
          show _ = _
          rw [hck.take, List.map_append, hacc.out]; rfl
        obtain ⟨l, hl⟩ : ∃ l, Hid (l = plansOf h c) := ⟨_, rfl⟩
        have hpl := plansOf_isPlan hV c
        have hln := plansOf_len hV c
        rw [← hl.out] at hpl hln hsucc
        replace hpl := Lib.hid hpl
        obtain ⟨av, cv, ev, _, _⟩ := hown.form
        subst ev
        go_upto_region 6 with fail
        go_cut [6] (fun u wx => ∃ H3, Ext w H wx H3 ∧ SLe Hr H3 ∧ Sl H3 u l ∧ Own H3 w.heap.size wx 63 (.slice av acc.length cv) acc)
        case first =>
          go_region_held3 (fun w' => Holds Hr w' ∧ Ext w H w' Hr) (first | assumption | exact ⟨by assumption, by assumption⟩ | (go_split_ands; exact ⟨Holds.drew (by assumption), Ext.drew (by assumption)⟩) | (go_split_ands; exact ⟨Holds.alloc (by assumption) _, Ext.alloc (by assumption) _⟩) | (go_split_ands; exact ⟨Holds.drew (Holds.alloc (by assumption) _), Ext.drew (Ext.alloc (by assumption) _)⟩)) (first | ((go_split_ands; go_at_call 75; refine (plansOf4_any _ _ _ _ c Hr _ (by assumption) hhr hV (by omega)).mono ?_; rintro e w' ⟨v, H', rfl, hx', ho'⟩; rw [← hl.out] at ho'; obtain ⟨H3, hx3, hle3, hs3, _⟩ := ho'.close hx'; have hle23 := hx3.le (by assumption); have hownC := hown.drew.ext (by assumption) hx3; have hk5 := (by assumption : Ext w H _ Hr).trans hx3; have hk1 : Holds Hr w' := hx3.holds.mono hle23; have hk2 : Ext w H w' Hr := hk5.back (by assumption) hle23)))
          all_goals
            go_wp2_with fail
            go_meet
            exact ⟨H3, hk5, hle23, hs3, hownC⟩
        case rest =>
          obtain ⟨H3, hx3, hle3, hs3, hownL⟩ := hcut
          obtain ⟨al, cl, rfl, _, _⟩ := hs3.form
          replace hd0 := lift hle3 hd0
          replace hd1 := lift hle3 hd1
          replace hd2 := lift hle3 hd2
          replace hd3 := lift hle3 hd3
          have hhm3 := hhr.mono hle3
          have hw3 := hx3.holds
          clear hwr
          go_wp2_with fail
          go_loopw [7, 8] (fun v i wr => ∃ (j : Nat) (ac : List (List Int)) (Hq : Snap), j ≤ l.length ∧ i = .int .i64 j ∧ Hid (ac = (l.take j).map (lateOf h)) ∧ ac.length ≤ j ∧ Ext wc H3 wr Hq ∧ SLe H3 Hq ∧ Own Hq wc.heap.size wr 24 v ac) (fun _ i _ => l.length - (intOf i).toNat)
          case atStart => exact ⟨0, [], H3, Nat.zero_le _, rfl, rfl, by simp, Ext.refl hw3, SLe.refl _, Own.nil _ _ _ _⟩
          case round =>
            obtain ⟨j, ac, Hq, hj, rfl, hac, hacl2, hxq, hleq, hownq⟩ := hrel
            have hwq := hxq.holds
            have he0 := lift hleq hd0
            have he1 := lift hleq hd1
            have he2 := lift hleq hd2
            have he3 := lift hleq hd3
            have hhq := hhm3.mono hleq
            obtain ⟨av7, cv7, ev7, _, _⟩ := hownq.form
            subst ev7
            by_cases hlj : j < l.length
            · obtain ⟨p, hpj⟩ := At.mk hlj
              obtain ⟨bp, op, cp, up, he', hup, hcp⟩ := hs3.list hpj
              cases he'
              replace hcp := lift hleq hcp
              replace hup := hup.mono hleq
              have hpp := Lib.hid (hpl.out p hpj.mem)
              obtain ⟨ll, hll⟩ : ∃ ll, Hid (ll = lateOf h p) := ⟨_, rfl⟩
              have hsuccp : Hid (((l.take (j + 1)).map (lateOf h)) = ac ++ [ll]) := by
                show _ = _
                rw [hpj.take, List.map_append, hac.out, hll.out]; rfl
              go_upto_region 11 with fail
              go_region_held3 (fun w' => Holds Hq w' ∧ Ext wc H3 w' Hq) (first | assumption | exact ⟨by assumption, by assumption⟩ | (go_split_ands; exact ⟨Holds.drew (by assumption), Ext.drew (by assumption)⟩) | (go_split_ands; exact ⟨Holds.alloc (by assumption) _, Ext.alloc (by assumption) _⟩) | (go_split_ands; exact ⟨Holds.drew (Holds.alloc (by assumption) _), Ext.drew (Ext.alloc (by assumption) _)⟩)) (first | ((go_split_ands; refine step_appCX (w0 := wc) (H0 := H3) eList rfl _ _ rfl (hx4.alloc _) rfl (hown4.alloc _) rfl ⟨_, rfl, hs4⟩ (one_cell (by simp [go_sem])) (by simp [Enc.by_]; omega) (by omega) ?_; intro vB wB hownB hxB hwB hgB; have hk3 : Holds Hq wB := hwB.mono hleq4; have hk4 : Ext wc H3 wB Hq := hxB.back hxq hleq4)) | ((go_split_ands; go_at_call 63; refine (lateOf4_any _ _ _ _ _ _ Hq _ (by assumption) hhq hup hV hpp.out).mono ?_; rintro e w' ⟨v, H4, rfl, hx', hs4⟩; rw [← hll.out] at hs4; obtain ⟨a', c', rfl, _, _⟩ := hs4.form; have hleq4 := hx'.le (by assumption); have hx4 := hxq.drew.trans hx'; have hown4 := hownq.drew.ext (by assumption) hx'; have hk1 : Holds Hq w' := hx'.old (by assumption); have hk2 : Ext wc H3 w' Hq := hx4.back hxq hleq4)))
              all_goals
                go_wp2_with fail
                go_roundw
                case rel => exact ⟨j + 1, ac ++ [ll], H4, by omega, by go_num, hsuccp.out.symm, by simp; omega, hxB, hleq.trans hleq4, hownB⟩
                case measure => simp [intOf]; omega
            · have hac2 : Hid (ac = l.map (lateOf h)) := by
                show _ = _
                rw [hac.out, take_all (xs := l) (k := j) (by omega)]
              rw [← hac2.out] at hsucc
              obtain ⟨H6, hx6, hle6, hs6, _⟩ := hownq.close hxq
              have hownL6 := hownL.ext hw3 hx6
              have hxL6 := hx3.trans hx6
              go_wp2_with (first | ((at_builtin; have hgd := hownL6; clear hgd; refine wpList_app1L eLists _ _ hxL6 hownL6 ac hs6 (by omega) rfl rfl rfl rfl ?_; intro vA wA hownA hxA hwA)))
              go_roundw
              case rel => exact ⟨k + 1, acc ++ [ac], H6, by omega, by go_num, by show _ = _; rw [hsucc.out], by simp; omega, hxA, hler.trans (hle3.trans (hleq.trans hle6)), hownA⟩
              case measure => simp [intOf]; omega
      · go_wp2_with fail
        go_meet
        obtain ⟨H', hx', hle', hs', _⟩ := hown.close hxr
        refine ⟨H', hx', hler.trans hle', ?_⟩
        rw [hlates.out, ← take_all (xs := cs) (k := k) (by omega), ← hacc.out]
        exact hs'
  case rest =>
    obtain ⟨H5, hx5, hle5, hs5'⟩ := hcut
    replace hc0 := lift hle5 hc0
    replace hc1 := lift hle5 hc1
    replace hc2 := lift hle5 hc2
    replace hc3 := lift hle5 hc3
    clear hx3 hs5
    obtain ⟨late, hlate⟩ : ∃ late, Hid (late = lates h) := ⟨_, rfl⟩
    rw [← hlate.out] at hs5'
    obtain ⟨alt, clt, rfl, _, _⟩ := hs5'.form
    have hok : Hid (∀ l, okTold h l = late.all fun x => reach x l) := Lib.hid fun l => by rw [hlate.out]; rfl
    obtain ⟨nt, hnt⟩ : ∃ nt, Hid (nt = h.ts.length) := ⟨_, rfl⟩
    rw [← hnt.out] at ht4 htold
    go_wp2_with fail
    go_loopw [9, 10, 11, 12, 13] (fun i _ _ _ _ wr => ∃ (m : Nat), m ≤ nt ∧ i = .int .i64 m ∧ Hid (((List.range m).flatMap fun many => listsOf many nt).find? (okTold h) = none) ∧ Ext w H wr H5) (fun i _ _ _ _ _ => nt - (intOf i).toNat)
    case atStart => exact ⟨0, Nat.zero_le _, rfl, rfl, hx5⟩
    case round =>
      clear hx5
      obtain ⟨m, hm, rfl, hnone, hxr⟩ := hrel
      have hwr := hxr.holds
      by_cases hlm : m < nt
      · have hlm' : m < h.ts.length := by rw [← hnt.out]; exact hlm
        obtain ⟨l, hl⟩ : ∃ l, Hid (l = listsOf m nt) := ⟨_, rfl⟩
        have hlen : l.length ≤ 1000 := by rw [hl.out]; exact listsOf_len (by omega) ht4
        go_wp2_with (first | (go_at_call 105; refine (listsOf4_any m _ (by omega) (by rw [← hnt.out]; exact ht4) _ _ hwr).mono ?_; rintro e w' ⟨v, H', rfl, hx', ho'⟩; rw [← hnt.out, ← hl.out] at ho'; obtain ⟨H6, hx6, hle6, hs6, _⟩ := ho'.close hx'; have hle56 := hx6.le hwr; have hxq := hxr.trans hx6; obtain ⟨al, cl, rfl, _, _⟩ := hs6.form))
        have hs6' := hs5'.mono hle56
        clear hx' ho' hx6 hle6 hwr
        go_loopw [11, 12, 13] (fun i _ _ wr => ∃ (j : Nat), j ≤ l.length ∧ i = .int .i64 j ∧ Hid ((l.take j).find? (okTold h) = none) ∧ Ext w H wr H6) (fun i _ _ _ => l.length - (intOf i).toNat)
        case atStart => exact ⟨0, Nat.zero_le _, rfl, rfl, hxq⟩
        case round =>
          clear hxq
          obtain ⟨j, hj, rfl, hnj, hxq⟩ := hrel
          by_cases hlj : j < l.length
          · obtain ⟨x, hxj⟩ := At.mk hlj
            obtain ⟨bp, op, cp, up, he', hup, hcp⟩ := hs6.list hxj
            cases he'
            go_wp2_with fail
            go_loopw [12, 13] (fun a i wr => ∃ (q : Nat), q ≤ late.length ∧ i = .int .i64 q ∧ a = .bool ((late.take q).all fun y => reach y x) ∧ Ext w H wr H6) (fun _ i _ => late.length - (intOf i).toNat)
            case atStart => exact ⟨0, Nat.zero_le _, rfl, rfl, hxq⟩
            case round =>
              clear hxq
              obtain ⟨q, hq, rfl, rfl, hxq⟩ := hrel
              have hwq := hxq.holds
              by_cases hlq : q < late.length
              · obtain ⟨y, hyq⟩ := At.mk hlq
                obtain ⟨by', oy, cy, uy, he', huy, hcy⟩ := hs6'.list hyq
                cases he'
                have hsucc : Hid (((late.take (q + 1)).all fun y => reach y x) = (((late.take q).all fun y => reach y x) && reach y x)) := by
                  show _ = _
                  rw [hyq.take, List.all_append]; simp
                cases hin : (late.take q).all fun y => reach y x
                all_goals
                  go_wp2_with fail
                  refine wp_region_quietB H6 (by kernel_rfl) (by kernel_rfl) hwq (fun hne => ?_)
                  repeat go_big_quiet_step ((first | (go_at_call 106; exact Calls.quietB (reach4_any _ _ _ _ _ _ (WB.holds _) huy hup))))
                  refine wpQuiet_nil ?_
                  rintro ⟨w2, hw2, hb2⟩
                  clear hne
                  go_wp2_with fail
                  go_roundw
                  case rel => exact ⟨q + 1, by omega, by go_num, by rw [hsucc.out, hin]; simp, hxq.step (hb2.mono hxq.below.size) hw2⟩
                  case measure => simp [intOf]; omega
              · have hall : late.take q = late := take_all (xs := late) (k := q) (by omega)
                cases hin : (late.take q).all fun y => reach y x
                · have hokx : Hid (okTold h x = false) := Lib.hid (by rw [hok.out, ← hall]; exact hin)
                  replace hall := Lib.hid hall
                  go_wp2_with fail
                  go_roundw
                  case rel => exact ⟨j + 1, by omega, by go_num, find_take hxj hnj.out hokx.out, hxq⟩
                  case measure => simp [intOf]; omega
                · have hokx : Hid (okTold h x = true) := Lib.hid (by rw [hok.out, ← hall]; exact hin)
                  replace hall := Lib.hid hall
                  go_wp2_with fail
                  go_ret
                  refine ⟨_, H6, rfl, hxq, ?_⟩
                  rw [htold.out, find_found (f := fun many => listsOf many nt) hlm hnone.out (by rw [← hl.out]; exact hxj) (by rw [← hl.out]; exact hnj.out) hokx.out]
                  exact hup
          · have hno : Hid ((listsOf m nt).find? (okTold h) = none) := by
              show _ = _
              rw [← hl.out, ← take_all (xs := l) (k := j) (by omega)]; exact hnj.out
            go_wp2_with fail
            go_roundw
            case rel => exact ⟨m + 1, by omega, by go_num, find_succ (f := fun many => listsOf many nt) hnone.out hno.out, hxq.back hxr hle56⟩
            case measure => simp [intOf]; omega
      · have hlm' : ¬ m < h.ts.length := by rw [← hnt.out]; exact hlm
        obtain ⟨l, hl⟩ : ∃ l, Hid (l = listsOf nt nt) := ⟨_, rfl⟩
        have hne : 0 < l.length := by rw [hl.out]; exact listsOf_ne nt
        obtain ⟨x, hx0⟩ := At.mk hne
        go_wp2_with (first | (go_at_call 105; refine (listsOf4_any _ _ (by rw [← hnt.out]; exact ht4) (by rw [← hnt.out]; exact ht4) _ _ hwr).mono ?_; rintro e w' ⟨v, H', rfl, hx', ho'⟩; rw [← hnt.out, ← hl.out] at ho'; obtain ⟨H6, hx6, hle6, hs6, _⟩ := ho'.close hx'; have hxq := hxr.trans hx6; have hwq := hxq.holds; obtain ⟨al, cl, rfl, _, _⟩ := hs6.form; obtain ⟨bp, op, cp, up, he', hup, hcp⟩ := hs6.list hx0; cases he'; rw [Nat.add_zero] at hcp))
        go_ret
        refine ⟨_, H6, rfl, hxq, ?_⟩
        have hmn : m = nt := by omega
        subst hmn
        rw [htold.out, hnone.out, ← hl.out, hx0.getD]
        exact hup

def toldA (h : House) : List Int := if valid h then toldOf h else []
def sureA (h : House) : Bool := valid h && decide ((toldOf h).length = 0)

theorem told4_any (vm vb vt : Value) (h : House) (H : Snap) (w : World) (hw : Holds H w) (hh : Hou H vm vb vt h) :
    Calls Try.prog 42 #[houV vm vb vt h] w (Post w H fun v H' => ∃ u, v = .tuple #[u, .int .i64 (errT (valid h))] ∧ Sl H' u (toldA h)) := by
  cases hv : valid h
  · have he : errT (valid h) = 40 := by rw [hv]; rfl
    go_enter Try.func42, Try.ntmps42
    go_wp2_with (first | (refine wpList_boxF rfl _ rfl (Ext.refl hw) ?_; intro B w1 H1 hle hx hB hBw; obtain ⟨hc0, hc1, hc2, hc3⟩ := cellsHou hB; clear hB hw; have hw1 := hx.holds) | (go_at_call 35; refine (check4_any _ _ _ _ _ _ hw1 (hh.mono hle)).mono ?_; rintro e w' ⟨rfl, hb2⟩))
    go_ret2
    exact ⟨_, H1, rfl, hx.step (hb2.mono hx.below.size) (hw1.below hb2), _, rfl, by unfold toldA; rw [hv]; exact Sl.nil0 _⟩
  · have he : errT (valid h) = 0 := by rw [hv]; rfl
    have hV := valid_iff.1 hv
    go_enter Try.func42, Try.ntmps42
    go_wp2_with (first | (refine wpList_boxF rfl _ rfl (Ext.refl hw) ?_; intro B w1 H1 hle hx hB hBw; obtain ⟨hc0, hc1, hc2, hc3⟩ := cellsHou hB; clear hB hw; have hw1 := hx.holds) | (go_at_call 35; refine (check4_any _ _ _ _ _ _ hw1 (hh.mono hle)).mono ?_; rintro e w' ⟨rfl, hb2⟩; have hw2 := hw1.below hb2) | (go_at_call 82; refine (toldOf4_any _ _ _ _ _ _ hw2 (hh.mono hle) hV).mono ?_; rintro e w' ⟨v, H3, rfl, hx3, hs3⟩))
    go_ret2
    exact ⟨_, H3, rfl, (hx.step (hb2.mono hx.below.size) hw2).trans hx3, _, rfl, by unfold toldA; rw [hv]; exact hs3⟩

theorem sure4_any (vm vb vt : Value) (h : House) (H : Snap) (w : World) (hw : Holds H w) (hh : Hou H vm vb vt h) :
    Calls Try.prog 40 #[houV vm vb vt h] w (PostV w (.tuple #[.bool (sureA h), .int .i64 (errT (valid h))])) := by
  cases hv : valid h
  · have he : errT (valid h) = 40 := by rw [hv]; rfl
    have hs : sureA h = false := by unfold sureA; rw [hv]; rfl
    go_enter Try.func40, Try.ntmps40
    go_wp2_with (first | (refine wpList_boxF rfl _ rfl (Ext.refl hw) ?_; intro B w1 H1 hle hx hB hBw; obtain ⟨hc0, hc1, hc2, hc3⟩ := cellsHou hB; clear hB hw; have hw1 := hx.holds) | (go_at_call 35; refine (check4_any _ _ _ _ _ _ hw1 (hh.mono hle)).mono ?_; rintro e w' ⟨rfl, hb2⟩))
    go_ret2
    exact ⟨by rw [hs]; rfl, hx.below.trans (hb2.mono hx.below.size)⟩
  · have he : errT (valid h) = 0 := by rw [hv]; rfl
    have hV := valid_iff.1 hv
    have hs : Hid (sureA h = decide ((toldOf h).length = 0)) := by show _ = _; unfold sureA; rw [hv]; rfl
    obtain ⟨l, hl⟩ : ∃ l, Hid (l = toldOf h) := ⟨_, rfl⟩
    rw [← hl.out] at hs
    go_enter Try.func40, Try.ntmps40
    go_wp2_with (first | (refine wpList_boxF rfl _ rfl (Ext.refl hw) ?_; intro B w1 H1 hle hx hB hBw; obtain ⟨hc0, hc1, hc2, hc3⟩ := cellsHou hB; clear hB hw; have hw1 := hx.holds) | (go_at_call 35; refine (check4_any _ _ _ _ _ _ hw1 (hh.mono hle)).mono ?_; rintro e w' ⟨rfl, hb2⟩; have hw2 := hw1.below hb2) | (go_at_call 82; refine (toldOf4_any _ _ _ _ _ _ hw2 (hh.mono hle) hV).mono ?_; rintro e w' ⟨v, H3, rfl, hx3, hs3⟩; rw [← hl.out] at hs3; obtain ⟨a', c', rfl, _, _⟩ := hs3.form))
    go_ret2
    refine ⟨?_, (hx.step (hb2.mono hx.below.size) hw2).trans hx3 |>.below⟩
    have key : ((l.length : Int) == 0) = decide (l.length = 0) := by
      cases l with
      | nil => rfl
      | cons x l => simp; omega
    rw [hs.out, ← key]
    rfl

end Go.Proofs.Yteijmboophnmgaa
