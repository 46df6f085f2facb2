/- The walks of flongref04: Wait, Spare. The walk of flongref04.Spare. -/
import Derived.Test.YteijmboophnmgaaRef4g

namespace Go.Proofs.Yteijmboophnmgaa
open Go.RowKit

attribute [local go_sem] Holds.drew Holds.alloc Holds.drewN WB.holds

def waitErr (h : House) (t : Int) : Int := if valid h && within t 0 ((h.ts.length : Int) - 1) then (if 99 - h.ts.getD t.toNat 0 < waitRaw h t then 3 else 0) else errA (valid h) (within t 0 ((h.ts.length : Int) - 1))
def waitVal (h : House) (t : Int) : Int := if valid h && within t 0 ((h.ts.length : Int) - 1) then (if 99 - h.ts.getD t.toNat 0 < waitRaw h t then 0 else waitRaw h t) else 0

set_option maxRecDepth 100000 in
set_option maxHeartbeats 4000000 in
theorem wait4_any (vm vb vt : Value) (h : House) (t : Int) (H : Snap) (w : World) (hw : Holds H w) (hh : Hou H vm vb vt h) :
    Calls Try.prog 30 #[houV vm vb vt h, .int .i64 t] w (PostV w (.tuple #[.int .i64 (waitVal h t), .int .i64 (waitErr h t)])) := by
  obtain ⟨at', ct, rfl, ht1, ht2⟩ := hh.t.form
  cases hv : (valid h && within t 0 ((h.ts.length : Int) - 1))
  · have he : errA (valid h) (within t 0 ((h.ts.length : Int) - 1)) = 40 ∨ errA (valid h) (within t 0 ((h.ts.length : Int) - 1)) = 1 := by
      cases h1 : valid h <;> cases h2 : within t 0 ((h.ts.length : Int) - 1) <;> simp_all [errA]
    have hwv : waitVal h t = 0 := by unfold waitVal; rw [hv]; rfl
    have hwe : waitErr h t = errA (valid h) (within t 0 ((h.ts.length : Int) - 1)) := by unfold waitErr; rw [hv]; rfl
    rw [hwv, hwe]
    clear hwv hwe
    rcases he with he | he
    all_goals
      go_enter Try.func30, Try.ntmps30
      go_wp2_with (first | (refine wpList_boxF rfl _ rfl (Ext.refl hw) ?_; intro B w1 H1 hle hx hB hBw; obtain ⟨hc0, hc1, hc2, hc3⟩ := cellsHou hB; clear hB hw; have hw1 := hx.holds))
      refine wp_region_quietB H1 (by kernel_rfl) (by kernel_rfl) hw1 (fun hne => ?_)
      repeat go_big_quiet_step ((first | (go_at_call 22; exact Calls.quietB (isTrain4_any _ _ _ _ _ _ _ (WB.holds _) (hh.mono hle))) | (go_at_call 73; exact Calls.quietB (ask4_any _ _ _ _ _ _ _ (WB.holds _) (hh.mono hle)))))
      refine wpQuiet_nil ?_
      rintro ⟨w2, hw2, hb2⟩
      clear hne
      go_wp2_with fail
      go_ret2
      exact ⟨by rw [he]; rfl, hx.below.trans (hb2.mono hx.below.size)⟩
  · have hwv : waitVal h t = if 99 - h.ts.getD t.toNat 0 < waitRaw h t then 0 else waitRaw h t := by unfold waitVal; rw [if_pos hv]
    have hwe : waitErr h t = if 99 - h.ts.getD t.toNat 0 < waitRaw h t then 3 else 0 := by unfold waitErr; rw [if_pos hv]
    simp only [Bool.and_eq_true] at hv
    obtain ⟨hv1, hv2⟩ := hv
    have he : errA (valid h) (within t 0 ((h.ts.length : Int) - 1)) = 0 := by simp [errA, hv1, hv2]
    have hV := valid_iff.1 hv1
    have hmb := within_iff.1 hv2
    clear hv1 hv2
    obtain ⟨t, rfl⟩ := Int.eq_ofNat_of_zero_le hmb.1
    have htl : t < h.ts.length := by omega
    obtain ⟨tr, htr⟩ := At.mk htl
    rw [Int.toNat_natCast, htr.getD] at hwv hwe
    have htrb := ts_bd hV htr
    clear hmb
    have hm3 := hV.m3
    have hcm : ∀ c ∈ casesOf h, -1 ≤ c ∧ c < h.ms.length := fun c hc => casesOf_mem hc
    have hraw : Hid (waitRaw h t = (casesOf h).foldl (fun o c => max o (waitCase h t c)) 0) := rfl
    have hclen : (casesOf h).length ≤ 4 := Nat.le_trans (casesTo_len h _) (by omega)
    obtain ⟨cs, hcs⟩ : ∃ cs, Hid (cs = casesOf h) := ⟨_, rfl⟩
    rw [← hcs.out] at hcm hraw hclen
    replace hwv := Lib.hid hwv
    replace hwe := Lib.hid hwe
    replace hcm := Lib.hid hcm
    go_enter Try.func30, Try.ntmps30
    go_wp2_with (first | (refine wpList_boxF rfl _ rfl (Ext.refl hw) ?_; intro B w1 H1 hle hx hB hBw; obtain ⟨hc0, hc1, hc2, hc3⟩ := cellsHou hB; clear hB hw; have hw1 := hx.holds))
    refine wp_region_quietB H1 (by kernel_rfl) (by kernel_rfl) hw1 (fun hne => ?_)
    repeat go_big_quiet_step ((first | (go_at_call 22; exact Calls.quietB (isTrain4_any _ _ _ _ _ _ _ (WB.holds _) (hh.mono hle))) | (go_at_call 73; exact Calls.quietB (ask4_any _ _ _ _ _ _ _ (WB.holds _) (hh.mono hle)))))
    refine wpQuiet_nil ?_
    rintro ⟨w2, hw2, hb2⟩
    clear hne
    have hx2 := hx.step (hb2.mono hx.below.size) hw2
    try clear h
    go_wp2_with (first | (go_at_call 74; refine (casesOf4_any _ _ _ _ _ _ hw2 (hh.mono hle) hV).mono ?_; rintro e w' ⟨v5, H2, rfl, hx5, hs5⟩; rw [← hcs.out] at hs5; obtain ⟨a5, c5, rfl, _, _⟩ := hs5.form; have hw3 := hx5.holds))
    try clear h
    have hle2 := hx5.le hw2
    replace hc0 := lift hle2 hc0
    replace hc1 := lift hle2 hc1
    replace hc2 := lift hle2 hc2
    replace hc3 := lift hle2 hc3
    have hhm := (hh.mono hle).mono hle2
    have hx3 := hx2.trans hx5
    clear hx2 hx5 hw3 hle2
    go_loopw [7, 9, 10, 11, 12, 13] (fun o i _ _ _ _ wr => ∃ (k : Nat) (ov : Int), k ≤ cs.length ∧ i = .int .i64 k ∧ o = .int .i64 ov ∧ Hid (ov = (cs.take k).foldl (fun o c => max o (waitCase h t c)) 0) ∧ (0 ≤ ov ∧ ov ≤ 100000) ∧ Ext w H wr H2) (fun _ i _ _ _ _ _ => cs.length - (intOf i).toNat)
    case atStart => exact ⟨0, 0, Nat.zero_le _, rfl, rfl, rfl, by omega, hx3⟩
    case round =>
      clear hx3
      obtain ⟨k, ov, hk, rfl, rfl, hov, hovb, hxr⟩ := hrel
      have hwr := hxr.holds
      by_cases hlk : k < cs.length
      · obtain ⟨c, hck⟩ := At.mk hlk
        obtain ⟨bc, oc, cc, he', hic, hcc⟩ := hs5.int hck
        cases he'
        have hcb := hcm.out c hck.mem
        have hsucc := foldl_take (f := fun o c => max o (waitCase h t c)) hck (0 : Int)
        rw [← hov.out] at hsucc
        replace hsucc := Lib.hid hsucc
        obtain ⟨l, hl⟩ : ∃ l, Hid (l = plansOf h c) := ⟨_, rfl⟩
        have hpl := plansOf_isPlan hV c
        have hln := plansOf_len hV c
        have hwc : Hid (waitCase h t c = (plansOf h c).foldl (waitPlan h t) 100000) := rfl
        rw [← hl.out] at hpl hln hwc
        replace hpl := Lib.hid hpl
        go_upto_region 9 with fail
        go_cut [10] (fun v wx => ∃ H3, Ext w H wx H3 ∧ SLe H2 H3 ∧ Sl H3 v l)
        case first =>
          go_region_held3 (fun w' => Holds H2 w' ∧ Ext w H w' H2) (first | assumption | exact ⟨by assumption, by assumption⟩ | (go_split_ands; exact ⟨Holds.drew (by assumption), Ext.drew (by assumption)⟩) | (go_split_ands; exact ⟨Holds.alloc (by assumption) _, Ext.alloc (by assumption) _⟩) | (go_split_ands; exact ⟨Holds.drew (Holds.alloc (by assumption) _), Ext.drew (Ext.alloc (by assumption) _)⟩)) (first | ((go_split_ands; go_at_call 75; refine (plansOf4_any _ _ _ _ c H2 _ (by assumption) hhm hV (by omega)).mono ?_; rintro e w' ⟨v, H', rfl, hx', ho'⟩; rw [← hl.out] at ho'; obtain ⟨H3, hx3, hle3, hs3, _⟩ := ho'.close hx'; have hle23 := hx3.le (by assumption); have hk5 := (by assumption : Ext w H _ H2).trans hx3; have hk1 : Holds H2 w' := hx3.holds.mono hle23; have hk2 : Ext w H w' H2 := hk5.back (by assumption) hle23)))
          all_goals
            go_wp2_with fail
            go_meet
            exact ⟨H3, hk5, hle23, hs3⟩
        case rest =>
          obtain ⟨H3, hx3, hle3, hs3⟩ := hcut
          obtain ⟨al, cl, rfl, _, _⟩ := hs3.form
          have hd0 := lift hle3 hc0
          have hd1 := lift hle3 hc1
          have hd2 := lift hle3 hc2
          have hd3 := lift hle3 hc3
          have hhm3 := hhm.mono hle3
          clear hwr
          go_wp2_with fail
          go_loopw [11, 12, 13] (fun o i _ wr => ∃ (j : Nat) (lv : Int), j ≤ l.length ∧ i = .int .i64 j ∧ o = .int .i64 lv ∧ Hid (lv = (l.take j).foldl (waitPlan h t) 100000) ∧ (0 ≤ lv ∧ lv ≤ 100000) ∧ Ext w H wr H3) (fun _ i _ _ => l.length - (intOf i).toNat)
          case atStart => exact ⟨0, 100000, Nat.zero_le _, rfl, rfl, rfl, by omega, hx3⟩
          case round =>
            clear hx3
            obtain ⟨j, lv, hj, rfl, rfl, hlv, hlvb, hxq⟩ := hrel
            have hwq := hxq.holds
            by_cases hlj : j < l.length
            · obtain ⟨p, hpj⟩ := At.mk hlj
              obtain ⟨bp, op, cp, up, he', hup, hcp⟩ := hs3.list hpj
              cases he'
              have hpp := hpl.out p hpj.mem
              have hobd := overOf_bd hV hpp t
              have hsuccp : (l.take (j + 1)).foldl (waitPlan h t) 100000 = if lateOf h p = [] ∨ lateOf h p = [(t : Int)] then min lv (max 0 (overOf h p t)) else lv := by
                rw [foldl_take hpj, ← hlv.out]; rfl
              replace hpp := Lib.hid hpp
              obtain ⟨ll, hll⟩ : ∃ ll, Hid (ll = lateOf h p) := ⟨_, rfl⟩
              rw [← hll.out] at hsuccp
              replace hsuccp := Lib.hid hsuccp
              go_upto_region 14 with fail
              go_cut [13] (fun v wx => ∃ H4, Ext w H wx H4 ∧ SLe H3 H4 ∧ Sl H4 v ll)
              case first =>
                go_region_held3 (fun w' => Holds H3 w' ∧ Ext w H w' H3) (first | assumption | exact ⟨by assumption, by assumption⟩ | (go_split_ands; exact ⟨Holds.drew (by assumption), Ext.drew (by assumption)⟩) | (go_split_ands; exact ⟨Holds.alloc (by assumption) _, Ext.alloc (by assumption) _⟩) | (go_split_ands; exact ⟨Holds.drew (Holds.alloc (by assumption) _), Ext.drew (Ext.alloc (by assumption) _)⟩)) (first | ((go_split_ands; go_at_call 63; refine (lateOf4_any _ _ _ _ _ _ H3 _ (by assumption) hhm3 hup hV hpp.out).mono ?_; rintro e w' ⟨v, H', rfl, hx', ho'⟩; rw [← hll.out] at ho'; have hle34 := hx'.le (by assumption); have hk5 := (by assumption : Ext w H _ H3).trans hx'; have hk1 : Holds H3 w' := hx'.old (by assumption); have hk2 : Ext w H w' H3 := hk5.back (by assumption) hle34)))
                all_goals
                  go_wp2_with fail
                  go_meet
                  exact ⟨H', hk5, hle34, ho'⟩
              case rest =>
                obtain ⟨H4, hx4, hle4, hs4⟩ := hcut
                have hw4 := hx4.holds
                obtain ⟨a4, c4, rfl, _, _⟩ := hs4.form
                have hf0 := lift hle4 hd0
                have hf1 := lift hle4 hd1
                have hf2 := lift hle4 hd2
                have hf3 := lift hle4 hd3
                have hcp4 := lift hle4 hcp
                have hhm4 := hhm3.mono hle4
                have hup4 := hup.mono hle4
                clear hwq
                cases g0 : ((ll.length : Int) == 0)
                · cases g1 : ((ll.length : Int) == 1)
                  · have hno : Hid (¬ (ll = [] ∨ ll = [(t : Int)])) := Lib.hid (by
                      rintro (e | e)
                      · rw [e] at g0; simp at g0
                      · rw [e] at g1; simp at g1)
                    go_wp2_with fail
                    go_roundw
                    case rel => exact ⟨j + 1, lv, by omega, by go_num, rfl, by show _ = _; rw [hsuccp.out, if_neg hno.out], hlvb, hx4.back hxq hle4⟩
                    case measure => simp [intOf]; omega
                  · have g1' : ll.length = 1 := by have : (ll.length : Int) = 1 := by simpa using g1
                                                   omega
                    obtain ⟨a, ha⟩ := At.mk (xs := ll) (k := 0) (by omega)
                    obtain ⟨ba, oa, ca, he', hia, hca⟩ := hs4.int ha
                    cases he'
                    rw [Nat.add_zero] at hca
                    have hla : Hid (ll = [a]) := Lib.hid (by
                      match ll, g1', ha with
                      | [x], _, ha => simp [At] at ha; rw [ha])
                    replace g1' := Lib.hid g1'
                    have hal := ha.lt
                    cases g2 : (a == (t : Int))
                    · have hno : Hid (¬ (ll = [] ∨ ll = [(t : Int)])) := Lib.hid (by
                        rw [hla.out]
                        rintro (e | e)
                        · cases e
                        · cases e; simp at g2)
                      go_wp2_with fail
                      go_roundw
                      case rel => exact ⟨j + 1, lv, by omega, by go_num, rfl, by show _ = _; rw [hsuccp.out, if_neg hno.out], hlvb, hx4.back hxq hle4⟩
                      case measure => simp [intOf]; omega
                    · have hyes : Hid (ll = [] ∨ ll = [(t : Int)]) := Lib.hid (.inr (by rw [hla.out]; simpa using g2))
                      go_wp2_with fail
                      refine wp_region_quietB H4 (by kernel_rfl) (by kernel_rfl) hw4 (fun hne => ?_)
                      repeat go_big_quiet_step ((first | (go_at_call 76; exact Calls.quietB (over4_any _ _ _ _ _ _ _ _ _ (WB.holds _) hhm4 hup4 hV hpp.out htl))))
                      refine wpQuiet_nil ?_
                      rintro ⟨w2, hw2, hb2⟩
                      clear hne
                      go_wp2_with fail
                      go_roundw
                      case rel => exact ⟨j + 1, min lv (max 0 (overOf h p t)), by omega, by go_num, by go_num, by show _ = _; rw [hsuccp.out, if_pos hyes.out], by omega, (hx4.step (hb2.mono hx4.below.size) hw2).back hxq hle4⟩
                      case measure => simp [intOf]; omega
                · have hyes : Hid (ll = [] ∨ ll = [(t : Int)]) := Lib.hid (.inl (by
                    have : (ll.length : Int) = 0 := by simpa using g0
                    exact List.eq_nil_of_length_eq_zero (by omega)))
                  go_wp2_with fail
                  refine wp_region_quietB H4 (by kernel_rfl) (by kernel_rfl) hw4 (fun hne => ?_)
                  repeat go_big_quiet_step ((first | (go_at_call 76; exact Calls.quietB (over4_any _ _ _ _ _ _ _ _ _ (WB.holds _) hhm4 hup4 hV hpp.out htl))))
                  refine wpQuiet_nil ?_
                  rintro ⟨w2, hw2, hb2⟩
                  clear hne
                  go_wp2_with fail
                  go_roundw
                  case rel => exact ⟨j + 1, min lv (max 0 (overOf h p t)), by omega, by go_num, by go_num, by show _ = _; rw [hsuccp.out, if_pos hyes.out], by omega, (hx4.step (hb2.mono hx4.below.size) hw2).back hxq hle4⟩
                  case measure => simp [intOf]; omega
            · have hlv2 : Hid (lv = waitCase h t c) := by
                show _ = _
                rw [hlv.out, take_all (xs := l) (k := j) (by omega), hwc.out]
              go_wp2_with fail
              go_roundw
              case rel => exact ⟨k + 1, max ov lv, by omega, by go_num, by go_num, by show _ = _; rw [hsucc.out, hlv2.out], by omega, hxq.back hxr hle3⟩
              case measure => simp [intOf]; omega
      · have hov2 : Hid (ov = waitRaw h t) := by
          show _ = _
          rw [hov.out, take_all (xs := cs) (k := k) (by omega), hraw.out]
        obtain ⟨bt, ot, ctt, het, hit, hct⟩ := hhm.t.int htr
        cases het
        cases glast : decide (99 - tr < ov)
        · have hg : ¬ (99 - tr < waitRaw h t) := by rw [← hov2.out]; simpa using glast
          replace hg := Lib.hid hg
          go_wp2_with fail
          go_ret2
          exact ⟨by rw [hwv.out, hwe.out, if_neg (by have := hg.out; omega), if_neg (by have := hg.out; omega), ← hov2.out]; rfl, hxr.below⟩
        · have hg : 99 - tr < waitRaw h t := by rw [← hov2.out]; simpa using glast
          replace hg := Lib.hid hg
          go_wp2_with fail
          go_ret2
          exact ⟨by rw [hwv.out, hwe.out, if_pos hg.out, if_pos hg.out]; rfl, hxr.below⟩

end Go.Proofs.Yteijmboophnmgaa

namespace Go.Proofs.Yteijmboophnmgaa
open Go.RowKit

attribute [local go_sem] Holds.drew Holds.alloc Holds.drewN WB.holds

def spareErr (h : House) : Int := if valid h then (if spareRaw h < 0 then 3 else 0) else 40
def spareVal (h : House) : Int := if valid h then (if spareRaw h < 0 then 0 else spareRaw h) else 0

set_option maxRecDepth 100000 in
set_option maxHeartbeats 4000000 in
theorem spare4_any (vm vb vt : Value) (h : House) (H : Snap) (w : World) (hw : Holds H w) (hh : Hou H vm vb vt h) :
    Calls Try.prog 31 #[houV vm vb vt h] w (PostV w (.tuple #[.int .i64 (spareVal h), .int .i64 (spareErr h)])) := by
  obtain ⟨at', ct, rfl, ht1, ht2⟩ := hh.t.form
  cases hv : valid h
  · have he : errT (valid h) = 40 := by rw [hv]; rfl
    have hwv : spareVal h = 0 := by unfold spareVal; rw [hv]; rfl
    have hwe : spareErr h = 40 := by unfold spareErr; rw [hv]; rfl
    rw [hwv, hwe]
    clear hwv hwe
    go_enter Try.func31, Try.ntmps31
    go_wp2_with (first | (refine wpList_boxF rfl _ rfl (Ext.refl hw) ?_; intro B w1 H1 hle hx hB hBw; obtain ⟨hc0, hc1, hc2, hc3⟩ := cellsHou hB; clear hB hw; have hw1 := hx.holds) | (go_at_call 35; refine (check4_any _ _ _ _ _ _ hw1 (hh.mono hle)).mono ?_; rintro e w' ⟨rfl, hb2⟩))
    go_ret2
    exact ⟨rfl, hx.below.trans (hb2.mono hx.below.size)⟩
  · have he : errT (valid h) = 0 := by rw [hv]; rfl
    have hwv : Hid (spareVal h = if spareRaw h < 0 then 0 else spareRaw h) := by show _ = _; unfold spareVal; rw [if_pos hv]
    have hwe : Hid (spareErr h = if spareRaw h < 0 then 3 else 0) := by show _ = _; unfold spareErr; rw [if_pos hv]
    have hV := valid_iff.1 hv
    have hm3 := hV.m3
    have ht4 := hV.t4
    have hcm : ∀ c ∈ casesOf h, -1 ≤ c ∧ c < h.ms.length := fun c hc => casesOf_mem hc
    have hraw : Hid (spareRaw h = (casesOf h).foldl (fun o c => min o (spareCase h c)) 99) := rfl
    have hclen : (casesOf h).length ≤ 4 := Nat.le_trans (casesTo_len h _) (by omega)
    obtain ⟨cs, hcs⟩ : ∃ cs, Hid (cs = casesOf h) := ⟨_, rfl⟩
    rw [← hcs.out] at hcm hraw hclen
    replace hcm := Lib.hid hcm
    go_enter Try.func31, Try.ntmps31
    go_wp2_with (first | (refine wpList_boxF rfl _ rfl (Ext.refl hw) ?_; intro B w1 H1 hle hx hB hBw; obtain ⟨hc0, hc1, hc2, hc3⟩ := cellsHou hB; clear hB hw; have hw1 := hx.holds) | (go_at_call 35; refine (check4_any _ _ _ _ _ _ hw1 (hh.mono hle)).mono ?_; rintro e w' ⟨rfl, hb2⟩; have hw2 := hw1.below hb2) | (go_at_call 74; refine (casesOf4_any _ _ _ _ _ _ hw2 (hh.mono hle) hV).mono ?_; rintro e w' ⟨v5, H2, rfl, hx5, hs5⟩; rw [← hcs.out] at hs5; obtain ⟨a5, c5, rfl, _, _⟩ := hs5.form; have hw3 := hx5.holds; have hle2 := hx5.le hw2))
    try clear h
    have hx2 := hx.step (hb2.mono hx.below.size) hw2
    replace hc0 := lift hle2 hc0
    replace hc1 := lift hle2 hc1
    replace hc2 := lift hle2 hc2
    replace hc3 := lift hle2 hc3
    have hhm := (hh.mono hle).mono hle2
    have hx3 := hx2.trans hx5
    clear hx2 hx5 hw3 hle2 hx
    go_loopw [5, 7, 8, 9, 10, 11, 12] (fun o i _ _ _ _ _ wr => ∃ (k : Nat) (ov : Int), k ≤ cs.length ∧ i = .int .i64 k ∧ o = .int .i64 ov ∧ Hid (ov = (cs.take k).foldl (fun o c => min o (spareCase h c)) 99) ∧ (-100000 ≤ ov ∧ ov ≤ 99) ∧ Ext w H wr H2) (fun _ i _ _ _ _ _ _ => cs.length - (intOf i).toNat)
    case atStart => exact ⟨0, 99, Nat.zero_le _, rfl, rfl, rfl, by omega, hx3⟩
    case round =>
      clear hx3
      obtain ⟨k, ov, hk, rfl, rfl, hov, hovb, hxr⟩ := hrel
      have hwr := hxr.holds
      by_cases hlk : k < cs.length
      · obtain ⟨c, hck⟩ := At.mk hlk
        obtain ⟨bc, oc, cc, he', hic, hcc⟩ := hs5.int hck
        cases he'
        have hcb := hcm.out c hck.mem
        have hsucc := foldl_take (f := fun o c => min o (spareCase h c)) hck (99 : Int)
        rw [← hov.out] at hsucc
        replace hsucc := Lib.hid hsucc
        obtain ⟨l, hl⟩ : ∃ l, Hid (l = plansOf h c) := ⟨_, rfl⟩
        have hpl := plansOf_isPlan hV c
        have hln := plansOf_len hV c
        have hwc : Hid (spareCase h c = (plansOf h c).foldl (fun m p => max m (sparePlan h p)) (-100000)) := rfl
        rw [← hl.out] at hpl hln hwc
        replace hpl := Lib.hid hpl
        go_upto_region 9 with fail
        go_cut [8] (fun v wx => ∃ H3, Ext w H wx H3 ∧ SLe H2 H3 ∧ Sl H3 v l)
        case first =>
          go_region_held3 (fun w' => Holds H2 w' ∧ Ext w H w' H2) (first | assumption | exact ⟨by assumption, by assumption⟩ | (go_split_ands; exact ⟨Holds.drew (by assumption), Ext.drew (by assumption)⟩) | (go_split_ands; exact ⟨Holds.alloc (by assumption) _, Ext.alloc (by assumption) _⟩) | (go_split_ands; exact ⟨Holds.drew (Holds.alloc (by assumption) _), Ext.drew (Ext.alloc (by assumption) _)⟩)) (first | ((go_split_ands; go_at_call 75; refine (plansOf4_any _ _ _ _ c H2 _ (by assumption) hhm hV (by omega)).mono ?_; rintro e w' ⟨v, H', rfl, hx', ho'⟩; rw [← hl.out] at ho'; obtain ⟨H3, hx3, hle3, hs3, _⟩ := ho'.close hx'; have hle23 := hx3.le (by assumption); have hk5 := (by assumption : Ext w H _ H2).trans hx3; have hk1 : Holds H2 w' := hx3.holds.mono hle23; have hk2 : Ext w H w' H2 := hk5.back (by assumption) hle23)))
          all_goals
            go_wp2_with fail
            go_meet
            exact ⟨H3, hk5, hle23, hs3⟩
        case rest =>
          obtain ⟨H3, hx3, hle3, hs3⟩ := hcut
          obtain ⟨al, cl, rfl, _, _⟩ := hs3.form
          have hd0 := lift hle3 hc0
          have hd1 := lift hle3 hc1
          have hd2 := lift hle3 hc2
          have hd3 := lift hle3 hc3
          have hhm3 := hhm.mono hle3
          clear hwr
          go_wp2_with fail
          go_loopw [9, 10, 11, 12] (fun o i _ _ wr => ∃ (j : Nat) (lv : Int), j ≤ l.length ∧ i = .int .i64 j ∧ o = .int .i64 lv ∧ Hid (lv = (l.take j).foldl (fun m p => max m (sparePlan h p)) (-100000)) ∧ (-100000 ≤ lv ∧ lv ≤ 100000) ∧ Ext w H wr H3) (fun _ i _ _ _ => l.length - (intOf i).toNat)
          case atStart => exact ⟨0, -100000, Nat.zero_le _, rfl, rfl, rfl, by omega, hx3⟩
          case round =>
            clear hx3
            obtain ⟨j, lv, hj, rfl, rfl, hlv, hlvb, hxq⟩ := hrel
            have hwq := hxq.holds
            by_cases hlj : j < l.length
            · obtain ⟨p, hpj⟩ := At.mk hlj
              obtain ⟨bp, op, cp, up, he', hup, hcp⟩ := hs3.list hpj
              cases he'
              have hpp := hpl.out p hpj.mem
              have hsuccp := foldl_take (f := fun m p => max m (sparePlan h p)) hpj (-100000 : Int)
              rw [← hlv.out] at hsuccp
              replace hsuccp := Lib.hid hsuccp
              have hobd : ∀ t : Int, -100000 ≤ overOf h p t ∧ overOf h p t ≤ 100000 := overOf_bd hV hpp
              replace hobd := Lib.hid hobd
              replace hpp := Lib.hid hpp
              go_wp2_with fail
              go_loopw [11, 12] (fun o i wr => ∃ (m : Nat) (mv : Int), m ≤ h.ts.length ∧ i = .int .i64 m ∧ o = .int .i64 mv ∧ Hid (mv = sparePlanTo h p m) ∧ (-100000 ≤ mv ∧ mv ≤ 100000) ∧ Ext w H wr H3) (fun _ i _ => h.ts.length - (intOf i).toNat)
              case atStart => exact ⟨0, 100000, Nat.zero_le _, rfl, rfl, rfl, by omega, hxq⟩
              case round =>
                clear hxq hwq
                obtain ⟨m, mv, hm, rfl, rfl, hmv, hmvb, hxq⟩ := hrel
                have hwq := hxq.holds
                by_cases hlm : m < h.ts.length
                · have hob := hobd.out (m : Int)
                  have hsm := sparePlanTo_succ h p m
                  rw [← hmv.out] at hsm
                  replace hsm := Lib.hid hsm
                  go_wp2_with fail
                  refine wp_region_quietB H3 (by kernel_rfl) (by kernel_rfl) hwq (fun hne => ?_)
                  repeat go_big_quiet_step ((first | (go_at_call 76; exact Calls.quietB (over4_any _ _ _ _ _ _ _ _ _ (WB.holds _) hhm3 hup hV hpp.out hlm))))
                  refine wpQuiet_nil ?_
                  rintro ⟨w2, hw2, hb2⟩
                  clear hne
                  go_wp2_with fail
                  go_roundw
                  case rel => exact ⟨m + 1, min mv (-(overOf h p m)), by omega, by go_num, by go_num, by show _ = _; rw [hsm.out], by omega, hxq.step (hb2.mono hxq.below.size) hw2⟩
                  case measure => simp [intOf]; omega
                · have hmv2 : Hid (mv = sparePlan h p) := by
                    show _ = _
                    rw [hmv.out, show m = h.ts.length by omega]; rfl
                  go_wp2_with fail
                  go_roundw
                  case rel => exact ⟨j + 1, max lv mv, by omega, by go_num, by go_num, by show _ = _; rw [hsuccp.out, ← hmv2.out], by omega, hxq⟩
                  case measure => simp [intOf]; omega
            · have hlv2 : Hid (lv = spareCase h c) := by
                show _ = _
                rw [hlv.out, take_all (xs := l) (k := j) (by omega), hwc.out]
              go_wp2_with fail
              go_roundw
              case rel => exact ⟨k + 1, min ov lv, by omega, by go_num, by go_num, by show _ = _; rw [hsucc.out, hlv2.out], by omega, hxq.back hxr hle3⟩
              case measure => simp [intOf]; omega
      · have hov2 : Hid (ov = spareRaw h) := by
          show _ = _
          rw [hov.out, take_all (xs := cs) (k := k) (by omega), hraw.out]
        cases glast : decide (ov < 0)
        · have hg : ¬ (spareRaw h < 0) := by rw [← hov2.out]; simpa using glast
          replace hg := Lib.hid hg
          go_wp2_with fail
          go_ret2
          exact ⟨by rw [hwv.out, hwe.out, if_neg (by have := hg.out; omega), if_neg (by have := hg.out; omega), ← hov2.out]; rfl, hxr.below⟩
        · have hg : spareRaw h < 0 := by rw [← hov2.out]; simpa using glast
          replace hg := Lib.hid hg
          go_wp2_with fail
          go_ret2
          exact ⟨by rw [hwv.out, hwe.out, if_pos hg.out, if_pos hg.out]; rfl, hxr.below⟩

end Go.Proofs.Yteijmboophnmgaa
