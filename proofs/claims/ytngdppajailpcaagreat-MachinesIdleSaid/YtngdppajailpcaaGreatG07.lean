/- Lemmas and walks on which the claims of this seat lean: MRef1 MRef2 Ref4e Ref4g. -/
import Derived.Test.YtngdppajailpcaaGreatG01
import Derived.Test.YtngdppajailpcaaGreatG03
import Derived.Test.YtngdppajailpcaaGreatG05
import Derived.Test.YtngdppajailpcaaGreatG06

set_option linter.all false

namespace Go.Proofs.YtngdppajailpcaaGreat
open Go.RowKit

attribute [local go_sem] Holds.drew Holds.alloc Holds.drewN WB.holds Oper.semAt_some FW_fn FW_dep FW_round

theorem within9_any (n lo hi : Int) (w : World) :
    Calls Tryz.prog 84 #[.int .i64 n, .int .i64 lo, .int .i64 hi] w fun e w' => e = .returned (.bool (within n lo hi)) ∧ w = w' := by
  go_enter Tryz.func84, Tryz.ntmps84
  go_wp2_with (first | (go_at_call 118; refine (within_any _ _ _ _).mono ?_; rintro e w' ⟨rfl, rfl⟩))
  go_ret
  exact ⟨rfl, rfl⟩

theorem place9_any (a b : Int) (ha : -1 ≤ a ∧ a ≤ 1000) (hb : -1 ≤ b ∧ b ≤ 1000) (w : World) :
    Calls Tryz.prog 78 #[.int .i64 a, .int .i64 b] w fun e w' => e = .returned (.int .i64 (a * 3 + b)) ∧ w = w' := by
  obtain ⟨a1, a2⟩ := ha
  obtain ⟨b1, b2⟩ := hb
  go_enter Tryz.func78, Tryz.ntmps78
  go_wp2
  go_ret
  exact ⟨rfl, rfl⟩

theorem setOk_no1 {l : List Plate} {k : Nat} {p : Plate} (hp : At l k p) (h : okPlate p = false) : setOk l = false := by
  cases e : setOk l with
  | false => rfl
  | true => rw [(setOk_iff.1 e).1 p hp.mem] at h; cases h
theorem setOk_no2 {l : List Plate} {k : Nat} {p q : Plate} (hp : At l k p) (hk : 0 < k) (hq : At l (k - 1) q) (h : plc p ≤ plc q) : setOk l = false := by
  cases e : setOk l with
  | false => rfl
  | true =>
    have h2 := (setOk_iff.1 e).2
    obtain ⟨k1, e1⟩ := hp.get
    obtain ⟨k2, e2⟩ := hq.get
    have := List.pairwise_iff_getElem.1 h2 (k - 1) k (by simpa using k2) (by simpa using k1) (by omega)
    simp only [List.getElem_map] at this
    rw [e1, e2] at this
    omega
theorem setOk_step {l : List Plate} {k : Nat} {p : Plate} (h : setOk (l.take k) = true) (hp : At l k p) (ho : okPlate p = true) (hq : ∀ q, 0 < k → At l (k - 1) q → plc q < plc p) : setOk (l.take (k + 1)) = true := by
  simp only [setOk, Bool.and_eq_true] at *
  refine ⟨?_, ?_⟩
  · rw [hp.take, List.all_append, h.1]; simp [ho]
  · rw [List.map_take] at h ⊢
    refine rising_step h.2 (x := plc p) (by show _ = _; rw [List.getElem?_map, show l[k]? = some p from hp]; rfl) (okPlate_plc ho) fun y hk hy => ?_
    have hy' : (l.map plc)[k - 1]? = some y := hy
    rw [List.getElem?_map] at hy'
    cases e : l[k - 1]? with
    | none => rw [e] at hy'; cases hy'
    | some q =>
      rw [e] at hy'
      simp only [Option.map_some, Option.some.injEq] at hy'
      rw [← hy']; exact hq q hk e

set_option maxRecDepth 100000 in
set_option maxHeartbeats 4000000 in
theorem isSet9_any (v : Value) (l : List Plate) (H : Snap) (w : World) (hw : Holds H w) (hs : Sl H v l) :
    Calls Tryz.prog 68 #[v] w (PostV w (.bool (setOk l))) := by
  obtain ⟨a, c, rfl, hc1, hc2⟩ := hs.form
  go_enter Tryz.func68, Tryz.ntmps68
  go_wp2
  go_loopw [3] (fun i wr => ∃ k : Nat, k ≤ l.length ∧ i = .int .i64 k ∧ setOk (l.take k) = true ∧ Ext w H wr H) (fun i _ => l.length - (intOf i).toNat)
  case atStart => exact ⟨0, Nat.zero_le _, rfl, rfl, Ext.refl hw⟩
  case round =>
    obtain ⟨k, hk, rfl, hok, hxr⟩ := hrel
    have hwr := hxr.holds
    replace hok := Lib.hid hok
    by_cases hlt : k < l.length
    · obtain ⟨p, hp⟩ := At.mk hlt
      obtain ⟨b, o, c', he, ⟨hi1, hi2, hi3⟩, hr1, hr2, hr3⟩ := hs.plate hp
      cases he
      cases g1 : within p.pg 0 3
      · go_wp2_with (first | (go_at_call 84; refine (within9_any _ _ _ _).mono ?_; rintro e w' ⟨rfl, rfl⟩))
        go_ret
        exact ⟨ret_bool (setOk_no1 hp (by simp [okPlate, g1])).symm, (hxr.alloc _).below⟩
      · cases g2 : within p.br 0 2
        · go_wp2_with (first | (go_at_call 84; refine (within9_any _ _ _ _).mono ?_; rintro e w' ⟨rfl, rfl⟩))
          go_ret
          exact ⟨ret_bool (setOk_no1 hp (by simp [okPlate, g1, g2])).symm, (hxr.alloc _).below⟩
        · cases g3 : within p.mn 1 9
          · go_wp2_with (first | (go_at_call 84; refine (within9_any _ _ _ _).mono ?_; rintro e w' ⟨rfl, rfl⟩))
            go_ret
            exact ⟨ret_bool (setOk_no1 hp (by simp [okPlate, g1, g2, g3])).symm, (hxr.alloc _).below⟩
          · have hpo : okPlate p = true := by simp [okPlate, g1, g2, g3]
            obtain ⟨⟨p1, p2⟩, ⟨p3, p4⟩, p5, p6⟩ := okPlate_iff.1 hpo
            replace hpo := Lib.hid hpo
            go_upto_region 7 with (first | (go_at_call 84; refine (within9_any _ _ _ _).mono ?_; rintro e w' ⟨rfl, rfl⟩))
            have hn_ : H (World.heap wr).size = none := (hxr).holds.none_of_ge (Nat.le_refl _)
            have hxz := ((hxr).alloc (.cells #[.int .i64 p.pg, .int .i64 p.br, .int .i64 p.mn] 62)).freeze (hxr).below.size (heap_alloc_new wr _)
            have hle := Snap.le_put hn_ (.cells #[.int .i64 p.pg, .int .i64 p.br, .int .i64 p.mn] 62 (0, 0))
            have hput := Snap.put_same H (World.heap wr).size (.cells #[.int .i64 p.pg, .int .i64 p.br, .int .i64 p.mn] 62 (0, 0))
            clear hn_
            generalize Snap.put H (World.heap wr).size (.cells #[.int .i64 p.pg, .int .i64 p.br, .int .i64 p.mn] 62 (0, 0)) = H2 at *
            generalize World.alloc wr (.cells #[.int .i64 p.pg, .int .i64 p.br, .int .i64 p.mn] 62) = wz at *
            generalize (World.heap wr).size = cv at *
            have hv0 : ∀ w, Holds H2 w → w.cell? ⟨cv, 0, none⟩ = some (.int .i64 p.pg) := fun w hw => cellH hput hw 0
            have hv1 : ∀ w, Holds H2 w → w.cell? ⟨cv, 1, none⟩ = some (.int .i64 p.br) := fun w hw => cellH hput hw 1
            have hwz := hxz.holds
            by_cases hk0 : 0 < k
            · obtain ⟨q, hq⟩ := At.mk (show k - 1 < l.length by omega)
              obtain ⟨b', o', c'', he, ⟨hj1, hj2, hj3⟩, hq1, hq2, hq3⟩ := hs.plate hq
              cases he
              replace hq1 := lift hle hq1
              replace hq2 := lift hle hq2
              have hqo : okPlate q = true := by
                have := (setOk_iff.1 hok.out).1 q
                refine this (List.mem_take_iff_getElem.2 ⟨k - 1, by omega, ?_⟩)
                obtain ⟨_, e⟩ := hq.get; exact e
              obtain ⟨⟨q1, q2⟩, ⟨q3, q4⟩, q5, q6⟩ := okPlate_iff.1 hqo
              have hk1 : (0 : Int) < (k : Int) := by omega
              cases g : decide (p.pg * 3 + p.br ≤ q.pg * 3 + q.br)
              · refine wp_region_quietB H2 (by kernel_rfl) (by kernel_rfl) hwz (fun hne => ?_)
                repeat go_big_quiet_step ((first | (go_at_call 78; exact Calls.quietS (place9_any _ _ ⟨by omega, by omega⟩ ⟨by omega, by omega⟩ _))))
                refine wpQuiet_nil ?_
                rintro ⟨w2, hw2, hb2⟩
                clear hne
                go_wp2
                go_roundw
                case rel => exact ⟨k + 1, by omega, by go_num, setOk_step hok.out hp hpo.out fun y _ hy => by
                  rw [hy.uniq hq]; have := of_decide_eq_false g; unfold plc; omega, (hxz.trans ⟨hb2, hw2, fun _ _ => rfl⟩).back hxr hle⟩
                case measure => simp [intOf]; omega
              · refine wp_region_quietB H2 (by kernel_rfl) (by kernel_rfl) hwz (fun hne => ?_)
                repeat go_big_quiet_step ((first | (go_at_call 78; exact Calls.quietS (place9_any _ _ ⟨by omega, by omega⟩ ⟨by omega, by omega⟩ _))))
                refine wpQuiet_nil ?_
                rintro ⟨w2, hw2, hb2⟩
                clear hne
                go_wp2
                go_ret
                exact ⟨ret_bool (setOk_no2 hp hk0 hq (of_decide_eq_true g)).symm, hxz.below.trans (hb2.mono hxz.below.size)⟩
            · obtain rfl : k = 0 := by omega
              refine wp_region_quietB H2 (by kernel_rfl) (by kernel_rfl) hwz (fun hne => ?_)
              repeat go_big_quiet_step ((first | fail))
              refine wpQuiet_nil ?_
              rintro ⟨w2, hw2, hb2⟩
              clear hne
              go_wp2
              go_roundw
              case rel => exact ⟨1, by omega, by go_num, setOk_step hok.out hp hpo.out fun y h0 _ => absurd h0 (by omega), (hxz.trans ⟨hb2, hw2, fun _ _ => rfl⟩).back hxr hle⟩
              case measure => simp [intOf]; omega
    · go_wp2
      go_ret
      have := hok.out
      rw [List.take_of_length_le (by omega)] at this
      exact ⟨ret_bool this.symm, hxr.below⟩


/-! ### CountsOf, SetOf -/

theorem Own.set_int {H : Snap} {base : Nat} {w : World} {e : TypeId} {g c i n : Nat} {xs : List Int} (h : Own H base w e (.slice (some ⟨g, 0, none⟩) n c) xs) (hi : i < n) (hl : xs.length = n) (y : Int) (hy : I64 y) :
    Own H base (w.setCell ⟨g, i, none⟩ (.int .i64 y)) e (.slice (some ⟨g, 0, none⟩) n c) (xs.set i y) := by
  obtain ⟨x, hx⟩ := At.mk (show i < xs.length by omega)
  obtain ⟨g', c', e', _, _, _, _, _, _, hs⟩ := h.int_at hx
  cases e'
  exact hs y hy

theorem plc_of {p : Plate} (h : okPlate p = true) : ∃ n : Nat, n < 12 ∧ (plc p).toNat = n ∧ p.pg * 3 + p.br = (n : Int) := by
  have := okPlate_plc h
  exact ⟨(plc p).toNat, by omega, rfl, by unfold plc at *; omega⟩

set_option maxRecDepth 100000 in
set_option maxHeartbeats 4000000 in
theorem countsOf9_any (v : Value) (l : List Plate) (H : Snap) (w : World) (hw : Holds H w) (hs : Sl H v l) (hok : setOk l = true) :
    Calls Tryz.prog 36 #[v] w (PostO w H 3 (countsOf l)) := by
  obtain ⟨a, c, rfl, hc1, hc2⟩ := hs.form
  have hl12 := setOk_len hok
  go_enter Tryz.func36, Tryz.ntmps36
  go_upto_region 2 with (refine wpList_makeI eInt (by kernel_rfl) rfl _ _ rfl 12 rfl rfl (by omega) hw (Nat.le_refl _) ?_; intro v1 w1 hown hg hw1)
  have hx1 : Ext w H w1 H := ⟨(Below.refl _ _).grown hg (Nat.le_refl _) (by simp), hw1, fun _ _ => rfl⟩
  rw [show List.replicate 12 (0 : Int) = countsOf (l.take 0) from rfl] at hown
  clear hg
  go_wp2
  go_loopw [4] (fun i wr => ∃ k : Nat, k ≤ l.length ∧ i = .int .i64 k ∧ Own H w.heap.size wr 3 v1 (countsOf (l.take k)) ∧ Ext w H wr H) (fun i _ => l.length - (intOf i).toNat)
  case atStart => exact ⟨0, Nat.zero_le _, rfl, hown, hx1⟩
  case round =>
    clear hown hx1 hw1
    obtain ⟨k, hk, rfl, hown, hxr⟩ := hrel
    have hwr := hxr.holds
    by_cases hlt : k < l.length
    · obtain ⟨p, hp⟩ := At.mk hlt
      obtain ⟨b, o, c', he, ⟨hi1, hi2, hi3⟩, hr1, hr2, hr3⟩ := hs.plate hp
      cases he
      have hpo := (setOk_iff.1 hok).1 p hp.mem
      obtain ⟨⟨p1, p2⟩, ⟨p3, p4⟩, p5, p6⟩ := okPlate_iff.1 hpo
      obtain ⟨n, hn, hn1, hn2⟩ := plc_of hpo
      have hpre : setOk (l.take k) = true := setOk_pre (r := l.drop k) (by rw [List.take_append_drop]; exact hok)
      have hbd := countsOf_bd hpre hn
      have hat : At (countsOf (l.take k)) n (gT (countsOf (l.take k)) n) := ((countsOf_cn hpre).gt hn).1
      obtain ⟨g, cg, hev, _, hcl, hfz, hgb, hgH, hgl, hset⟩ := hown.int_at hat
      rw [countsOf_len] at hev
      subst hev
      have hsucc : Hid (countsOf (l.take (k + 1)) = (countsOf (l.take k)).set n (gT (countsOf (l.take k)) n + p.mn)) := by
        show _ = _; rw [hp.take, countsOf_snoc]; unfold addP; rw [hn1]
      have hcw : ∀ x : WB H wr, x.w.cell? ⟨g, n, none⟩ = some (.int .i64 (gT (countsOf (l.take k)) n)) := fun x => (x.old g n hgl).trans hcl
      generalize gT (countsOf (l.take k)) n = z at *
      have hn0 : (0 : Int) ≤ (n : Int) := by omega
      have hn12 : (n : Int) < 12 := by omega
      replace hn1 := Lib.hid hn1
      go_wp2
      refine (wpIn_wide (n := 3)).1 ?_
      show Code.wpIn (FW none) 3 _ _ _ _ _
      have hnq : Nonempty (WB H wr) := ⟨⟨wr, hwr, Below.refl _ _⟩⟩
      refine wpIn_region_qtail (C := fun w' => ∃ x : WB H wr, w' = x.w) 21 (by kernel_rfl) (by kernel_rfl) (by kernel_rfl) ⟨⟨World.drew wr, Holds.drew hwr, (Below.refl _ _).drew⟩, rfl⟩ ?_
      simp only [List.take_succ_cons, List.take_zero, List.drop_succ_cons, List.drop_zero]
      repeat go_big_quiet_step ((first | (go_at_call 78; exact Calls.quietS (place9_any _ _ ⟨by omega, by omega⟩ ⟨by omega, by omega⟩ _))))
      refine wpQuiet_nil ?_
      clear hnq
      rintro w2 ⟨⟨_, hw2, hb2⟩, rfl⟩
      have hown2 := hown.ext hwr ⟨hb2, hw2, fun _ _ => rfl⟩
      have hx2 : Ext w H w2 H := hxr.step (hb2.mono hxr.below.size) hw2
      have hcl2 := (hb2.cell (p := ⟨g, n, none⟩) hgl).trans hcl
      have hfz2 := (hb2.frozen (p := ⟨g, n, none⟩) hgl).trans hfz
      have hset2 := Own.set_int hown2 hn (countsOf_len _) (z + p.mn) (by unfold I64; omega)
      gi_wp2
      go_wp2
      go_roundw
      case rel => exact ⟨k + 1, by omega, by go_num, by rw [hsucc.out]; exact hset2, hx2.setCell (a := ⟨g, n, none⟩) hgb hgH _⟩
      case measure => simp [intOf]; omega
    · go_wp2
      go_ret
      rw [List.take_of_length_le (by omega)] at hown
      exact ⟨_, H, rfl, hxr, hown⟩

set_option maxRecDepth 100000 in
set_option maxHeartbeats 4000000 in
theorem setOf9_any (v : Value) (c : Cnt) (hc : Cn c) (H : Snap) (w : World) (hw : Holds H w) (hs : Sl H v c) :
    Calls Tryz.prog 60 #[v] w (PostO w H 62 (setOf c)) := by
  obtain ⟨a, cc, rfl, hc1, hc2⟩ := hs.form
  have hl := hc.len
  rw [hl] at hs hc1
  rw [hl]
  go_enter Tryz.func60, Tryz.ntmps60
  go_wp2
  go_loopw [3, 4] (fun v i wr => ∃ (k : Nat) (acc : List Plate), k ≤ 12 ∧ i = .int .i64 k ∧ Hid (acc = setTo12 c k) ∧ Ext w H wr H ∧ Own H w.heap.size wr 62 v acc) (fun _ i _ => 12 - (intOf i).toNat)
  case atStart => exact ⟨0, [], Nat.zero_le _, rfl, rfl, Ext.refl hw, Own.nil _ _ _ _⟩
  case round =>
    obtain ⟨k, acc, hk, rfl, hacc, hxr, hown⟩ := hrel
    have hwr := hxr.holds
    by_cases hlk : k < 12
    · obtain ⟨e0, b0, d0⟩ := hc.gt hlk
      obtain ⟨b, o, c', he, hi, hr⟩ := hs.int (show At c k (gT c k) from e0)
      rw [hl] at he
      cases he
      have hsucc := setTo12_succ c k
      have hacl : acc.length ≤ 12 := by rw [hacc.out]; exact Nat.le_trans (setTo12_len c k) (by omega)
      by_cases g : 0 < gT c k
      · rw [if_pos g] at hsucc
        replace hsucc := Lib.hid hsucc
        have hpe : plateAt c k = ⟨(k : Int) / 3, (k : Int) % 3, gT c k⟩ := rfl
        replace hpe := Lib.hid hpe
        generalize gT c k = z at *
        obtain ⟨av, cv, ev, _, _⟩ := hown.form
        subst ev
        have i1 : I64 ((k : Int) / 3) := ⟨by omega, by omega⟩
        have i2 : I64 ((k : Int) % 3) := ⟨by omega, by omega⟩
        have i3 : I64 z := ⟨by omega, by omega⟩
        go_wp2_with (first | ((at_builtin; have hgd := hown; clear hgd; refine wpList_app1R ePlate _ _ hxr hown (x := ⟨(k : Int) / 3, (k : Int) % 3, z⟩) [.int .i64 ((k : Int) / 3), .int .i64 ((k : Int) % 3), .int .i64 z] ⟨rfl, i1, i2, i3⟩ (by simp [Enc.by_]; omega) (by omega) rfl rfl rfl rfl ?_; intro vA wA hownA hxA hwA)))
        go_roundw
        case rel => exact ⟨k + 1, acc ++ [⟨(k : Int) / 3, (k : Int) % 3, z⟩], by omega, by go_num, by show _ = _; rw [hsucc.out, hpe.out, hacc.out], hxA, hownA⟩
        case measure => simp [intOf]; omega
      · rw [if_neg g] at hsucc
        replace hsucc := Lib.hid hsucc
        go_wp2
        go_roundw
        case rel => exact ⟨k + 1, acc, by omega, by go_num, by show acc = _; rw [hacc.out, hsucc.out], hxr, hown⟩
        case measure => simp [intOf]; omega
    · go_wp2
      go_ret
      have hk' : k = 12 := by omega
      rw [hk'] at hacc
      exact ⟨_, H, rfl, hxr, hown.congr hacc.out⟩

theorem platesTo_bd {l : List Plate} (h : setOk l = true) (k : Nat) : 0 ≤ platesOf (l.take k) ∧ platesOf (l.take k) ≤ 12000 :=
  platesOf_bd (setOk_pre (r := l.drop k) (by rw [List.take_append_drop]; exact h))
set_option maxRecDepth 100000 in
theorem platesOf9_any (v : Value) (l : List Plate) (H : Snap) (w : World) (hw : Holds H w) (hs : Sl H v l) (hok : setOk l = true) :
    Calls Tryz.prog 37 #[v] w (PostV w (.int .i64 (platesOf l))) := by
  obtain ⟨a, c, rfl, hc1, hc2⟩ := hs.form
  go_enter Tryz.func37, Tryz.ntmps37
  go_wp2
  go_loopw [3, 4] (fun n i wr => ∃ k : Nat, k ≤ l.length ∧ i = .int .i64 k ∧ n = .int .i64 (platesOf (l.take k)) ∧ Ext w H wr H) (fun _ i _ => l.length - (intOf i).toNat)
  case atStart => exact ⟨0, Nat.zero_le _, rfl, rfl, Ext.refl hw⟩
  case round =>
    obtain ⟨k, hk, rfl, rfl, hxr⟩ := hrel
    have hwr := hxr.holds
    by_cases hlt : k < l.length
    · obtain ⟨p, hp⟩ := At.mk hlt
      obtain ⟨b, o, c', he, ⟨hi1, hi2, hi3⟩, hr1, hr2, hr3⟩ := hs.plate hp
      cases he
      have hpo := (setOk_iff.1 hok).1 p hp.mem
      obtain ⟨⟨p1, p2⟩, ⟨p3, p4⟩, p5, p6⟩ := okPlate_iff.1 hpo
      have hb := platesTo_bd hok k
      have hsucc : Hid (platesOf (l.take (k + 1)) = platesOf (l.take k) + p.mn) := by show _ = _; rw [hp.take, platesOf_snoc]
      go_wp2
      go_roundw
      case rel => exact ⟨k + 1, by omega, by go_num, by rw [hsucc.out], hxr⟩
      case measure => simp [intOf]; omega
    · go_wp2
      go_ret
      exact ⟨ret_int (by rw [List.take_of_length_le (by omega)]), hxr.below⟩

set_option maxRecDepth 100000 in
theorem copySet9_any (v : Value) (l : List Plate) (H : Snap) (w : World) (hw : Holds H w) (hs : Sl H v l) :
    Calls Tryz.prog 21 #[v] w (PostO w H 62 l) := by
  have hlen := hs.bytes
  have hle := hs.le
  go_enter Tryz.func21, Tryz.ntmps21
  go_wp2_with (first | ((refine wpList_appX (w0 := w) (H0 := H) ePlate rfl _ _ rfl ((Ext.refl hw).alloc _) rfl (Own.emptyAt (heap_alloc_new _ _) (Nat.le_refl _) (hw.none_of_ge (Nat.le_refl _))) rfl hs (by simpa using hlen) (by simpa using hle) ?_; intro vB wB hownB hxB hwB hgB; rw [List.nil_append] at hownB)))
  go_ret
  exact ⟨_, H, rfl, hxB, hownB⟩

set_option maxRecDepth 100000 in
theorem sameSets_any (va vb : Value) (xs : List Plate) (H : Snap) (w : World) (hw : Holds H w) (ha : Sl H va xs) (hb : Sl H vb xs) :
    Calls Tryz.prog 18 #[va, vb] w (PostV w (.bool true)) := by
  obtain ⟨aa, ca, rfl, ha1, ha2⟩ := ha.form
  obtain ⟨ab, cb, rfl, hb1, hb2⟩ := hb.form
  go_enter Tryz.func18, Tryz.ntmps18
  go_wp2
  go_loopw [5] (fun i wr => ∃ k : Nat, k ≤ xs.length ∧ i = .int .i64 k ∧ Ext w H wr H) (fun i _ => xs.length - (intOf i).toNat)
  case atStart => exact ⟨0, Nat.zero_le _, rfl, Ext.refl hw⟩
  case round =>
    obtain ⟨k, hk, rfl, hxr⟩ := hrel
    have hwr := hxr.holds
    by_cases hlk : k < xs.length
    · obtain ⟨z, hzk⟩ := At.mk hlk
      obtain ⟨bb, ob', cb', hez, ⟨hy1, hy2, hy3⟩, q0, q1, q2⟩ := ha.plate hzk
      cases hez
      obtain ⟨bo, oo, co, hez, _, p0, p1, p2⟩ := hb.plate hzk
      cases hez
      go_upto_region 6 with fail
      refine wp_region_quietB H (by kernel_rfl) (by kernel_rfl) hwr (fun hne => ?_)
      repeat go_big_quiet_step ((first | fail))
      refine wpQuiet_nil ?_
      rintro ⟨w2, hw2, hb2⟩
      clear hne
      go_wp2_with fail
      go_roundw
      case rel => exact ⟨k + 1, by omega, by go_num, hxr.step (hb2.mono hxr.below.size) hw2⟩
      case measure => simp [intOf]; omega
    · go_wp2_with fail
      go_ret
      exact ⟨rfl, hxr.below⟩

end Go.Proofs.YtngdppajailpcaaGreat

namespace Go.Proofs.YtngdppajailpcaaGreat
open Go.RowKit

attribute [local go_sem] Holds.drew Holds.alloc Holds.drewN WB.holds Oper.semAt_some FW_fn FW_dep FW_round

theorem errM_no {h : Hall} (k : ¬ ValidH h) : errM (validHall h) = 90 := by rw [validHall_no k]; rfl
theorem errM_yes {h : Hall} (k : ValidH h) : errM (validHall h) = 0 := by rw [validHall_iff.2 k]; rfl

set_option maxRecDepth 100000 in
set_option maxHeartbeats 8000000 in
theorem check9_any (vm vb vt vo ve : Value) (h : Hall) (H : Snap) (w : World) (hw : Holds H w) (hh : Hal H vm vb vt vo ve h) :
    Calls Tryz.prog 43 #[halV vm vb vt vo ve h] w (PostV w (.int .i64 (errM (validHall h)))) := by
  obtain ⟨am, cm, rfl, hm1, hm2⟩ := hh.hs.m.form
  obtain ⟨ab, cb, rfl, hb1, hb2⟩ := hh.hs.b.form
  obtain ⟨ao, co, rfl, ho1, ho2⟩ := hh.bo.form
  obtain ⟨ae, ce, rfl, he1, he2⟩ := hh.ed.form
  cases g1 : valid h.hs
  · have g1e : errT (valid h.hs) = 40 := by rw [g1]; rfl
    have HE := Lib.hid (errM_no (h := h) fun hv => by rw [valid_iff.2 hv.hs] at g1; cases g1)
    go_enter Tryz.func43, Tryz.ntmps43
    go_wp2_with (first | (refine wpList_boxF rfl _ rfl (Ext.refl hw) ?_; intro B w1 H1 hle hx hB hBw; obtain ⟨hc0, hc1, hc2, hc3, hc4, hc5⟩ := cellsHal hB; clear hB hw; have hw1 := hx.holds) | (go_at_call 83; refine (check4_any _ _ _ _ _ _ hw1 (hh.hs.mono hle)).mono ?_; rintro e w' ⟨rfl, hbC⟩; rw [g1e]))
    go_ret
    exact ⟨ret_int HE.out.symm, hx.below.trans (hbC.mono hx.below.size)⟩
  · have g1e : errT (valid h.hs) = 0 := by rw [g1]; rfl
    cases g2 : ((h.bo.length : Int) != h.hs.ms.length)
    rotate_left
    · have HE := Lib.hid (errM_no (h := h) fun hv => by rw [hv.bo] at g2; simp at g2)
      go_enter Tryz.func43, Tryz.ntmps43
      go_wp2_with (first | (refine wpList_boxF rfl _ rfl (Ext.refl hw) ?_; intro B w1 H1 hle hx hB hBw; obtain ⟨hc0, hc1, hc2, hc3, hc4, hc5⟩ := cellsHal hB; clear hB hw; have hw1 := hx.holds) | (go_at_call 83; refine (check4_any _ _ _ _ _ _ hw1 (hh.hs.mono hle)).mono ?_; rintro e w' ⟨rfl, hbC⟩; rw [g1e]; have hwC := hw1.below hbC))
      go_ret
      exact ⟨ret_int HE.out.symm, hx.below.trans (hbC.mono hx.below.size)⟩
    · cases g3 : decide ((4 : Int) < h.ed.length)
      rotate_left
      · have HE := Lib.hid (errM_no (h := h) fun hv => by have := hv.e4; have := of_decide_eq_true g3; omega)
        go_enter Tryz.func43, Tryz.ntmps43
        go_wp2_with (first | (refine wpList_boxF rfl _ rfl (Ext.refl hw) ?_; intro B w1 H1 hle hx hB hBw; obtain ⟨hc0, hc1, hc2, hc3, hc4, hc5⟩ := cellsHal hB; clear hB hw; have hw1 := hx.holds) | (go_at_call 83; refine (check4_any _ _ _ _ _ _ hw1 (hh.hs.mono hle)).mono ?_; rintro e w' ⟨rfl, hbC⟩; rw [g1e]; have hwC := hw1.below hbC))
        go_ret
        exact ⟨ret_int HE.out.symm, hx.below.trans (hbC.mono hx.below.size)⟩
      · go_enter Tryz.func43, Tryz.ntmps43
        go_wp2_with (first | (refine wpList_boxF rfl _ rfl (Ext.refl hw) ?_; intro B w1 H1 hle hx hB hBw; obtain ⟨hc0, hc1, hc2, hc3, hc4, hc5⟩ := cellsHal hB; clear hB hw; have hw1 := hx.holds) | (go_at_call 83; refine (check4_any _ _ _ _ _ _ hw1 (hh.hs.mono hle)).mono ?_; rintro e w' ⟨rfl, hbC⟩; rw [g1e]; have hwC := hw1.below hbC))
        have hxC := hx.step (hbC.mono hx.below.size) hwC
        have hbm := hh.hs.b.mono hle
        have hom := hh.bo.mono hle
        have hem := hh.ed.mono hle
        clear hbC hwC hx hw1
        go_loopw [3] (fun i wr => ∃ k : Nat, k ≤ h.bo.length ∧ i = .int .i64 k ∧ okTo (fun b => within b 0 2) h.bo k ∧ Ext w H wr H1) (fun i _ => h.bo.length - (intOf i).toNat)
        case atStart => exact ⟨0, Nat.zero_le _, rfl, okTo.zero _ _, hxC⟩
        case round =>
          clear hxC
          obtain ⟨k, hk, rfl, hok, hxr⟩ := hrel
          have hwr := hxr.holds
          by_cases hlt : k < h.bo.length
          · obtain ⟨x, hxk⟩ := At.mk hlt
            obtain ⟨b, o, c, he, hi, hr⟩ := hom.int hxk
            cases he
            cases gx : within x 0 2
            all_goals go_wp2_with (first | (go_at_call 84; refine (within9_any _ _ _ _).mono ?_; rintro e w' ⟨rfl, rfl⟩))
            · go_ret
              exact ⟨ret_int (errM_no fun hv => by have := hv.bos; rw [hxk.not_all gx] at this; cases this).symm, hxr.below⟩
            · go_roundw
              case rel => exact ⟨k + 1, by omega, by go_num, hok.succ hxk gx, hxr⟩
              case measure => simp [intOf]; omega
          · have hbos := hok.all (by omega)
            go_wp2
            go_loopw [4] (fun i wr => ∃ k : Nat, k ≤ h.ed.length ∧ i = .int .i64 k ∧ okTo (fun l => rising 0 3 l) h.ed k ∧ Ext w H wr H1) (fun i _ => h.ed.length - (intOf i).toNat)
            case atStart => exact ⟨0, Nat.zero_le _, rfl, okTo.zero _ _, hxr⟩
            case round =>
              clear hxr hwr hok
              obtain ⟨k', hk', rfl, hok, hxr⟩ := hrel
              have hwr := hxr.holds
              by_cases hlt' : k' < h.ed.length
              · obtain ⟨x, hxk⟩ := At.mk hlt'
                obtain ⟨b, o, c, u, he, hsl, hr⟩ := hem.list hxk
                cases he
                obtain ⟨au, cu, rfl, _, _⟩ := hsl.form
                cases gx : rising 0 3 x
                all_goals go_wp2_with (first | (go_at_call 85; refine (rising_any _ x _ _ _ _ hwr hsl).mono ?_; rintro e w' ⟨rfl, hbR⟩; rw [gx]))
                · go_ret
                  exact ⟨ret_int (errM_no fun hv => by have := hv.eds; rw [hxk.not_all gx] at this; cases this).symm, hxr.below.trans (hbR.mono hxr.below.size)⟩
                · go_roundw
                  case rel => exact ⟨k' + 1, by omega, by go_num, hok.succ hxk gx, hxr.step (hbR.mono hxr.below.size) (hwr.below hbR)⟩
                  case measure => simp [intOf]; omega
              · have heds := hok.all (by omega)
                go_wp2
                go_loopw [5] (fun i wr => ∃ k : Nat, k ≤ h.hs.bs.length ∧ i = .int .i64 k ∧ okTo (fun b : Bund => decide (b.e < h.ed.length)) h.hs.bs k ∧ Ext w H wr H1) (fun i _ => h.hs.bs.length - (intOf i).toNat)
                case atStart => exact ⟨0, Nat.zero_le _, rfl, okTo.zero _ _, hxr⟩
                case round =>
                  clear hxr hwr hok
                  obtain ⟨k2, hk2, rfl, hok, hxr⟩ := hrel
                  have hwr := hxr.holds
                  by_cases hlt2 : k2 < h.hs.bs.length
                  · obtain ⟨x, hxk⟩ := At.mk hlt2
                    obtain ⟨b, o, c, he, ⟨hi1, hi2, hi3⟩, hr1, hr2, hr3⟩ := hbm.bund hxk
                    cases he
                    go_upto_region 16 with fail
                    refine wp_region_quietB H1 (by kernel_rfl) (by kernel_rfl) hwr (fun hne => ?_)
                    repeat go_big_quiet_step ((first | fail))
                    refine wpQuiet_nil ?_
                    rintro ⟨w2, hw2, hb2⟩
                    clear hne
                    have hx2 := hxr.step (hb2.mono hxr.below.size) hw2
                    cases gx : decide ((h.ed.length : Int) ≤ x.e)
                    · go_wp2
                      go_roundw
                      case rel => exact ⟨k2 + 1, by omega, by go_num, hok.succ hxk (by have := of_decide_eq_false gx; simp; omega), hx2⟩
                      case measure => simp [intOf]; omega
                    · go_wp2
                      go_ret
                      exact ⟨ret_int (errM_no fun hv => by have := hv.bes; rw [hxk.not_all (by have := of_decide_eq_true gx; simp; omega)] at this; cases this).symm, hx2.below⟩
                  · have hbes := hok.all (by omega)
                    go_wp2
                    go_ret
                    exact ⟨ret_int (errM_yes ⟨valid_iff.1 g1, by have := bne_eq_false_iff_eq.1 g2; omega, by have := of_decide_eq_false g3; omega, hbos, heds, hbes⟩).symm, hxr.below⟩

set_option maxRecDepth 100000 in
theorem ask9_any (vm vb vt vo ve : Value) (h : Hall) (is : Bool) (H : Snap) (w : World) (hw : Holds H w) (hh : Hal H vm vb vt vo ve h) :
    Calls Tryz.prog 50 #[halV vm vb vt vo ve h, .bool is] w (PostV w (.int .i64 (askM (validHall h) is))) := by
  cases hv : validHall h
  · have he : errM (validHall h) = 90 := by rw [hv]; rfl
    go_enter Tryz.func50, Tryz.ntmps50
    go_wp2_with (first | (refine wpList_boxF rfl _ rfl (Ext.refl hw) ?_; intro B w1 H1 hle hx hB hBw; obtain ⟨hc0, hc1, hc2, hc3, hc4, hc5⟩ := cellsHal hB; clear hB hw; have hw1 := hx.holds) | (go_at_call 43; refine (check9_any _ _ _ _ _ _ _ _ hw1 (hh.mono hle)).mono ?_; rintro e w' ⟨rfl, hbC⟩; rw [he]))
    go_ret
    exact ⟨rfl, hx.below.trans (hbC.mono hx.below.size)⟩
  · have he : errM (validHall h) = 0 := by rw [hv]; rfl
    cases is
    all_goals
      go_enter Tryz.func50, Tryz.ntmps50
      go_wp2_with (first | (refine wpList_boxF rfl _ rfl (Ext.refl hw) ?_; intro B w1 H1 hle hx hB hBw; obtain ⟨hc0, hc1, hc2, hc3, hc4, hc5⟩ := cellsHal hB; clear hB hw; have hw1 := hx.holds) | (go_at_call 43; refine (check9_any _ _ _ _ _ _ _ _ hw1 (hh.mono hle)).mono ?_; rintro e w' ⟨rfl, hbC⟩; rw [he]))
      go_ret
      exact ⟨rfl, hx.below.trans (hbC.mono hx.below.size)⟩

end Go.Proofs.YtngdppajailpcaaGreat

namespace Go.Proofs.YtngdppajailpcaaGreat
open Go.RowKit

attribute [local go_sem] Holds.drew Holds.alloc Holds.drewN WB.holds

set_option maxRecDepth 100000 in
set_option maxHeartbeats 4000000 in
theorem plans4_step (vm vb vt vf : Value) (h : House) (stop : Int) (first : List (List Int)) (rec : List (List Int) → List (List (List Int))) (L : Nat) (H : Snap) (w : World) (hw : Holds H w) (hh : Hou H vm vb vt h) (hf : Sl H vf first) (hv : Valid h) (hst : -1 ≤ stop ∧ stop ≤ 3)
    (hg : GoodF h first) (hL : ∀ f, (rec f).length ≤ L) (hL8 : L ≤ 100000000)
    (hrec : ∀ (first' : List (List Int)) (vf' : Value) (H' : Snap) (w' : World), mu h first' < mu h first → GoodF h first' → SLe H H' → Holds H' w' → Sl H' vf' first' →
      Calls Tryz.prog 132 #[houV vm vb vt h, .int .i64 stop, vf'] w' (PostO w' H' 27 (rec first'))) :
    Calls Tryz.prog 132 #[houV vm vb vt h, .int .i64 stop, vf] w (PostO w H 27 (plansStep h stop rec first)) := by
  obtain ⟨am, cm, rfl, hm1, hm2⟩ := hh.m.form
  obtain ⟨ab, cb, rfl, hb1, hb2⟩ := hh.b.form
  obtain ⟨af, cf, rfl, hf1, hf2⟩ := hf.form
  have hb5 := hv.b5
  have hm3 := hv.m3
  have hfl := hg.le
  have hfn := hg.ne
  replace hrec := Lib.hid hrec
  replace hL := Lib.hid hL
  go_enter Tryz.func132, Tryz.ntmps132
  go_upto_if 21 with (refine wpList_boxF rfl _ rfl (Ext.refl hw) ?_; intro B w1 H1 hle hx hB hBw; obtain ⟨hc0, hc1, hc2, hc3⟩ := cellsHou hB; clear hB hw; have hw1 := hx.holds)
  go_cut [8] (fun v wx => ∃ H2, Ext w H wx H2 ∧ SLe H1 H2 ∧ Own H2 w.heap.size wx 27 v (plansA h rec first))
  case first =>
    cases hl : ((first.length : Int) == h.ms.length)
    · have HL : Hid (first.length ≠ h.ms.length) := Lib.hid (fun e => by rw [e] at hl; simp at hl)
      go_wp2_with fail
      go_region_held3 (fun w' => Holds H1 w' ∧ Ext w H w' H1)
        (first | assumption | exact ⟨by assumption, by assumption⟩ | (go_split_ands; exact ⟨Holds.drew (by assumption), Ext.drew (by assumption)⟩) | (go_split_ands; exact ⟨Holds.alloc (by assumption) _, Ext.alloc (by assumption) _⟩) | (go_split_ands; exact ⟨Holds.drew (Holds.alloc (by assumption) _), Ext.drew (Ext.alloc (by assumption) _)⟩))
        (first
          | (go_split_ands; refine step_appX eList rfl _ _ rfl (by assumption) rfl (Own.emptyAt (by first | exact heap_alloc_new _ _ | exact (Below.heap_alloc _ _ _ (by simp)).trans (heap_alloc_new _ _) | (have h := heap_alloc_new (w1.alloc (.cells #[.slice none 0 0] 24)) (.cells #[] 24); rw [World.size_alloc] at h; exact h)) (by have := hx.below.size; first | omega | (simp; omega)) (hw1.none_of_ge (by simp))) rfl (hf.mono hle) (by simp [Enc.by_]; omega) (by simp; omega) ?_; intro vA wA hownA hxA hwA hgA)
          | (go_split_ands; refine step_appCX eList rfl _ _ rfl (by assumption) rfl (by first | exact hownA | exact hownA.alloc _ | exact (hownA.alloc _).drew) rfl ⟨_, rfl, Sl.nil0 _⟩ (one_cell (by first | (simp [go_sem]; done) | (exact hgA.cell (by simp [go_sem]) (by first | exact (show some (w1.heap.size + 1) ≠ some w1.heap.size from by simp) | exact (show some w1.heap.size ≠ some (w1.heap.size + 1) from by simp))))) (by simp [Enc.by_]; omega) (by simp; omega) ?_; intro vB wB hownB hxB hwB hgB; rw [List.nil_append] at hownB; obtain ⟨avB, cvB, evB, _, _⟩ := hownB.form; subst evB)
          | (go_split_ands; go_at_call 132; obtain ⟨H2, hx2, hle2, hs2, _⟩ := hownB.close hxB; refine (hrec.out (first ++ [[]]) _ H2 _ (hg.nil_ok HL.out).2 (hg.nil_ok HL.out).1 (hle.trans hle2) hx2.holds (by simpa using hs2)).mono ?_; rintro e w' ⟨v, H3, rfl, hx3, ho3⟩; have hT := hx2.trans hx3; have hle3 := hx3.le hx2.holds; have hk1 : Holds H1 w' := hx3.holds.mono (hle2.trans hle3); have hk2 : Ext w H w' H1 := hT.back hxB (hle2.trans hle3)))

      all_goals
        go_wp2_with fail
        go_meet
        exact ⟨H3, hT, hle2.trans hle3, (ho3.weaken hxB.below.size).congr (by unfold plansA; rw [if_neg HL.out])⟩
    · have HL : Hid (first.length = h.ms.length) := Lib.hid (Int.ofNat.inj (by simpa using hl))
      go_wp2_with (first | (at_builtin; go_must (refine wpList_app1L eLists _ _ hx (Own.nil _ _ _ _) first (hf.mono hle) (by simp) rfl rfl rfl rfl ?_); intro vA wA hownA hxA hwA))
      go_meet
      exact ⟨H1, hxA, SLe.refl _, hownA.congr (by unfold plansA; rw [if_pos HL.out]; rfl)⟩
  case rest =>
    obtain ⟨H2, hx2, hle2, hown⟩ := hcut
    have hw2 := hx2.holds
    replace hc0 := lift hle2 hc0
    replace hc1 := lift hle2 hc1
    replace hc2 := lift hle2 hc2
    replace hc3 := lift hle2 hc3
    have hle3 := hle.trans hle2
    clear hx hle hle2 hw1
    have he : (first.length : Int) - 1 = ((first.length - 1 : Nat) : Int) := by omega
    rw [he]
    cases hst2 : (((first.length - 1 : Nat) : Int) == stop)
    · go_wp2_with fail
      have hst3 : Hid (plansStep h stop rec first = plansA h rec first ++ plansB h rec first h.bs.length) := by
        show _ = _
        unfold plansStep
        rw [if_neg (by rw [he]; intro e; rw [e] at hst2; simp at hst2)]
      replace hst := Lib.hid hst
      clear he hst2
      go_loopw [8, 9, 10, 11, 12] (fun v i _ _ _ wr => ∃ (k : Nat) (acc : List (List (List Int))) (Hr : Snap), k ≤ h.bs.length ∧ i = .int .i64 k ∧ Hid (acc = plansA h rec first ++ plansB h rec first k) ∧ Ext w H wr Hr ∧ SLe H2 Hr ∧ Own Hr w.heap.size wr 27 v acc) (fun _ i _ _ _ _ => h.bs.length - (intOf i).toNat)
      case atStart => exact ⟨0, _, H2, Nat.zero_le _, rfl, by simp [Hid, plansB], hx2, SLe.refl _, hown⟩
      case round =>
        clear hx2 hw2 hown
        obtain ⟨k, acc, Hr, hk, rfl, hacc, hxr, hle2, hown⟩ := hrel
        have hwr := hxr.holds
        have hd0 := lift hle2 hc0
        have hd1 := lift hle2 hc1
        have hd2 := lift hle2 hc2
        have hd3 := lift hle2 hc3
        have hle4 := hle3.trans hle2
        by_cases hlk : k < h.bs.length
        · go_wp2_with fail
          go_loopw [10, 11] (fun l i wr => ∃ m : Nat, m ≤ first.length ∧ i = .int .i64 m ∧ l = .bool (decide ((k : Int) ∈ (first.take m).flatten)) ∧ Ext w H wr Hr ∧ Own Hr w.heap.size wr 27 u8 acc) (fun _ i _ => first.length - (intOf i).toNat)
          case atStart => exact ⟨0, Nat.zero_le _, rfl, by simp, hxr, hown⟩
          case round =>
            clear hxr hwr hown
            obtain ⟨m, hm, rfl, rfl, hxr, hown⟩ := hrel
            have hwr := hxr.holds
            by_cases hlm : m < first.length
            · obtain ⟨l, hml⟩ := At.mk hlm
              obtain ⟨b, o, c, u, he, hu, hr⟩ := (hf.mono hle4).list hml
              cases he
              have hsucc : Hid ((decide ((k : Int) ∈ (first.take (m + 1)).flatten)) = (decide ((k : Int) ∈ (first.take m).flatten) || decide ((k : Int) ∈ l))) := by
                show _ = _
                rw [flatten_take hml]; simp
              cases hin : decide ((k : Int) ∈ (first.take m).flatten)
              · go_wp2_with (first | (go_at_call 144; refine (in_any _ _ _ _ _ hwr hu).mono ?_; rintro e w' ⟨rfl, hb2⟩))
                go_roundw
                case rel => exact ⟨m + 1, by omega, by go_num, by rw [hsucc.out, hin]; simp, hxr.step (hb2.mono hxr.below.size) (hwr.below hb2), hown.ext hwr ⟨hb2, hwr.below hb2, fun _ _ => rfl⟩⟩
                case measure => simp [intOf]; omega
              · go_wp2_with fail
                go_roundw
                case rel => exact ⟨m + 1, by omega, by go_num, by rw [hsucc.out, hin]; simp, hxr, hown⟩
                case measure => simp [intOf]; omega
            · have hall : first.take m = first := take_all (xs := first) (k := m) (by omega)
              have hsucc := plansB_succ h rec first k
              cases hin : decide ((k : Int) ∈ (first.take m).flatten)
              all_goals
                rw [hall] at hin
                rw [hin] at hsucc
                rw [← hall] at hin
                replace hsucc := Lib.hid hsucc
                replace hall := Lib.hid hall
              · have hin2 : (k : Int) ∉ first.flatten := by rw [← hall.out]; simpa using hin
                obtain ⟨hgood, hmu⟩ := hg.grow_ok hlk hin2
                replace hin2 := Lib.hid hin2
                obtain ⟨l, hml⟩ := At.mk (xs := first) (k := first.length - 1) (by omega)
                have hmlt := hml.lt
                obtain ⟨b, o, c, u, he, hu, hr⟩ := (hf.mono hle4).list hml
                cases he
                have hgrow : growP first k = first.take (first.length - 1) ++ [l ++ [(k : Int)]] := by
                  unfold growP
                  rw [List.getD_eq_getElem?_getD, show first[first.length - 1]? = some l from hml]; rfl
                have hl5 : l.length ≤ 5 := by
                  have h1 := hg.len
                  have h2 := congrArg List.length (congrArg List.flatten hml.split)
                  simp at h1 h2; omega
                have hacl : acc.length ≤ 700000000 := by
                  rw [hacc.out, List.length_append]
                  have h1 := plansA_len (h := h) hL.out first
                  have h2 := plansB_len (h := h) hL.out first k
                  have h3 : k * L ≤ 5 * L := Nat.mul_le_mul_right _ (by omega)
                  omega
                have hrecl := hL.out (growP first k)
                have hft := (hf.mono hle4).take (k := first.length - 1) (by omega)
                have htl : (first.take (first.length - 1)).length = first.length - 1 := by simp
                replace htl := Lib.hid htl
                obtain ⟨av, cv, ev, _, _⟩ := hown.form
                subst ev
                obtain ⟨au, cu, eu, _, _⟩ := hu.form
                subst eu
                go_wp2_with (first | ((at_builtin; have hgd := hs7; clear hgd; go_must (refine wpList_appX (w0 := w) (H0 := H) eLists rfl _ _ rfl hxOut7 rfl hownOut7 rfl hs7 (by simp [Enc.by_]; omega) (by omega) ?_); intro vF wF hownF hxF hwF hgF)) | (go_at_call 132; refine (hrec.out (growP first k) _ H5 _ hmu hgood (hle4.trans hleD) hwD5 hs5).mono ?_; rintro e w' ⟨vE, H6, rfl, hx6, ho6⟩; obtain ⟨H7, hx7, hle7, hs7, _⟩ := ho6.close hx6; have hxOut7 := hxOut.trans hx7; have hownOut7 := hownOut.ext hwD5 hx7; have hle57 := hx7.le hwD5) | ((refine wpList_appX (w0 := wr) (H0 := Hr) eList rfl _ _ rfl ((Ext.refl hwr).alloc _) rfl (Own.emptyAt (heap_alloc_new _ _) (Nat.le_refl _) (hwr.none_of_ge (Nat.le_refl _))) rfl hft (by rw [htl.out]; simp [Enc.by_]; omega) (by rw [htl.out]; simp; omega) ?_; intro vA wA hownA hxA hwA hgA; obtain ⟨avA, cvA, evA, _, _⟩ := hownA.form; rw [List.nil_append, htl.out] at evA; subst evA)) | ((refine wpList_appX (w0 := wA) (H0 := Hr) eInt rfl _ _ rfl ((Ext.refl hwA).alloc _) rfl (Own.emptyAt (heap_alloc_new _ _) (Nat.le_refl _) (hwA.none_of_ge (Nat.le_refl _))) rfl hu (by simp [Enc.by_]; omega) (by simp; omega) ?_; intro vB wB hownB hxB hwB hgB; rw [List.nil_append] at hownB; obtain ⟨avB, cvB, evB, _, _⟩ := hownB.form; subst evB)) | ((at_builtin; have hgd := hxA4; clear hgd; go_must (refine wpList_app1L eList _ _ hxA4 hownA4 _ hs4 (by rw [List.nil_append, htl.out]; omega) rfl rfl rfl rfl ?_); intro vD wD hownD hxD hwD; obtain ⟨H5, hx5, hle6, hs5, _⟩ := hownD.close hxD; have hwD5 := hx5.holds; have hleD := hle5.trans hle6; have hownOut := hown.ext hwr hx5; have hxOut := hxr.trans hx5; rw [List.nil_append, ← hgrow] at hs5; have hwDr := hwD5.mono hleD)) | ((at_builtin; have hgd := hxB; clear hgd; go_must (refine wpList_app1I eInt _ _ hxB hownB (k : Int) (by unfold I64; omega) (by omega) rfl rfl rfl rfl ?_); intro vC wC hownC hxC hwC; obtain ⟨l', hl'⟩ : ∃ l', Hid (l' = l ++ [(k : Int)]) := ⟨_, rfl⟩; rw [← hl'.out] at hownC hgrow; obtain ⟨avC, cvC, evC, _, _⟩ := hownC.form; subst evC; obtain ⟨H4, hx4, hle5, hs4, _⟩ := hownC.close hxC; have hwC4 := hx4.holds; have hownA4 := hownA.ext hwA hx4; have hxA4 := hxA.trans hx4)))
                go_roundw
                case rel => exact ⟨k + 1, acc ++ rec (growP first k), H7, by omega, by go_num, by show _ = _; rw [hacc.out, hsucc.out]; simp, hxF, hle2.trans (hleD.trans hle57), hownF⟩
                case measure => simp [intOf]; omega
              · go_wp2_with fail
                go_roundw
                case rel => exact ⟨k + 1, acc, Hr, by omega, by go_num, by show acc = _; rw [hacc.out, hsucc.out]; simp, hxr, hle2, hown⟩
                case measure => simp [intOf]; omega
        · go_wp2_with fail
          go_ret
          refine ⟨_, Hr, rfl, hxr, hown.congr ?_⟩
          rw [hst3.out, hacc.out, show k = h.bs.length by omega]
    · have hst3 : Hid (plansStep h stop rec first = plansA h rec first) := by
        show _ = _
        unfold plansStep
        rw [if_pos (by rw [he]; simpa using hst2), List.append_nil]
      go_wp2_with fail
      go_ret
      exact ⟨_, H2, rfl, hx2, hown.congr hst3.out.symm⟩


theorem plansF_any (vm vb vt : Value) (h : House) (stop : Int) (hv : Valid h) (hst : -1 ≤ stop ∧ stop ≤ 3) : ∀ (n : Nat) (vf : Value) (first : List (List Int)) (H : Snap) (w : World), mu h first ≤ n → n ≤ 8 → Holds H w → Hou H vm vb vt h → Sl H vf first → GoodF h first →
    Calls Tryz.prog 132 #[houV vm vb vt h, .int .i64 stop, vf] w (PostO w H 27 (plansF h stop n first))
  | 0, vf, first, H, w, hmu, _, hw, hh, hf, hg =>
    plans4_step vm vb vt vf h stop first (fun _ => []) 0 H w hw hh hf hv hst hg (by simp) (by omega) fun first' vf' H' w' hlt => by omega
  | n + 1, vf, first, H, w, hmu, hn, hw, hh, hf, hg =>
    plans4_step vm vb vt vf h stop first (plansF h stop n) 100000000 H w hw hh hf hv hst hg (fun f => Nat.le_trans (plansF_len hv.b5 n f) (Nat.le_trans (plansBd_mono (show n ≤ 8 by omega)) plansBd8)) (by omega)
      fun first' vf' H' w' hlt hg' hle' hw' hf' => plansF_any vm vb vt h stop hv hst n vf' first' H' w' (by omega) (by omega) hw' (hh.mono hle') hf' hg'


theorem plansOf4_any (vm vb vt : Value) (h : House) (stop : Int) (H : Snap) (w : World) (hw : Holds H w) (hh : Hou H vm vb vt h) (hv : Valid h) (hst : -1 ≤ stop ∧ stop ≤ 3) :
    Calls Tryz.prog 101 #[houV vm vb vt h, .int .i64 stop] w (PostO w H 27 (plansOf h stop)) := by
  go_enter Tryz.func101, Tryz.ntmps101
  go_wp2_with (first | (refine wpList_boxF rfl _ rfl (Ext.refl hw) ?_; intro B w1 H1 hle hx hB hBw; obtain ⟨hc0, hc1, hc2, hc3⟩ := cellsHou hB; clear hB hw; have hw1 := hx.holds) | ((go_at_call 132; obtain ⟨H2, hle2, hx2, hs2⟩ := Ext.lit (xs := [([] : List Int)]) (cs := [.slice none 0 0]) hx (reps.single (show Enc.rep H1 ([] : List Int) [.slice none 0 0] from ⟨_, rfl, Sl.nil0 _⟩)) 24 (by simp [Enc.by_]) (by simp); refine (plansF_any vm vb vt h stop hv hst (mu h [[]]) _ [[]] H2 _ (Nat.le_refl _) (mu_le hv _) hx2.holds (hh.mono (hle.trans hle2)) hs2 (goodF_start hv)).mono ?_; rintro e w' hpost; obtain ⟨v, H3, rfl, hx3, ho3⟩ := hpost.up hx2)))
  go_ret
  exact ⟨v, H3, rfl, hx3, ho3⟩

end Go.Proofs.YtngdppajailpcaaGreat

namespace Go.Proofs.YtngdppajailpcaaGreat
open Go.RowKit

attribute [local go_sem] Holds.drew Holds.alloc Holds.drewN WB.holds

def planOf (h : House) : List (List Int) := if valid h then bestOf h (-1) else []

def fewestOf (h : House) : Int := if valid h then (lateN h (bestOf h (-1)) : Nat) else 0

def withoutOf (h : House) (m : Int) : List (List Int) := if valid h && within m 0 ((h.ms.length : Int) - 1) then bestOf h m else []

set_option maxHeartbeats 4000000 in
theorem casesOf4_any (vm vb vt : Value) (h : House) (H : Snap) (w : World) (hw : Holds H w) (hh : Hou H vm vb vt h) (hv : Valid h) :
    Calls Tryz.prog 72 #[houV vm vb vt h] w (Post w H fun v H' => Sl H' v (casesOf h)) := by
  obtain ⟨am, cm, rfl, hm1, hm2⟩ := hh.m.form
  have hm3 := hv.m3
  go_enter Tryz.func72, Tryz.ntmps72
  go_wp2_with (first | (refine wpList_boxF rfl _ rfl (Ext.refl hw) ?_; intro B w1 H1 hle hx hB hBw; obtain ⟨hc0, hc1, hc2, hc3⟩ := cellsHou hB; clear hB hw; have hw1 := hx.holds))
  have hmm := hh.m.mono hle
  go_loopw [3, 4] (fun v i wr => ∃ (k : Nat) (acc : List Int), k ≤ h.ms.length ∧ i = .int .i64 k ∧ Hid (acc = casesTo h k) ∧ Ext w H wr H1 ∧ Own H1 w.heap.size wr 3 v acc) (fun _ i _ => h.ms.length - (intOf i).toNat)
  case atStart =>
    exact ⟨0, [-1], Nat.zero_le _, rfl, rfl, hx.alloc _, Own.lit (xs := [-1]) (cs := [.int .i64 (-1)]) hw1 (reps_int.2 ⟨rfl, by simp [I64]⟩) _ hx.below.size (by simp [Enc.by_]) (by simp)⟩
  case round =>
    clear hx hw1
    obtain ⟨k, acc, hk, rfl, hacc, hxr, hown⟩ := hrel
    have hwr := hxr.holds
    by_cases hlk : k < h.ms.length
    · obtain ⟨mc, hmc⟩ := At.mk hlk
      obtain ⟨bm, om, cm', he, ⟨hmr, hmp, hms⟩, hcr, hcp, hcs⟩ := hmm.mach hmc
      cases he
      have hsucc := casesTo_succ h k
      rw [hmc.mach] at hsucc
      have hacl : acc.length ≤ 4 := by rw [hacc.out]; exact Nat.le_trans (casesTo_len h k) (by omega)
      cases hl : (mc.s == 1)
      · rw [if_neg (by simpa using hl)] at hsucc
        replace hsucc := Lib.hid hsucc
        go_wp2_with fail
        go_roundw
        case rel => exact ⟨k + 1, acc, by omega, by go_num, by show acc = _; rw [hacc.out, hsucc.out], hxr, hown⟩
        case measure => simp [intOf]; omega
      · rw [if_pos (by simpa using hl)] at hsucc
        replace hsucc := Lib.hid hsucc
        go_wp2_with (first | ((at_builtin; have hgd := hown; clear hgd; refine wpList_app1I eInt _ _ hxr hown (k : Int) (by unfold I64; omega) (by omega) rfl rfl rfl rfl ?_; intro vA wA hownA hxA hwA)))
        go_roundw
        case rel => exact ⟨k + 1, _, by omega, by go_num, by show _ = _; rw [hsucc.out, ← hacc.out], hxA, hownA⟩
        case measure => simp [intOf]; omega
    · go_wp2_with fail
      go_ret
      obtain ⟨H', hx', hle', hs', _⟩ := hown.close hxr
      refine ⟨_, H', rfl, hx', ?_⟩
      rw [hacc.out, show k = h.ms.length by omega] at hs'
      exact hs'

end Go.Proofs.YtngdppajailpcaaGreat

namespace Go.Proofs.YtngdppajailpcaaGreat
open Go.RowKit

attribute [local go_sem] Holds.drew Holds.alloc Holds.drewN WB.holds

end Go.Proofs.YtngdppajailpcaaGreat
