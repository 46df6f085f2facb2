/- Lemmas and walks on which the claims of this seat lean: MProg2 MNeed MProg3 MNs1. -/
import Derived.Test.YtngdppajailpcaaGreatG05
import Derived.Test.YtngdppajailpcaaGreatG06
import Derived.Test.YtngdppajailpcaaGreatG12

set_option linter.all false

namespace Go.Proofs.YtngdppajailpcaaGreat
open Go.RowKit

attribute [local go_sem] Holds.drew Holds.alloc Holds.drewN WB.holds Oper.semAt_some FW_fn FW_dep FW_round run_loadShV run_indexShV run_indexRow
attribute [local go_sem ↓] loadAt_sh index_sh index_row

set_option maxRecDepth 100000 in
set_option maxHeartbeats 4000000 in
theorem shelved_any (v : Value) (l : List Plate) (H : Snap) (w : World) (hw : Holds H w) (hs : Sl H v l) (hok : setOk l = true) :
    Calls Tryz.prog 65 #[v] w (PostV w (.agg (shC (countsOf l)))) := by
  obtain ⟨a, c, rfl, hc1, hc2⟩ := hs.form
  rw [← shelvedOf_eq hok]
  go_enter Tryz.func65, Tryz.ntmps65
  go_upto_region 1 with fail
  have hrow : ShV H w.heap.size (w.alloc (.cells #[.int .i64 0, .int .i64 0, .int .i64 0, .int .i64 0, .int .i64 0, .int .i64 0, .int .i64 0, .int .i64 0, .int .i64 0, .int .i64 0, .int .i64 0, .int .i64 0] 84)) w.heap.size (shelvedOf (l.take 0)) := ShV.new hw (Nat.le_refl _)
  have hxa := (Ext.refl hw).alloc (.cells #[.int .i64 0, .int .i64 0, .int .i64 0, .int .i64 0, .int .i64 0, .int .i64 0, .int .i64 0, .int .i64 0, .int .i64 0, .int .i64 0, .int .i64 0, .int .i64 0] 84)
  generalize w.alloc (.cells #[.int .i64 0, .int .i64 0, .int .i64 0, .int .i64 0, .int .i64 0, .int .i64 0, .int .i64 0, .int .i64 0, .int .i64 0, .int .i64 0, .int .i64 0, .int .i64 0] 84) = w3 at *
  obtain ⟨R, hR⟩ : ∃ R, Hid (w.heap.size = R) := ⟨_, rfl⟩
  have hRn := hrow.free
  have hRb := hrow.base
  rw [show ShV H w.heap.size w3 w.heap.size (shelvedOf (l.take 0)) = ShV H w.heap.size w3 R (shelvedOf (l.take 0)) by rw [hR.out]] at hrow
  rw [hR.out] at hRn
  rw [show (Value.pointer (some ⟨w.heap.size, 0, none⟩)) = Value.pointer (some ⟨R, 0, none⟩) by rw [hR.out]]
  replace hRb : w.heap.size ≤ R := by rw [hR.out]; exact Nat.le_refl _
  go_wp2
  go_loopw [7] (fun i wr => ∃ k : Nat, k ≤ l.length ∧ i = .int .i64 k ∧ ShV H w.heap.size wr R (shelvedOf (l.take k)) ∧ Ext w H wr H) (fun i _ => l.length - (intOf i).toNat)
  case atStart => exact ⟨0, Nat.zero_le _, rfl, hrow, hxa⟩
  case round =>
    clear hrow hxa
    obtain ⟨k, hk, rfl, hrow, hxr⟩ := hrel
    have hwr := hxr.holds
    by_cases hlt : k < l.length
    · obtain ⟨p, hp⟩ := At.mk hlt
      obtain ⟨b, o, c', he, ⟨hi1, hi2, hi3⟩, hr1, hr2, hr3⟩ := hs.plate hp
      cases he
      have hpo := (setOk_iff.1 hok).1 p hp.mem
      obtain ⟨⟨p1, p2⟩, ⟨p3, p4⟩, p5, p6⟩ := okPlate_iff.1 hpo
      obtain ⟨pg, hpg⟩ : ∃ pg : Nat, p.pg = (pg : Int) := ⟨p.pg.toNat, by omega⟩
      obtain ⟨br, hbr⟩ : ∃ br : Nat, p.br = (br : Int) := ⟨p.br.toNat, by omega⟩
      have hn : pg * 3 + br < 12 := by omega
      have hsucc : Hid (shelvedOf (l.take (k + 1)) = (shelvedOf (l.take k)).set (pg * 3 + br) p.mn) := by
        show _ = _; rw [hp.take, shelvedOf_snoc]; unfold setP plc; rw [show (p.pg * 3 + p.br).toNat = pg * 3 + br by omega]
      have hat : At (shelvedOf (l.take k)) (pg * 3 + br) ((shelvedOf (l.take k))[pg * 3 + br]'(by rw [shelvedOf_len]; exact hn)) := List.getElem?_eq_getElem _
      have hz := hrow.cell hat
      have hzf := hrow.fz (pg * 3 + br)
      have hlt2 := hrow.lt
      generalize (shelvedOf (l.take k))[pg * 3 + br]'(by rw [shelvedOf_len]; exact hn) = z at *
      rw [hpg] at hr1 hi1 p1 p2
      rw [hbr] at hr2 hi2 p3 p4
      go_upto_region 4 with fail
      have hpe : Hid (p.pg = (pg : Int)) := hpg
      have hn_ : H (World.heap wr).size = none := ((Ext.refl hwr)).holds.none_of_ge (Nat.le_refl _)
      have hxz := (((Ext.refl hwr)).alloc (.cells #[.int .i64 (pg : Int), .int .i64 (br : Int), .int .i64 p.mn] 62)).freeze ((Ext.refl hwr)).below.size (heap_alloc_new wr _)
      have hle := Snap.le_put hn_ (.cells #[.int .i64 (pg : Int), .int .i64 (br : Int), .int .i64 p.mn] 62 (0, 0))
      have hput := Snap.put_same H (World.heap wr).size (.cells #[.int .i64 (pg : Int), .int .i64 (br : Int), .int .i64 p.mn] 62 (0, 0))
      clear hn_
      generalize Snap.put H (World.heap wr).size (.cells #[.int .i64 (pg : Int), .int .i64 (br : Int), .int .i64 p.mn] 62 (0, 0)) = H2 at *
      generalize World.alloc wr (.cells #[.int .i64 (pg : Int), .int .i64 (br : Int), .int .i64 p.mn] 62) = wz at *
      generalize (World.heap wr).size = cv at *
      have hwz := hxz.holds
      have hv0 : ∀ w, Holds H2 w → w.cell? ⟨cv, 0, none⟩ = some (.int .i64 (pg : Int)) := fun w hw => cellH hput hw 0
      have hv1 : ∀ w, Holds H2 w → w.cell? ⟨cv, 1, none⟩ = some (.int .i64 (br : Int)) := fun w hw => cellH hput hw 1
      have hv2 : ∀ w, Holds H2 w → w.cell? ⟨cv, 2, none⟩ = some (.int .i64 p.mn) := fun w hw => cellH hput hw 2
      have hrow2 := hrow.ext hxz
      have k0 : (0 : Int) ≤ (pg : Int) := by omega
      have k1 : (pg : Int) < 4 := by omega
      have k2 : (0 : Int) ≤ (br : Int) := by omega
      have k3 : (br : Int) < 3 := by omega
      refine (wpIn_wide (n := 3)).1 ?_
      show Code.wpIn (FW none) 3 _ _ _ _ _
      have hnq : Nonempty (WB H2 wz) := ⟨⟨wz, hwz, Below.refl _ _⟩⟩
      refine wpIn_region_qtail (C := fun w' => ∃ x : WB H2 wz, w' = x.w) 8 (by kernel_rfl) (by kernel_rfl) (by kernel_rfl) ⟨⟨World.drew wz, Holds.drew hwz, (Below.refl _ _).drew⟩, rfl⟩ ?_
      simp only [List.take_succ_cons, List.take_zero, List.drop_succ_cons, List.drop_zero]
      repeat go_big_quiet_step ((first | (fail)))
      refine wpQuiet_nil ?_
      clear hnq
      rintro w2 ⟨⟨_, hw2, hb2⟩, rfl⟩
      have hxb : Ext wz H2 w2 H2 := ⟨hb2, hw2, fun _ _ => rfl⟩
      have hrow3 := hrow2.ext hxb
      have hz3 := hrow3.cell hat
      have hzf3 := hrow3.fz (pg * 3 + br)
      have hrow4 := hrow3.set (pg * 3 + br) p.mn
      rw [← hsucc.out] at hrow4
      have hx4 : Ext w H w2 H := (hxr.trans (hxz.trans hxb)).back hxr hle
      have hx5 := hx4.setCell (a := ⟨R, pg * 3 + br, none⟩) hRb hRn (.int .i64 p.mn)
      replace hrow4 := Row.snap hrow4 hRn
      gi_wp2
      go_wp2
      go_roundw
      case rel => exact ⟨k + 1, by omega, by go_num, hrow4, hx5⟩
      case measure => simp [intOf]; omega
    · rw [List.take_of_length_le (by omega)] at hrow
      have hml := mid_row (show wr.heap[R]? = some (.cells (shC (shelvedOf l)) 84 (0, 0)) from hrow.at_) (shelvedOf_len _)
      have hms : (shC (shelvedOf l)).size = 12 := by rw [shC_size, shelvedOf_len]
      go_wp2_with (first | (refine wpList_storeSh rfl _ _ rfl rfl rfl hrow (shelvedOf_len _) (shelvedOf_len _) hxr (Nat.le_refl _) ?_; intro w5 hrow5 hx5 hO5 hz5))
      refine bodyPost_ret (results_cell_row rfl _ _ R _ (shC (shelvedOf l)) (0, 0) _ rfl hrow5.at_ Tryz.underlying84 rfl (by rw [hms]; exact size_sh)) rfl ?_
      exact ⟨rfl, hx5.below⟩

theorem plateAt_eq (c : Cnt) {k j : Nat} (hj : j < 3) : plateAt c (3 * k + j) = ⟨(k : Int), (j : Int), gT c (3 * k + j)⟩ := by
  unfold plateAt
  rw [show (3 * k + j) / 3 = k by omega, show (3 * k + j) % 3 = j by omega]

set_option maxRecDepth 100000 in
set_option maxHeartbeats 4000000 in
theorem setS_any (c : Cnt) (hc : Cn c) (H : Snap) (w : World) (hw : Holds H w) :
    Calls Tryz.prog 57 #[.agg (shC c)] w (PostO w H 62 (setOf c)) := by
  go_enter Tryz.func57, Tryz.ntmps57
  go_upto_region 1 with (refine wpList_boxF rfl _ rfl (Ext.refl hw) ?_; intro B w1 H1 hle hx hB hBw)
  have hld := midH hB hc.len
  have hsz : (shC c).size = 12 := by rw [shC_size, hc.len]
  have hw1 := hx.holds
  have hl := hc.len
  go_wp2
  go_loopw [3, 9] (fun v i wr => ∃ (k : Nat) (acc : List Plate), k ≤ 4 ∧ i = .int .i64 k ∧ Hid (acc = setTo12 c (3 * k)) ∧ acc.length ≤ 3 * k ∧ Ext w H wr H1 ∧ Own H1 w.heap.size wr 62 v acc) (fun _ i _ => 4 - (intOf i).toNat)
  case atStart => exact ⟨0, [], by omega, rfl, rfl, by simp, hx, Own.nil _ _ _ _⟩
  case round =>
    clear hx hw1
    obtain ⟨k, acc, hk, rfl, hacc, hacl, hxr, hown⟩ := hrel
    have hwr := hxr.holds
    obtain ⟨av, cv, ev, _, _⟩ := hown.form
    subst ev
    by_cases hlk : k < 4
    · have b0 := (hc.gt (show 3 * k < 12 by omega)).2
      have b1 := (hc.gt (show 3 * k + 1 < 12 by omega)).2
      have b2 := (hc.gt (show 3 * k + 2 < 12 by omega)).2
      have hd4 : decide ((k : Int) < 4) = true := by simp; omega
      go_wp2
      have hxa := hxr.alloc (.cells #[.int .i64 (gT c (3 * k)), .int .i64 (gT c (3 * k + 1)), .int .i64 (gT c (3 * k + 2))] 82)
      have howna := hown.alloc (.cells #[.int .i64 (gT c (3 * k)), .int .i64 (gT c (3 * k + 1)), .int .i64 (gT c (3 * k + 2))] 82)
      go_loopw [3, 14] (fun v i wq => ∃ (j : Nat) (acc : List Plate), j ≤ 3 ∧ i = .int .i64 j ∧ Hid (acc = setTo12 c (3 * k + j)) ∧ acc.length ≤ 3 * k + j ∧ Ext w H wq H1 ∧ Own H1 w.heap.size wq 62 v acc) (fun _ i _ => 3 - (intOf i).toNat)
      case atStart => exact ⟨0, acc, by omega, rfl, hacc, hacl, hxa, howna⟩
      case round =>
        clear hxa hxr hwr hown howna hacc
        obtain ⟨j, acc2, hj, rfl, hacc, hacl2, hxq, hown⟩ := hrel
        obtain ⟨av2, cv2, ev, _, _⟩ := hown.form
        subst ev
        by_cases hlj : j < 3
        · have hbj := (hc.gt (show 3 * k + j < 12 by omega)).2
          have hsel := sel3_gt (c := c) (k := k) hlj
          rw [← hsel] at hbj
          have hsucc := setTo12_succ c (3 * k + j)
          rw [← hsel, plateAt_eq c hlj, ← hsel] at hsucc
          replace hsel := Lib.hid hsel
          by_cases g : 0 < (sel3 (gT c (3 * k)) (gT c (3 * k + 1)) (gT c (3 * k + 2)) j)
          · rw [if_pos g] at hsucc
            replace hsucc := Lib.hid hsucc
            have i1 : I64 (k : Int) := ⟨by omega, by omega⟩
            have i2 : I64 (j : Int) := ⟨by omega, by omega⟩
            have i3 : I64 (sel3 (gT c (3 * k)) (gT c (3 * k + 1)) (gT c (3 * k + 2)) j) := ⟨by omega, by omega⟩
            go_wp2_with (first | ((at_builtin; have hgd := hown; clear hgd; refine wpList_app1R ePlate _ _ hxq hown (x := ⟨(k : Int), (j : Int), (sel3 (gT c (3 * k)) (gT c (3 * k + 1)) (gT c (3 * k + 2)) j)⟩) [.int .i64 (k : Int), .int .i64 (j : Int), .int .i64 (sel3 (gT c (3 * k)) (gT c (3 * k + 1)) (gT c (3 * k + 2)) j)] ⟨rfl, i1, i2, i3⟩ (by simp [Enc.by_]; omega) (by omega) rfl rfl rfl rfl ?_; intro vA wA hownA hxA hwA)))
            go_roundw
            case rel => exact ⟨j + 1, acc2 ++ [⟨(k : Int), (j : Int), (sel3 (gT c (3 * k)) (gT c (3 * k + 1)) (gT c (3 * k + 2)) j)⟩], by omega, by go_num, by show _ = _; rw [show 3 * k + (j + 1) = 3 * k + j + 1 by omega, hsucc.out, hacc.out], by simp; omega, hxA, hownA⟩
            case measure => simp [intOf]; omega
          · rw [if_neg g] at hsucc
            replace hsucc := Lib.hid hsucc
            go_wp2
            go_roundw
            case rel => exact ⟨j + 1, acc2, by omega, by go_num, by show _ = _; rw [show 3 * k + (j + 1) = 3 * k + j + 1 by omega, hsucc.out, hacc.out], by omega, hxq, hown⟩
            case measure => simp [intOf]; omega
        · obtain rfl : j = 3 := by omega
          go_wp2
          go_roundw
          case rel => exact ⟨k + 1, acc2, by omega, by go_num, by rw [show 3 * (k + 1) = 3 * k + 3 by omega]; exact hacc, by omega, hxq, hown⟩
          case measure => simp [intOf]; omega
    · obtain rfl : k = 4 := by omega
      go_wp2
      go_ret
      exact ⟨_, H1, rfl, hxr, hown.congr hacc.out⟩

set_option maxRecDepth 100000 in
set_option maxHeartbeats 4000000 in
theorem casesM_any (vm vb vt vo ve : Value) (h : Hall) (H : Snap) (w : World) (hw : Holds H w) (hh : Hal H vm vb vt vo ve h) (hm3 : h.hs.ms.length ≤ 3) :
    Calls Tryz.prog 71 #[halV vm vb vt vo ve h] w (PostO w H 3 (casesOf h.hs)) := by
  obtain ⟨am, cm, rfl, hm1, hm2⟩ := hh.hs.m.form
  go_enter Tryz.func71, Tryz.ntmps71
  go_upto_region 2 with (refine wpList_boxF rfl _ rfl (Ext.refl hw) ?_; intro B w1 H1 hle hx hB hBw; obtain ⟨hc0, hc1, hc2, hc3, hc4, hc5⟩ := cellsHal hB; clear hB hw; have hw1 := hx.holds)
  have hmm := hh.hs.m.mono hle
  have hown : Own H1 w.heap.size (w1.alloc (.cells #[.int .i64 (-1)] 3)) 3 (.slice (some ⟨w1.heap.size, 0, none⟩) 1 1) [(-1 : Int)] :=
    Own.lit (cs := [.int .i64 (-1)]) hw1 (reps_int.2 ⟨rfl, fun x hx => by simp at hx; subst hx; exact ⟨by omega, by omega⟩⟩) 3 hx.below.size (by simp [Enc.by_]) (by simp)
  have hxa := hx.alloc (.cells #[.int .i64 (-1)] 3)
  rw [show [(-1 : Int)] = casesTo h.hs 0 from rfl] at hown
  generalize w1.alloc (.cells #[.int .i64 (-1)] 3) = w3 at *
  generalize w1.heap.size = R at *
  clear hx hw1
  have hw3 := hxa.holds
  go_wp2
  go_loopw [3, 12] (fun v i wr => ∃ (k : Nat) (acc : List Int), k ≤ h.hs.ms.length ∧ i = .int .i64 k ∧ Hid (acc = casesTo h.hs k) ∧ acc.length ≤ k + 1 ∧ Ext w H wr H1 ∧ Own H1 w.heap.size wr 3 v acc) (fun _ i _ => h.hs.ms.length - (intOf i).toNat)
  case atStart => exact ⟨0, casesTo h.hs 0, Nat.zero_le _, rfl, rfl, casesTo_len _ _, hxa, hown⟩
  case round =>
    clear hxa hown hw3
    obtain ⟨k, acc, hk, rfl, hacc, hacl, hxr, hown⟩ := hrel
    have hwr := hxr.holds
    obtain ⟨av, cv, ev, _, _⟩ := hown.form
    subst ev
    by_cases hlk : k < h.hs.ms.length
    · obtain ⟨m, hmk⟩ := At.mk hlk
      obtain ⟨b, o, c, he, ⟨hi1, hi2, hi3⟩, hr, hp, hs⟩ := hmm.mach hmk
      cases he
      have hsucc := casesTo_succ h.hs k
      rw [hmk.mach] at hsucc
      by_cases g : m.s = 1
      · rw [if_pos g] at hsucc
        replace hsucc := Lib.hid hsucc
        have g2 : (m.s == (1 : Int)) = true := by simpa using g
        replace g := Lib.hid g
        go_upto_region 6 with fail
        have hxz := hxr.alloc (.cells #[.int .i64 m.r, .int .i64 m.p, .int .i64 m.s] 97)
        have hownz := hown.alloc (.cells #[.int .i64 m.r, .int .i64 m.p, .int .i64 m.s] 97)
        generalize wr.alloc (.cells #[.int .i64 m.r, .int .i64 m.p, .int .i64 m.s] 97) = wz at *
        generalize wr.heap.size = cz at *
        go_wp2_with (first | ((at_builtin; have hgd := hownz; clear hgd; refine wpList_app1I eInt _ _ hxz hownz (k : Int) (by unfold I64; omega) (by omega) rfl rfl rfl rfl ?_; intro vA wA hownA hxA hwA)))
        go_roundw
        case rel => exact ⟨k + 1, acc ++ [(k : Int)], by omega, by go_num, by show _ = _; rw [hsucc.out, hacc.out], by simp; omega, hxA, hownA⟩
        case measure => simp [intOf]; omega
      · rw [if_neg g] at hsucc
        replace hsucc := Lib.hid hsucc
        have g2 : (m.s == (1 : Int)) = false := by simpa using g
        replace g := Lib.hid g
        go_wp2
        go_roundw
        case rel => exact ⟨k + 1, acc, by omega, by go_num, by show _ = _; rw [hsucc.out, hacc.out], by omega, hxr.alloc _, hown.alloc _⟩
        case measure => simp [intOf]; omega
    · go_wp2
      go_ret
      have hke : k = h.hs.ms.length := by omega
      rw [hke] at hacc
      exact ⟨_, H1, rfl, hxr, hown.congr hacc.out⟩

/-- What 'open' hands back. -/
def zeroHal : Value := .agg #[.slice none 0 0, .slice none 0 0, .slice none 0 0, .int .i64 0, .slice none 0 0, .slice none 0 0]
set_option maxRecDepth 100000 in
set_option maxHeartbeats 4000000 in
theorem open_any (vm vb vt vo ve : Value) (h : Hall) (is : Bool) (H : Snap) (w : World) (hw : Holds H w) (hh : Hal H vm vb vt vo ve h) :
    Calls Tryz.prog 47 #[halV vm vb vt vo ve h, .bool is] w (PostV w (.tuple #[if validHall h && is then halV vm vb vt vo ve h else zeroHal, .int .i64 (askM (validHall h) is)])) := by
  obtain ⟨am, cm, rfl, hm1, hm2⟩ := hh.hs.m.form
  obtain ⟨ab, cb, rfl, hb1, hb2⟩ := hh.hs.b.form
  obtain ⟨at', ct, rfl, ht1, ht2⟩ := hh.hs.t.form
  obtain ⟨ao, co, rfl, ho1, ho2⟩ := hh.bo.form
  obtain ⟨ae, ce, rfl, he1, he2⟩ := hh.ed.form
  obtain ⟨V, hV⟩ : ∃ V, Hid (V = (if validHall h && is then halV (.slice am h.hs.ms.length cm) (.slice ab h.hs.bs.length cb) (.slice at' h.hs.ts.length ct) (.slice ao h.bo.length co) (.slice ae h.ed.length ce) h else zeroHal)) := ⟨_, rfl⟩
  rw [← hV.out]
  cases hv : validHall h
  · have he : errM (validHall h) = 90 := by rw [hv]; rfl
    have hVe := hV.out
    rw [hv, Bool.false_and, if_neg (by decide)] at hVe
    replace hVe := Lib.hid hVe
    go_enter Tryz.func47, Tryz.ntmps47
    go_upto_region 1 with (refine wpList_boxF rfl _ rfl (Ext.refl hw) ?_; intro B w1 H1 hle hx hB hBw; obtain ⟨hc0, hc1, hc2, hc3, hc4, hc5⟩ := cellsHal hB; clear hB hw; have hw1 := hx.holds)
    have hrow : Rdy6 w1.heap.size 72 (w1.alloc (.cells #[.slice none 0 0, .slice none 0 0, .slice none 0 0, .int .i64 0, .slice none 0 0, .slice none 0 0] 72)) := ⟨_, _, _, _, _, _, heap_alloc_new _ _⟩
    have hxz := hx.alloc (.cells #[.slice none 0 0, .slice none 0 0, .slice none 0 0, .int .i64 0, .slice none 0 0, .slice none 0 0] 72)
    have hRn : H1 w1.heap.size = none := hw1.none_of_ge (Nat.le_refl _)
    have hRb := hx.below.size
    generalize w1.alloc (.cells #[.slice none 0 0, .slice none 0 0, .slice none 0 0, .int .i64 0, .slice none 0 0, .slice none 0 0] 72) = wz at *
    generalize w1.heap.size = R at *
    clear hx hw1
    have hwz := hxz.holds
    go_upto_region 2 with (go_at_call 86; refine (checkM_any _ _ _ _ _ h H1 wz hwz (hh.mono hle)).mono ?_; rintro e w3 ⟨rfl, hb3⟩; rw [he])
    have hr3 := hrow.below hb3 hrow.lt
    have hx3 := hxz.step (hb3.mono hxz.below.size) (hwz.below hb3)
    obtain ⟨r0, hr0⟩ := hr3.cell 0 (by omega)
    obtain ⟨r1, hr1⟩ := hr3.cell 1 (by omega)
    obtain ⟨r2, hr2⟩ := hr3.cell 2 (by omega)
    obtain ⟨r3, hr3'⟩ := hr3.cell 3 (by omega)
    obtain ⟨r4, hr4⟩ := hr3.cell 4 (by omega)
    obtain ⟨r5, hr5⟩ := hr3.cell 5 (by omega)
    have f0 := hr3.fz 0
    have f1 := hr3.fz 1
    have f2 := hr3.fz 2
    have f3 := hr3.fz 3
    have f4 := hr3.fz 4
    have f5 := hr3.fz 5
    go_wp2
    refine bodyPost_ret (results_cell_slot rfl _ _ R 72 _ (0, 0) _ rfl (hr3.row _ _ _ _ _ _) Tryz.underlying72 rfl (by kernel_rfl)) rfl ?_
    exact ⟨by rw [hVe.out]; rfl, (hx3.set6 hRb hRn _ _ _ _ _ _).below⟩
  · have he : errM (validHall h) = 0 := by rw [hv]; rfl
    cases is
    · have hVe := hV.out
      rw [hv, Bool.and_false, if_neg (by decide)] at hVe
      replace hVe := Lib.hid hVe
      go_enter Tryz.func47, Tryz.ntmps47
      go_upto_region 1 with (refine wpList_boxF rfl _ rfl (Ext.refl hw) ?_; intro B w1 H1 hle hx hB hBw; obtain ⟨hc0, hc1, hc2, hc3, hc4, hc5⟩ := cellsHal hB; clear hB hw; have hw1 := hx.holds)
      have hrow : Rdy6 w1.heap.size 72 (w1.alloc (.cells #[.slice none 0 0, .slice none 0 0, .slice none 0 0, .int .i64 0, .slice none 0 0, .slice none 0 0] 72)) := ⟨_, _, _, _, _, _, heap_alloc_new _ _⟩
      have hxz := hx.alloc (.cells #[.slice none 0 0, .slice none 0 0, .slice none 0 0, .int .i64 0, .slice none 0 0, .slice none 0 0] 72)
      have hRn : H1 w1.heap.size = none := hw1.none_of_ge (Nat.le_refl _)
      have hRb := hx.below.size
      generalize w1.alloc (.cells #[.slice none 0 0, .slice none 0 0, .slice none 0 0, .int .i64 0, .slice none 0 0, .slice none 0 0] 72) = wz at *
      generalize w1.heap.size = R at *
      clear hx hw1
      have hwz := hxz.holds
      go_upto_region 2 with (go_at_call 86; refine (checkM_any _ _ _ _ _ h H1 wz hwz (hh.mono hle)).mono ?_; rintro e w3 ⟨rfl, hb3⟩; rw [he])
      have hr3 := hrow.below hb3 hrow.lt
      have hx3 := hxz.step (hb3.mono hxz.below.size) (hwz.below hb3)
      obtain ⟨r0, hr0⟩ := hr3.cell 0 (by omega)
      obtain ⟨r1, hr1⟩ := hr3.cell 1 (by omega)
      obtain ⟨r2, hr2⟩ := hr3.cell 2 (by omega)
      obtain ⟨r3, hr3'⟩ := hr3.cell 3 (by omega)
      obtain ⟨r4, hr4⟩ := hr3.cell 4 (by omega)
      obtain ⟨r5, hr5⟩ := hr3.cell 5 (by omega)
      have f0 := hr3.fz 0
      have f1 := hr3.fz 1
      have f2 := hr3.fz 2
      have f3 := hr3.fz 3
      have f4 := hr3.fz 4
      have f5 := hr3.fz 5
      go_wp2
      refine bodyPost_ret (results_cell_slot rfl _ _ R 72 _ (0, 0) _ rfl (hr3.row _ _ _ _ _ _) Tryz.underlying72 rfl (by kernel_rfl)) rfl ?_
      exact ⟨by rw [hVe.out]; rfl, (hx3.set6 hRb hRn _ _ _ _ _ _).below⟩
    · have hVe := hV.out
      rw [hv, Bool.and_true, if_pos rfl] at hVe
      replace hVe := Lib.hid hVe
      go_enter Tryz.func47, Tryz.ntmps47
      go_upto_region 1 with (refine wpList_boxF rfl _ rfl (Ext.refl hw) ?_; intro B w1 H1 hle hx hB hBw; obtain ⟨hc0, hc1, hc2, hc3, hc4, hc5⟩ := cellsHal hB; clear hB hw; have hw1 := hx.holds)
      have hrow : Rdy6 w1.heap.size 72 (w1.alloc (.cells #[.slice none 0 0, .slice none 0 0, .slice none 0 0, .int .i64 0, .slice none 0 0, .slice none 0 0] 72)) := ⟨_, _, _, _, _, _, heap_alloc_new _ _⟩
      have hxz := hx.alloc (.cells #[.slice none 0 0, .slice none 0 0, .slice none 0 0, .int .i64 0, .slice none 0 0, .slice none 0 0] 72)
      have hRn : H1 w1.heap.size = none := hw1.none_of_ge (Nat.le_refl _)
      have hRb := hx.below.size
      generalize w1.alloc (.cells #[.slice none 0 0, .slice none 0 0, .slice none 0 0, .int .i64 0, .slice none 0 0, .slice none 0 0] 72) = wz at *
      generalize w1.heap.size = R at *
      clear hx hw1
      have hwz := hxz.holds
      go_upto_region 2 with (go_at_call 86; refine (checkM_any _ _ _ _ _ h H1 wz hwz (hh.mono hle)).mono ?_; rintro e w3 ⟨rfl, hb3⟩; rw [he]; have hw3 := hwz.below hb3)
      have hr3 := hrow.below hb3 hrow.lt
      have hx3 := hxz.step (hb3.mono hxz.below.size) (hwz.below hb3)
      obtain ⟨r0, hr0⟩ := hr3.cell 0 (by omega)
      obtain ⟨r1, hr1⟩ := hr3.cell 1 (by omega)
      obtain ⟨r2, hr2⟩ := hr3.cell 2 (by omega)
      obtain ⟨r3, hr3'⟩ := hr3.cell 3 (by omega)
      obtain ⟨r4, hr4⟩ := hr3.cell 4 (by omega)
      obtain ⟨r5, hr5⟩ := hr3.cell 5 (by omega)
      have f0 := hr3.fz 0
      have f1 := hr3.fz 1
      have f2 := hr3.fz 2
      have f3 := hr3.fz 3
      have f4 := hr3.fz 4
      have f5 := hr3.fz 5
      go_wp2
      refine bodyPost_ret (results_cell_slot rfl _ _ R 72 _ (0, 0) _ rfl (hr3.row _ _ _ _ _ _) Tryz.underlying72 rfl (by kernel_rfl)) rfl ?_
      exact ⟨by rw [hVe.out]; rfl, (hx3.set6 hRb hRn _ _ _ _ _ _).below⟩

end Go.Proofs.YtngdppajailpcaaGreat

namespace Go.Proofs.YtngdppajailpcaaGreat
open Go.RowKit

attribute [local go_sem] Holds.drew Holds.alloc Holds.drewN WB.holds Oper.semAt_some FW_fn FW_dep FW_round run_loadShV run_indexShV run_indexRow
attribute [local go_sem ↓] loadAt_sh index_sh index_row

/-- What a machine's own shelf holds after some bundles, and of one more the first pages. -/
def ownTo (h : Hall) (b : Nat) (L : List Int) (E : List Int) : Cnt := mk12 fun k => if decide (k % 3 = b) && (needP h L (k / 3) || decide (((k / 3 : Nat) : Int) ∈ E)) then 1 else 0
theorem ownTo_zero (h : Hall) (b : Nat) : ownTo h b [] [] = zero12 := mk12_congr fun k _ => by simp [needP]
theorem ownTo_next {h : Hall} {b : Nat} {L : List Int} {i : Nat} {x : Int} (hx : At L i x) : ownTo h b (L.take i) (edn h x) = ownTo h b (L.take (i + 1)) [] := mk12_congr fun k _ => by
  rw [needP_take hx]; simp
theorem ownTo_step (h : Hall) {b : Nat} (hb : b < 3) (L E : List Int) {pg : Nat} (hpg : pg < 4) : (ownTo h b L E).set (pg * 3 + b) 1 = ownTo h b L (E ++ [(pg : Int)]) := by
  unfold ownTo
  rw [mk12_set]
  refine mk12_congr fun k hk => ?_
  by_cases e : k = pg * 3 + b
  · subst e
    rw [if_pos rfl, decide_eq_true (by omega : (pg * 3 + b) % 3 = b), show (pg * 3 + b) / 3 = pg by omega]
    simp
  · rw [if_neg e]
    by_cases e2 : k % 3 = b
    · have : ¬ ((k / 3 : Nat) : Int) = (pg : Int) := by omega
      have h2 : decide (((k / 3 : Nat) : Int) ∈ E ++ [(pg : Int)]) = decide (((k / 3 : Nat) : Int) ∈ E) := decide_eq_decide.2 (by rw [List.mem_append, List.mem_singleton]; exact ⟨fun h => h.elim id (fun h => absurd h this), .inl⟩)
      rw [h2]
    · rw [decide_eq_false e2]; simp
theorem ownTo_len (h : Hall) (b : Nat) (L E : List Int) : (ownTo h b L E).length = 12 := mk12_len _
theorem ownTo_cn (h : Hall) (b : Nat) (L E : List Int) : Cn (ownTo h b L E) := Cn.mk12 fun k _ => by split <;> omega
theorem ownTo_add {h : Hall} {plan : List (List Int)} {m b : Nat} {L : List Int} (hL : plan.getD m [] = L) (hb : bore h m = (b : Int)) : List.zipWith addF (needTo h plan m 0) (ownTo h b L []) = needTo h plan (m + 1) 0 := by
  rw [zip12 _ _ _ (needTo_len _ _ _ _) (ownTo_len _ _ _ _)]
  refine mk12_congr fun k hk => ?_
  unfold needTo ownTo
  rw [mk12_get _ hk, mk12_get _ hk, countM_succ, decide_eq_false (by omega : ¬ k / 3 < 0)]
  have : needM h plan k m = (decide (k % 3 = b) && needP h L (k / 3)) := by
    unfold needM; rw [hb, hL]
    congr 1
    exact decide_eq_decide.2 (by omega)
  rw [this]
  unfold addF
  cases decide (k % 3 = b) <;> cases needP h L (k / 3) <;> simp
theorem needTo_cn (h : Hall) (plan : List (List Int)) {m pg : Nat} (hm : m ≤ 3) : Cn (needTo h plan m pg) := Cn.of (needTo_len _ _ _ _) fun k hk => by
  have := needTo_bd h plan m pg hk
  unfold gT at this; omega

set_option maxRecDepth 100000 in
set_option maxHeartbeats 8000000 in
theorem need_any (vm vb vt vo ve vp : Value) (h : Hall) (hv : ValidH h) (plan : List (List Int)) (hpl : isPlan h.hs plan = true) (H : Snap) (w : World) (hw : Holds H w) (hh : Hal H vm vb vt vo ve h) (hp : Sl H vp plan) :
    Calls Tryz.prog 99 #[halV vm vb vt vo ve h, vp] w (PostV w (.agg (shC (needOf h plan)))) := by
  obtain ⟨ab, cb, rfl, hb1, hb2⟩ := hh.hs.b.form
  obtain ⟨ao, co, rfl, ho1, ho2⟩ := hh.bo.form
  obtain ⟨ae, ce, rfl, he1, he2⟩ := hh.ed.form
  obtain ⟨ap, cp, rfl, hp1, hp2⟩ := hp.form
  have hpl1 : plan.length = h.hs.ms.length := by
    have := hpl; simp only [isPlan, Bool.and_eq_true, decide_eq_true_eq] at this; exact this.1
  have hm3 : plan.length ≤ 3 := by rw [hpl1]; exact hv.hs.m3
  have hbo : plan.length = h.bo.length := by rw [hpl1, hv.bo]
  have hgood : ∀ l ∈ plan, ∀ b ∈ l, 0 ≤ b ∧ b ≤ (h.hs.bs.length : Int) - 1 := fun l hl b hb => by
    have := hpl; simp only [isPlan, Bool.and_eq_true] at this
    exact (goodAll_iff.1 this.2).1 b (List.mem_flatten.2 ⟨l, hl, hb⟩)
  replace hpl1 := Lib.hid hpl1
  replace hbo := Lib.hid hbo
  go_enter Tryz.func99, Tryz.ntmps99
  go_upto_region 1 with (refine wpList_boxF rfl _ rfl (Ext.refl hw) ?_; intro B w1 H1 hle hx hB hBw; obtain ⟨hc0, hc1, hc2, hc3, hc4, hc5⟩ := cellsHal hB; clear hB hw; have hw1 := hx.holds)
  have hbm := hh.hs.b.mono hle
  have hom := hh.bo.mono hle
  have hem := hh.ed.mono hle
  have hpm := hp.mono hle
  have hrow := ShV.new hw1 hx.below.size
  have hxa := hx.alloc (.cells #[.int .i64 0, .int .i64 0, .int .i64 0, .int .i64 0, .int .i64 0, .int .i64 0, .int .i64 0, .int .i64 0, .int .i64 0, .int .i64 0, .int .i64 0, .int .i64 0] 84)
  generalize w1.alloc (.cells #[.int .i64 0, .int .i64 0, .int .i64 0, .int .i64 0, .int .i64 0, .int .i64 0, .int .i64 0, .int .i64 0, .int .i64 0, .int .i64 0, .int .i64 0, .int .i64 0] 84) = w3 at *
  generalize w1.heap.size = S at *
  rw [← needTo_zero h plan] at hrow
  have hSn := hrow.free
  have hSb := hrow.base
  clear hx hw1
  go_wp2
  go_loopw [14] (fun i wr => ∃ m : Nat, m ≤ plan.length ∧ i = .int .i64 m ∧ ShV H1 w.heap.size wr S (needTo h plan m 0) ∧ Ext w H wr H1) (fun i _ => plan.length - (intOf i).toNat)
  case atStart => exact ⟨0, Nat.zero_le _, rfl, hrow, hxa⟩
  case round =>
    clear hrow hxa
    obtain ⟨m, hm, rfl, hrow, hxr⟩ := hrel
    have hwr := hxr.holds
    by_cases hlt : m < plan.length
    · obtain ⟨L, hL⟩ := At.mk hlt
      obtain ⟨bp, op, cp', u, he, hsl, hrl⟩ := hpm.list hL
      cases he
      obtain ⟨al, cl, rfl, hl1, hl2⟩ := hsl.form
      have hLg := hgood L hL.mem
      have hLd : plan.getD m [] = L := hL.getD _
      obtain ⟨b, hb3, hbe, hbat⟩ := bore_bd hv (show m < h.hs.ms.length by rw [← hpl1.out]; exact hlt)
      rw [hbe] at hbat
      obtain ⟨bo', oo', co', he, hio, hro⟩ := hom.int hbat
      cases he
      have hm0 : (0 : Int) ≤ (m : Int) := by omega
      have hm2 : (m : Int) < (h.bo.length : Int) := by rw [← hbo.out]; omega
      have hmd : decide ((m : Int) < (plan.length : Int)) = true := by simp; omega
      have hadd := Lib.hid (ownTo_add (h := h) (plan := plan) hLd hbe)
      replace hbe := Lib.hid hbe
      replace hLd := Lib.hid hLd
      go_upto_region 5 with fail
      have hO := ShV.new (base := w.heap.size) hwr hxr.below.size
      have hS2 := hrow.alloc (.cells #[.int .i64 0, .int .i64 0, .int .i64 0, .int .i64 0, .int .i64 0, .int .i64 0, .int .i64 0, .int .i64 0, .int .i64 0, .int .i64 0, .int .i64 0, .int .i64 0] 84)
      have hx2 := hxr.alloc (.cells #[.int .i64 0, .int .i64 0, .int .i64 0, .int .i64 0, .int .i64 0, .int .i64 0, .int .i64 0, .int .i64 0, .int .i64 0, .int .i64 0, .int .i64 0, .int .i64 0] 84)
      have hSO := hrow.lt
      generalize wr.alloc (.cells #[.int .i64 0, .int .i64 0, .int .i64 0, .int .i64 0, .int .i64 0, .int .i64 0, .int .i64 0, .int .i64 0, .int .i64 0, .int .i64 0, .int .i64 0, .int .i64 0] 84) = w4 at *
      generalize wr.heap.size = O at *
      clear hxr hwr hrow
      rw [← ownTo_zero h b] at hO
      have hOn := hO.free
      have hOb := hO.base
      go_wp2
      go_loopw [21] (fun i wr => ∃ n : Nat, n ≤ L.length ∧ i = .int .i64 n ∧ ShV H1 w.heap.size wr S (needTo h plan m 0) ∧ ShV H1 w.heap.size wr O (ownTo h b (L.take n) []) ∧ Ext w H wr H1) (fun i _ => L.length - (intOf i).toNat)
      case atStart => exact ⟨0, Nat.zero_le _, rfl, hS2, hO, hx2⟩
      case round =>
        clear hS2 hO hx2
        obtain ⟨n, hn, rfl, hrS, hrO, hxr⟩ := hrel
        have hwr := hxr.holds
        by_cases hln : n < L.length
        · obtain ⟨x, hxn⟩ := At.mk hln
          obtain ⟨bl, ol, cl', he, hi, hrx⟩ := hsl.int hxn
          cases he
          obtain ⟨hb0, hb9⟩ := hLg x hxn.mem
          obtain ⟨j, rfl⟩ : ∃ j : Nat, x = (j : Int) := ⟨x.toNat, by omega⟩
          have hj : j < h.hs.bs.length := by omega
          obtain ⟨y, hyj⟩ := At.mk hj
          obtain ⟨bb, ob, cb', he, ⟨hi1, hi2, hi3⟩, hr1, hr2, hr3⟩ := hbm.bund hyj
          cases he
          obtain ⟨e, hxe, hee, hate, hrise⟩ := edn_at hv hyj
          rw [hxe] at hr3 hi3
          clear hxe
          obtain ⟨be, oe, ce', u, he, hse, hre⟩ := hem.list hate
          cases he
          obtain ⟨aE, cE, rfl, hE1, hE2⟩ := hse.form
          have hnext := ownTo_next (h := h) (b := b) hxn
          have hr4 := (rising_iff.1 hrise).1
          generalize edn h (j : Int) = E at *
          have hj0 : (0 : Int) ≤ (j : Int) := by omega
          have hj1 : (j : Int) < (h.hs.bs.length : Int) := by omega
          have hq0 : (0 : Int) ≤ (e : Int) := by omega
          have hq1 : (e : Int) < (h.ed.length : Int) := by omega
          have hnd : decide ((n : Int) < (L.length : Int)) = true := by simp; omega
          replace hnext := Lib.hid hnext
          clear hrise
          go_upto_region 8 with fail
          refine wp_region_quietB H1 (by kernel_rfl) (by kernel_rfl) hwr (fun hne => ?_)
          repeat go_big_quiet_step ((first | (fail)))
          refine wpQuiet_nil ?_
          rintro ⟨w2, hw2, hb2⟩
          clear hne
          have hxb : Ext wr H1 w2 H1 := ⟨hb2, hw2, fun _ _ => rfl⟩
          have hrS2 := hrS.ext hxb
          have hrO2 := hrO.ext hxb
          have hx2 : Ext w H w2 H1 := hxr.step (hb2.mono hxr.below.size) hw2
          go_wp2
          clear hrS hrO hxr hwr hxb hb2
          go_loopw [39] (fun i wr => ∃ q : Nat, q ≤ E.length ∧ i = .int .i64 q ∧ ShV H1 w.heap.size wr S (needTo h plan m 0) ∧ ShV H1 w.heap.size wr O (ownTo h b (L.take n) (E.take q)) ∧ Ext w H wr H1) (fun i _ => E.length - (intOf i).toNat)
          case atStart => exact ⟨0, Nat.zero_le _, rfl, hrS2, hrO2, hx2⟩
          case round =>
            clear hrS2 hrO2 hx2 hw2
            obtain ⟨q, hq, rfl, hrS, hrO, hxr⟩ := hrel
            have hwr := hxr.holds
            by_cases hlq : q < E.length
            · obtain ⟨z, hzq⟩ := At.mk hlq
              obtain ⟨be2, oe2, ce2, he, hiz, hrz⟩ := hse.int hzq
              cases he
              obtain ⟨z0, z3⟩ := hr4 z hzq.mem
              obtain ⟨pg, rfl⟩ : ∃ pg : Nat, z = (pg : Int) := ⟨z.toNat, by omega⟩
              have hstep := ownTo_step h hb3 (L.take n) (E.take q) (show pg < 4 by omega)
              rw [← hzq.take] at hstep
              replace hstep := Lib.hid hstep
              have hk : pg * 3 + b < 12 := by omega
              have p0 : (0 : Int) ≤ (pg : Int) := by omega
              have p1 : (pg : Int) < 4 := by omega
              have p2 : (0 : Int) ≤ (b : Int) := by omega
              have p3 : (b : Int) < 3 := by omega
              go_upto_region 11 with fail
              refine (wpIn_wide (n := 3)).1 ?_
              show Code.wpIn (FW none) 3 _ _ _ _ _
              have hnq : Nonempty (WB H1 wr) := ⟨⟨wr, hwr, Below.refl _ _⟩⟩
              refine wpIn_region_qtail (C := fun w' => ∃ x : WB H1 wr, w' = x.w) 9 (by kernel_rfl) (by kernel_rfl) (by kernel_rfl) ⟨⟨World.drew wr, Holds.drew hwr, (Below.refl _ _).drew⟩, rfl⟩ ?_
              simp only [List.take_succ_cons, List.take_zero, List.drop_succ_cons, List.drop_zero]
              repeat go_big_quiet_step ((first | (fail)))
              refine wpQuiet_nil ?_
              clear hnq
              rintro w2 ⟨⟨_, hw2, hb2⟩, rfl⟩
              have hxb : Ext wr H1 w2 H1 := ⟨hb2, hw2, fun _ _ => rfl⟩
              have hrS2 := hrS.ext hxb
              have hrO2 := hrO.ext hxb
              have hx2 : Ext w H w2 H1 := hxr.step (hb2.mono hxr.below.size) hw2
              have hcO := hrO2.cell (i := pg * 3 + b) (show At _ _ ((ownTo h b (L.take n) (E.take q))[pg * 3 + b]'(by rw [ownTo_len]; exact hk)) from List.getElem?_eq_getElem _)
              have hfO := hrO2.fz (pg * 3 + b)
              have hrO3 := hrO2.set (pg * 3 + b) 1
              rw [hstep.out] at hrO3
              have hrS3 := hrS2.other (a := ⟨O, pg * 3 + b, none⟩) (show O ≠ S by omega) (.int .i64 1)
              have hx3 := hx2.setCell (a := ⟨O, pg * 3 + b, none⟩) hOb hOn (.int .i64 1)
              gi_wp2
              go_wp2
              go_roundw
              case rel => exact ⟨q + 1, by omega, by go_num, hrS3, hrO3, hx3⟩
              case measure => simp [intOf]; omega
            · rw [take_all (xs := E) (k := q) (by omega), hnext.out] at hrO
              go_wp2
              go_roundw
              case rel => exact ⟨n + 1, by omega, by go_num, hrS, hrO, hxr⟩
              case measure => simp [intOf]; omega
        · rw [List.take_of_length_le (by omega)] at hrO
          have hcS := needTo_cn h plan (m := m) (pg := 0) (by omega)
          have hcO := ownTo_cn h b L []
          have h1 := mid_row (show wr.heap[S]? = some (.cells (shC (needTo h plan m 0)) 84 (0, 0)) from hrS.at_) hcS.len
          have h2 := mid_row (show wr.heap[O]? = some (.cells (shC (ownTo h b L [])) 84 (0, 0)) from hrO.at_) hcO.len
          have s1 : (shC (needTo h plan m 0)).size = 12 := by rw [shC_size, hcS.len]
          have s2 : (shC (ownTo h b L [])).size = 12 := by rw [shC_size, hcO.len]
          go_wp2_with (first | (have hgd := x4; clear hgd; refine wpList_storeSh rfl _ _ rfl rfl rfl r4 hcS.len (needTo_len _ _ _ _) x4 (Nat.le_refl _) ?_; intro w5 r5 x5 hO5 hz5) | (go_at_call 121; refine (add_each _ _ hcS hcO H1 _ hwr).mono ?_; rw [hadd.out]; rintro e w4 ⟨rfl, hb4⟩; have hw4 := hwr.below hb4; have x4 := hxr.step (hb4.mono hxr.below.size) hw4; have r4 := hrS.ext ⟨hb4, hw4, fun _ _ => rfl⟩))
          go_roundw
          case rel => exact ⟨m + 1, by omega, by go_num, r5, x5⟩
          case measure => simp [intOf]; omega
    · have hme : m = plan.length := by omega
      rw [hme, needTo_end] at hrow
      have hcS : Cn (needOf h plan) := needOf_cn hm3
      have h1 := mid_row (show wr.heap[S]? = some (.cells (shC (needOf h plan)) 84 (0, 0)) from hrow.at_) hcS.len
      have s1 : (shC (needOf h plan)).size = 12 := by rw [shC_size, hcS.len]
      go_wp2_with (first | (refine wpList_storeSh rfl _ _ rfl rfl rfl hrow hcS.len hcS.len hxr (Nat.le_refl _) ?_; intro w5 r5 x5 hO5 hz5))
      refine bodyPost_ret (results_cell_row rfl _ _ S _ (shC (needOf h plan)) (0, 0) _ rfl r5.at_ Tryz.underlying84 rfl (by rw [s1]; exact size_sh)) rfl ?_
      exact ⟨rfl, x5.below⟩

end Go.Proofs.YtngdppajailpcaaGreat

namespace Go.Proofs.YtngdppajailpcaaGreat
open Go.RowKit

attribute [local go_sem] Holds.drew Holds.alloc Holds.drewN WB.holds Oper.semAt_some FW_fn FW_dep FW_round run_loadShV run_indexShV run_indexRow
attribute [local go_sem ↓] loadAt_sh index_sh index_row

/-- 'open' by what is valid and asked. -/
theorem open_no (vm vb vt vo ve : Value) (h : Hall) (is : Bool) (hn : (validHall h && is) = false) (H : Snap) (w : World) (hw : Holds H w) (hh : Hal H vm vb vt vo ve h) :
    Calls Tryz.prog 47 #[halV vm vb vt vo ve h, .bool is] w (PostV w (.tuple #[.agg #[.slice none 0 0, .slice none 0 0, .slice none 0 0, .int .i64 0, .slice none 0 0, .slice none 0 0], .int .i64 (askM (validHall h) is)])) := by
  have := open_any vm vb vt vo ve h is H w hw hh
  rw [hn, if_neg (by decide)] at this; exact this
theorem open_yes (vm vb vt vo ve : Value) (h : Hall) (hv : validHall h = true) (H : Snap) (w : World) (hw : Holds H w) (hh : Hal H vm vb vt vo ve h) :
    Calls Tryz.prog 47 #[halV vm vb vt vo ve h, .bool true] w (PostV w (.tuple #[halV vm vb vt vo ve h, .int .i64 0])) := by
  have := open_any vm vb vt vo ve h true H w hw hh
  rw [hv, Bool.and_true, if_pos rfl] at this
  exact this

/-- A shelf does for one of some. -/
theorem does_any (c : Cnt) (hc : Cn c) (v : Value) (ss : List Shf) (H : Snap) (w : World) (hw : Holds H w) (hs : Sl H v ss) (hss : ∀ s ∈ ss, Cn s.c) :
    Calls Tryz.prog 66 #[.agg (shC c), v] w (PostV w (.bool (doesC c (ss.map Shf.c)))) := by
  have hl := hc.len
  have e : doesC c (ss.map Shf.c) = ss.any (fun s => cntLe s.c c) := by unfold doesC; rw [List.any_map]; rfl
  rw [e]
  have hct := fun (H : Snap) (w : World) hw ha => containsM4_any c v ss (fun s => cntLe s.c c) H w hw ha (Lib.hid fun x hx w hw => has_any c x.c hc (hss x hx) H w hw)
  replace hct := Lib.hid hct
  have hmf : ∀ (fn : Fn) (first cap : Array Value) (w : World), (Instr.makeFunc fn first cap).run Tryz.prog w = .ok (.func fn first cap) w := fun _ _ _ _ => rfl
  go_enter Tryz.func66, Tryz.ntmps66
  go_upto_region 1 with (refine wpList_boxF rfl _ rfl (Ext.refl hw) ?_; intro B1 w1 H1 hle1 hx1 hB1 hBw1; clear hw)
  have hw1 := hx1.holds
  have h1 := midH hB1 hl
  have s1 : (shC c).size = 12 := by rw [shC_size, hl]
  go_wp2_with (first | (go_at_call 95; refine (hct.out H1 _ hw1 (hs.mono hle1)).mono ?_; rintro e w' ⟨rfl, hbC⟩))
  go_ret
  exact ⟨rfl, hx1.below.trans (hbC.mono hx1.below.size)⟩

end Go.Proofs.YtngdppajailpcaaGreat

namespace Go.Proofs.YtngdppajailpcaaGreat
open Go.RowKit
open Go.ChangeMaps (setBlock heap_setBlock_same heap_setBlock_other)

attribute [local go_sem] Holds.drew Holds.alloc Holds.drewN WB.holds Oper.semAt_some FW_fn FW_dep FW_round run_loadShV run_indexShV run_indexRow
attribute [local go_sem ↓] loadAt_sh index_sh index_row

/-- What the plans by which no train is late need. -/
def keepP (h : Hall) (ps : List (List (List Int))) : List Cnt := (ps.filter fun p => decide (lateOf h.hs p = [])).map (needOf h)
theorem keepP_append (h : Hall) (a b : List (List (List Int))) : keepP h (a ++ b) = keepP h a ++ keepP h b := by unfold keepP; rw [List.filter_append, List.map_append]
theorem keepP_nil (h : Hall) : keepP h [] = [] := rfl
theorem keepP_len (h : Hall) (a : List (List (List Int))) : (keepP h a).length ≤ a.length := by unfold keepP; rw [List.length_map]; exact List.length_filter_le _ _
theorem keepP_one {h : Hall} {p : List (List Int)} (e : lateOf h.hs p = []) : keepP h [p] = [needOf h p] := by unfold keepP; simp [e]
theorem keepP_no {h : Hall} {p : List (List Int)} (e : lateOf h.hs p ≠ []) : keepP h [p] = [] := by unfold keepP; simp [e]

/-- What 'from' finds in memory. -/
structure NEnv (HF : Snap) (vm vb vt vo ve : Value) (h : Hall) (stop : Int) (PB HB GB FB SB MB R : Nat) : Prop where
  pb : HF PB = some (.cells #[.slice (some ⟨R, 0, none⟩) h.hs.ms.length h.hs.ms.length] 27 (0, 0))
  hb : HF HB = some (.cells (halV vm vb vt vo ve h).cells 72 (0, 0))
  gb : HF GB = some (.cells #[.map (some MB)] 126 (0, 0))
  fb : HF FB = some (.cells #[.func (.func 97) #[] #[.pointer (some ⟨PB, 0, none⟩), .pointer (some ⟨HB, 0, none⟩), .pointer (some ⟨GB, 0, none⟩), .pointer (some ⟨FB, 0, none⟩), .pointer (some ⟨SB, 0, none⟩)]] 127 (0, 0))
  sb : HF SB = some (.cells #[.int .i64 stop] 3 (0, 0))
  hh : Hal HF vm vb vt vo ve h

/-- What 'from' leaves. -/
def NEnd (HF : Snap) (n0 MB R n : Nat) (first : List (List Int)) (ks : List Cnt) (W : World) (e : Ending) (W' : World) : Prop :=
  ∃ vs o, MSt HF n0 MB R 3 24 W' vs o (fullP n first) ∧ KMap o ks ∧ Below n0 W W' ∧ ∃ v, e = .returned v

set_option maxRecDepth 100000 in
set_option maxHeartbeats 8000000 in
theorem nleaf_any (HF : Snap) (n0 : Nat) (vm vb vt vo ve : Value) (h : Hall) (hv : ValidH h) (stop : Int) (PB HB GB FB SB MB R : Nat) (E : NEnv HF vm vb vt vo ve h stop PB HB GB FB SB MB R)
    (first : List (List Int)) (hg : GoodF h.hs first) (hlen : first.length = h.hs.ms.length) (u : Int)
    (ks : List Cnt) (hks : ks.length ≤ 1000000000) (o : Obj) (hko : KMap o ks) (W : World) (vs : List Value) (s : MSt HF n0 MB R 3 24 W vs o first) :
    Calls Tryz.prog 97 #[.int .i64 h.hs.ms.length, .int .i64 u, .pointer (some ⟨PB, 0, none⟩), .pointer (some ⟨HB, 0, none⟩), .pointer (some ⟨GB, 0, none⟩), .pointer (some ⟨FB, 0, none⟩), .pointer (some ⟨SB, 0, none⟩)] W
      (NEnd HF n0 MB R h.hs.ms.length first (ks ++ keepP h [first]) W) := by
  have hpl : isPlan h.hs first = true := by simp [isPlan, hlen, hg.good]
  have hb5 := hv.hs.b5
  have hm3 := hv.hs.m3
  have hsl := s.sl (by omega) (fun l' hl' => by
    obtain ⟨k, hk, rfl⟩ := List.getElem_of_mem hl'
    have := isPlan_one hpl (m := k) (l := first[k]) (List.getElem?_eq_getElem hk); omega)
  rw [hlen] at hsl
  have hle := snapI_le (HF := HF) (UB := MB) (R := R) (vs := vs) W
  have hw := s.holds
  obtain ⟨Hc, hHc⟩ : ∃ Hc, Hid (snapI HF MB R vs W = Hc) := ⟨_, rfl⟩
  rw [hHc.out] at hsl hle hw
  have hcP := fun (w : World) (hw : Holds Hc w) => cellH (hle _ _ E.pb) hw 0
  have hcG := fun (w : World) (hw : Holds Hc w) => cellH (hle _ _ E.gb) hw 0
  obtain ⟨hh0, hh1, hh2, hh3, hh4, hh5⟩ := cellsHal (hle _ _ E.hb)
  simp at hcP hcG
  have hhc := E.hh.mono hle
  have hL := lateA_any vm vb vt _ h.hs first Hc W hw hhc.hs hsl
  rw [show lateA h.hs first = lateOf h.hs first by unfold lateA; rw [valid_iff.2 hv.hs, hpl]; rfl, show errA (valid h.hs) (isPlan h.hs first) = 0 by rw [valid_iff.2 hv.hs, hpl]; rfl] at hL
  have hcn : Cn (needOf h first) := needOf_cn (by omega)
  have hplH := Lib.hid hpl
  replace hlen := Lib.hid hlen
  replace hL := Lib.hid hL
  clear hpl
  have hmm : ((h.hs.ms.length : Int) == h.hs.ms.length) = true := by simp
  by_cases hlt : lateOf h.hs first = []
  · rw [keepP_one hlt]
    rw [hlt] at hL
    replace hlt := Lib.hid hlt
    go_enter Tryz.func97, Tryz.ntmps97
    go_upto_region 3 with (first | (go_at_call 98; refine hL.out.mono ?_; rintro e w1 ⟨v1, H1, rfl, x1, u1, rfl, s1⟩; obtain ⟨a1, c1, rfl, _, _⟩ := s1.form; have hw1 : Holds Hc w1 := x1.old hw))
    obtain ⟨sb, _⟩ := s.ext (W' := w1) x1.below
    go_region_with ((go_at_call 99; refine (need_any _ _ _ _ _ _ h hv first hplH.out Hc _ hw1.drew hhc hsl).mono ?_; rintro e w2 ⟨rfl, hb2⟩; have hw2 : Holds Hc w2 := hw1.drew.below hb2; obtain ⟨sc, _⟩ := MSt.ext sb.drew hb2; obtain ⟨a, v0, st, o1, o2, ha0, ha1, hlk, hme, hes, hlk2, hk2, hB1, hB2⟩ := hko.bump sc.ub hcn hks; have hwp : IntKind.i64.wrap (a + 1) = a + 1 := IntWalk.i64_in _ (by omega); rw [← hwp] at hes; clear hwp))
    all_goals
      go_wp2
      refine bodyPost_ret (results_none rfl _ _ _) rfl ?_
      refine ⟨vs, o2, ?_, hk2, ?_, _, rfl⟩
      · rw [fullP_all hlen.out]
        exact sc.found hB1 hB2
      · have hM := (s.new MB (ownB_iff.2 (.inl rfl))).2
        exact (((x1.below.mono s.size).drew).trans (hb2.mono (Nat.le_trans s.size (by simpa using x1.below.size)))).trans ((below_setBlock hM _).trans (below_setBlock hM _))
  · rw [keepP_no hlt, List.append_nil]
    have hll : (((lateOf h.hs first).length : Int) == 0) = false := by
      have := mt List.length_eq_zero_iff.1 hlt
      simp; exact hlt
    replace hlt := Lib.hid hlt
    go_enter Tryz.func97, Tryz.ntmps97
    go_wp2_with (first | (go_at_call 98; refine hL.out.mono ?_; rintro e w1 ⟨v1, H1, rfl, x1, u1, rfl, s1⟩; obtain ⟨a1, c1, rfl, _, _⟩ := s1.form; have hw1 : Holds Hc w1 := x1.old hw))
    obtain ⟨sb, _⟩ := s.ext (W' := w1) x1.below
    refine bodyPost_ret (results_none rfl _ _ _) rfl ?_
    refine ⟨vs, o, ?_, hko, x1.below.mono s.size, _, rfl⟩
    rw [fullP_all hlen.out]
    exact sb

end Go.Proofs.YtngdppajailpcaaGreat
