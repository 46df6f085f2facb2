/- The walk of trains.Spare. -/
import Derived.Test.YteijmboophnmgaaWait
namespace Go.Proofs.Yteijmboophnmgaa
open Go.RowKit

attribute [local go_sem] Holds.drew Holds.alloc Holds.drewN WB.holds Oper.semAt_some FW_fn FW_dep FW_round

def spareStep (h : House) (r : List Int) (l : Int) (b : Bund) : Int := min l (h.ts.getD b.t.toNat 0 - r.getD b.t.toNat 0)
def sparePT (h : House) (p : List (List Int)) : Int := h.bs.foldl (spareStep h (readyP h p)) 99
def spareCaseT (h : House) (c : Int) : Int := (plansOf h c).foldl (fun m p => max m (sparePT h p)) (-1)
def spareRawT (h : House) : Int := (casesOf h).foldl (fun o c => min o (spareCaseT h c)) 99
/-- What Spare returns: minutes, and the error. -/
def spareTV (h : House) : Int := if valid h && decide (0 ≤ spareRawT h) then spareRawT h else 0
def spareTE (h : House) : Int := if valid h then (if 0 ≤ spareRawT h then 0 else 3) else 40

theorem spareSteps_bd {h : House} (hv : Valid h) {r : List Int} (hr : ∀ x ∈ r, 0 ≤ x ∧ x ≤ 1048576) : ∀ (l : List Bund) {a : Int}, (-1048577 ≤ a ∧ a ≤ 99) → -1048577 ≤ l.foldl (spareStep h r) a ∧ l.foldl (spareStep h r) a ≤ 99
  | [], _, ha => ha
  | b :: l, a, ha => spareSteps_bd hv hr l (by
      have h1 := tsD_bd hv b.t.toNat
      have h2 := getD_bd (lo := 0) (hi := 1048576) (by omega) hr b.t.toNat
      unfold spareStep; omega)
theorem sparePT_bd {h : House} (hv : Valid h) {p : List (List Int)} (hp : isPlan h p = true) : -1048577 ≤ sparePT h p ∧ sparePT h p ≤ 99 := spareSteps_bd hv (readyP_bd hv hp) _ (by omega)
theorem spareFold_bd {h : House} (hv : Valid h) : ∀ (l : List (List (List Int))) {a : Int}, (∀ p ∈ l, isPlan h p = true) → (-1 ≤ a ∧ a ≤ 99) → -1 ≤ l.foldl (fun m p => max m (sparePT h p)) a ∧ l.foldl (fun m p => max m (sparePT h p)) a ≤ 99
  | [], _, _, ha => ha
  | p :: l, a, hl, ha => spareFold_bd hv l (fun q hq => hl q (by simp [hq])) (by have := sparePT_bd hv (hl p (by simp)); show -1 ≤ max a (sparePT h p) ∧ max a (sparePT h p) ≤ 99; omega)
theorem spareCases_bd {h : House} (hv : Valid h) : ∀ (l : List Int) {a : Int}, (-1 ≤ a ∧ a ≤ 99) → -1 ≤ l.foldl (fun o c => min o (spareCaseT h c)) a ∧ l.foldl (fun o c => min o (spareCaseT h c)) a ≤ 99
  | [], _, ha => ha
  | c :: l, a, ha => spareCases_bd hv l (by have := spareFold_bd hv (plansOf h c) (a := -1) (plansOf_isPlan hv c) (by omega); show -1 ≤ min a (spareCaseT h c) ∧ min a (spareCaseT h c) ≤ 99; unfold spareCaseT; omega)

set_option maxRecDepth 100000 in
set_option maxHeartbeats 8000000 in
theorem spare_any (vm vb vt : Value) (h : House) (H : Snap) (w : World) (hw : Holds H w) (hh : Hou H vm vb vt h) :
    Calls Try.prog 26 #[houV vm vb vt h] w (PostV w (.tuple #[.int .i64 (spareTV h), .int .i64 (spareTE h)])) := by
  obtain ⟨at', ct, rfl, ht1, ht2⟩ := hh.t.form
  obtain ⟨ab, cb, rfl, hb1, hb2⟩ := hh.b.form
  refine Calls.ofWide (r := none) (n := 3) (callsIn_of_wp_marks Try.func26 rfl trivial (wpIn_wide.2 ?_) rfl)
  simp only [Try.ntmps26, List.size_toArray, List.length_cons, List.length_nil, Nat.reduceAdd, Nat.reduceSub, Array.replicate_succ, Array.replicate_zero, List.push_toArray, List.append_toArray, List.nil_append, List.cons_append]
  go_upto_region 1 with (refine wpList_boxF rfl _ rfl (Ext.refl hw) ?_; intro B w1 H1 hle hx hB hBw; obtain ⟨hc0, hc1, hc2, hc3⟩ := cellsHou hB; clear hB hw; have hw1 := hx.holds)
  have hhm := hh.mono hle
  clear hle
  cases hb : valid h
  · have he : errT (valid h) = 40 := by rw [hb]; rfl
    have e1 : Hid (spareTV h = 0) := by show _ = _; unfold spareTV; rw [hb]; rfl
    have e2 : Hid (spareTE h = 40) := by show _ = _; unfold spareTE; rw [hb]; rfl
    go_wp2_with (first | (go_at_call 48; refine (checkT_any _ _ _ _ _ _ hw1 hhm).mono ?_; rintro e w' ⟨rfl, hb2⟩))
    refine ⟨_, results_tmp2 rfl _ _ _, ?_⟩
    rw [e1.out, e2.out]
    exact ⟨rfl, hx.below.trans (hb2.mono hx.below.size)⟩
  · have he : errT (valid h) = 0 := by rw [hb]; rfl
    have hv := valid_iff.1 hb
    replace hb := Lib.hid hb
    go_upto_region 4 with (first | (go_at_call 48; refine (checkT_any _ _ _ _ _ _ hw1 hhm).mono ?_; rintro e w' ⟨rfl, hb2⟩; have hw2 := hw1.below hb2))
    obtain ⟨w2, rfl⟩ : ∃ w2, w2 = w' := ⟨_, rfl⟩
    have hx2 := hx.step (hb2.mono hx.below.size) hw2
    have hcW := Cell.new (W := w2) (t := 3) (base := w.heap.size) hw2 hx2.below.size rfl (.int .i64 99)
    go_upto_region 5 with fail
    replace hx2 := hx2.alloc (.cells #[.int .i64 99] 3)
    clear hb2 hw2 hx hw1
    generalize w2.alloc (.cells #[.int .i64 99] 3) = wy at *
    generalize w2.heap.size = SX at *
    have hwy := hx2.holds
    go_wp2_with (first | (go_at_call 70; refine (casesF_any _ _ _ _ H1 _ hwy hhm hv.m3).mono ?_; rintro e w3 ⟨lb, H3, rfl, hx3, hit⟩))
    have hw3 := hx3.holds
    have hle3 := hx3.le hwy
    have hx03 := hx2.trans hx3
    have hcell3 := (hcW.below hx3.below).snap ((hx3.same SX hcW.lt).trans hcW.free)
    clear hcW hx2 hwy hx3
    refine (wpIn_wide (n := 3)).1 (wpIn_forO (k := 3) (H := H3) rfl (enters_of Try.func101 (by kernel_rfl) rfl) hw3 hit (fun _ _ _ e => by rw [show _ = _ from e]; rfl) (fun _ _ _ _ _ e => e)
      (J := fun Hc pre W => Ext w H W Hc ∧ Cell Hc W w.heap.size SX 3 (.int .i64 (pre.foldl (fun o c => min o (spareCaseT h c)) 99)))
      (Jx := fun _ _ _ _ => False)
      (J2 := fun Hc pre x args a1 W => (Ext w H W Hc ∧ Cell Hc W w.heap.size SX 3 (.int .i64 (pre.foldl (fun o c => min o (spareCaseT h c)) 99))) ∧ a1 = { tmps := #[houV vm (.slice ab h.bs.length cb) (.slice at' h.ts.length ct) h, .pointer (some ⟨B, 0, none⟩), .int .i64 0, .int .i64 0, .int .i64 0, .pointer (some ⟨SX, 0, none⟩), .int .i64 x, undef, undef, undef, undef, undef, undef, houV vm (.slice ab h.bs.length cb) (.slice at' h.ts.length ct) h, .int .i64 0, .int .i64 0, .bool false, undef, houV vm (.slice ab h.bs.length cb) (.slice at' h.ts.length ct) h, .func (.func 101) #[] lb, .int .i64 x, undef, undef, undef, undef, undef, undef, undef, undef, undef, undef, undef, undef, undef, undef, undef, undef, undef, undef, undef, undef, undef, undef, undef, undef, undef, undef, undef, undef, undef, undef, undef, undef, undef, undef, undef], defers := [] })
      ((Ext.abides hx03.below.size).and (Cell.abides _)) (fun _ _ _ _ _ _ h _ _ => h) (fun _ _ _ => (((Ext.abides hx03.below.size).and (Cell.abides _)).and (Abides.pure _))) ⟨hx03, hcell3⟩ ?assign ?body ?done ?stop)
    case assign =>
      rintro l Hc pre x W args hl hWc hlec ⟨hxc, hcc⟩ rfl hpre
      gi_wp2
      exact ⟨hWc, ⟨hxc, hcc⟩, by first | rfl | trivial⟩
    case body =>
      rintro l rc Hc pre x args a1 W hl hrc hWc hlec he hpre ⟨⟨hxc, hcc⟩, rfl⟩
      have hwb := spareCases_bd hv pre (a := 99) (by omega)
      obtain ⟨wt, hwt⟩ : ∃ wt, Hid (pre.foldl (fun o c => min o (spareCaseT h c)) 99 = wt) := ⟨_, rfl⟩
      rw [hwt.out] at hwb hcc
      have hhc := hhm.mono (hle3.trans hlec)
      have hd0 := lift (hle3.trans hlec) hc0
      have hd1 := lift (hle3.trans hlec) hc1
      have hd2 := lift (hle3.trans hlec) hc2
      have hd3 := lift (hle3.trans hlec) hc3
      have hxm := casesOf_mem (hpre.subset (show x ∈ pre ++ [x] by simp))
      have hm3 := hv.m3
      have ht4 := hv.t4
      have hxI : I64 x := by unfold I64; omega
      obtain ⟨LB, hLB⟩ : ∃ LB, Hid (W.heap.size = LB) := ⟨_, rfl⟩
      have hcL := Cell.new (W := W) (t := 3) (base := W.heap.size) hWc (Nat.le_refl _) hLB.out.symm (.int .i64 (-1))
      have hxL := (Ext.refl hWc).alloc (.cells #[.int .i64 (-1)] 3)
      gi_upto_region 8 with fail
      rw [hLB.out]
      generalize W.alloc (.cells #[.int .i64 (-1)] 3) = WL at *
      have hwL := hxL.holds
      gi_wp2_with (gi_at_call 71; refine (Calls.wide (plansMk_any _ _ _ _ hv x hxI Hc WL hwL hhc)).mono ?_; rintro e w4 ⟨lb2, H4, rfl, hx4, hit2⟩)
      have hw4 := hx4.holds
      have hle4 := hx4.le hwL
      have hx4' := hxL.trans hx4
      have hcL4 := (hcL.below hx4.below).snap ((hx4.same LB hcL.lt).trans hcL.free)
      have hrc4 := (hx4'.below.block l (Array.getElem?_eq_some_iff.1 hrc).1).trans hrc
      clear hx4 hcL hxL hwL
      refine wpIn_forN (k := 3) (H := H4) hrc4 rfl (enters_of Try.func102 (by kernel_rfl) rfl) hw4 hit2 (fun _ _ _ ⟨_, e, _⟩ => by rw [e]; rfl) (fun _ _ _ _ hle ⟨v, e, hs⟩ => ⟨v, e, hs.mono hle⟩)
        (J := fun Hd pr V => Ext W Hc V Hd ∧ Cell Hd V W.heap.size LB 3 (.int .i64 (pr.foldl (fun m p => max m (sparePT h p)) (-1))))
        (Jx := fun _ _ _ _ => False)
        (J2 := fun Hd pr y args a1 V => (Ext W Hc V Hd ∧ Cell Hd V W.heap.size LB 3 (.int .i64 (pr.foldl (fun m p => max m (sparePT h p)) (-1)))) ∧ ∃ RX vp, Row Hd W.heap.size V 85 RX (readyP h y) ∧ a1 = { tmps := #[houV vm (.slice ab h.bs.length cb) (.slice at' h.ts.length ct) h, .pointer (some ⟨B, 0, none⟩), .int .i64 0, .int .i64 0, .int .i64 0, .pointer (some ⟨SX, 0, none⟩), .int .i64 x, .pointer (some ⟨LB, 0, none⟩), undef, .pointer (some ⟨RX, 0, none⟩), undef, undef, undef, houV vm (.slice ab h.bs.length cb) (.slice at' h.ts.length ct) h, .int .i64 0, .int .i64 0, .bool false, undef, houV vm (.slice ab h.bs.length cb) (.slice at' h.ts.length ct) h, .func (.func 101) #[] lb, .int .i64 x, houV vm (.slice ab h.bs.length cb) (.slice at' h.ts.length ct) h, .int .i64 x, .func (.func 102) #[] lb2, vp, arr (readyP h y), undef, undef, undef, undef, undef, undef, undef, undef, undef, undef, undef, undef, undef, undef, undef, undef, undef, undef, undef, undef, undef, undef, undef, undef, undef, undef, undef, undef, undef, undef], defers := [] })
        ((Ext.abides hx4'.below.size).and (Cell.abides _)) (fun _ _ _ _ _ _ h _ _ => h) (fun _ _ _ => ?hJ22) ⟨hx4', hcL4⟩ ?assign2 ?body2 ?done2 ?stop2
      case hJ22 => exact fun _ _ _ _ _ ⟨h1, RX, vp, hr, e⟩ _ ht => ⟨⟨ht.of_ext h1.1 hx4'.below.size, h1.2.turn ht⟩, RX, vp, hr.turn ht, e⟩
      case assign2 =>
        rintro l2 Hd pr y V args hl2 hVd hled ⟨hxd, hcd⟩ ⟨vp, rfl, hsp⟩ hpr
        obtain ⟨r0, r1, r2, r3, hr⟩ := list4 (readyP_len h y)
        rw [hr]
        simp only [arr, List.map_cons, List.map_nil]
        gi_wp2
        exact ⟨hVd.alloc _, ⟨hxd.alloc _, hcd.alloc _⟩, V.heap.size, vp, Row.new (xs := [r0, r1, r2, r3]) hVd hxd.below.size rfl, by first | rfl | trivial⟩
      case body2 =>
        rintro l2 rc2 Hd pr y args a1 V hl2 hrc2 hVd hled ⟨vp', rfl, hsp⟩ hpr ⟨⟨hxd, hcd⟩, RX, vp, hrow, rfl⟩
        have hpl := plansOf_isPlan hv x y (hpr.subset (show y ∈ pr ++ [y] by simp))
        have hlw := spareFold_bd hv pr (a := -1) (fun q hq => plansOf_isPlan hv x q (hpr.subset (by simp [hq]))) (by omega)
        have hfold : (pr ++ [y]).foldl (fun m p => max m (sparePT h p)) (-1) = max (pr.foldl (fun m p => max m (sparePT h p)) (-1)) (sparePT h y) := by rw [List.foldl_append]; rfl
        obtain ⟨lw, hlwe⟩ : ∃ lw, Hid (pr.foldl (fun m p => max m (sparePT h p)) (-1) = lw) := ⟨_, rfl⟩
        rw [hlwe.out] at hlw hcd hfold
        replace hfold := Lib.hid hfold
        have hVf := hVd.put hrow.at_
        have hlef := Snap.le_put hrow.free (.cells ((readyP h y).map (Value.int .i64)).toArray 85 (0, 0))
        have hput := Snap.put_same Hd RX (.cells ((readyP h y).map (Value.int .i64)).toArray 85 (0, 0))
        have hRL : RX ≠ LB := by
          rintro rfl
          have h1 := hcd.at_
          rw [hrow.at_] at h1
          simp at h1
        have hcf : Cell (Hd.put RX (.cells ((readyP h y).map (Value.int .i64)).toArray 85 (0, 0))) V W.heap.size LB 3 (.int .i64 lw) := hcd.snap (by rw [Snap.put_other _ _ (Ne.symm hRL)]; exact hcd.free)
        have hrb := readyP_bd hv hpl
        have hrl := readyP_len h y
        have hspy : Hid (sparePT h y = h.bs.foldl (spareStep h (readyP h y)) 99) := rfl
        generalize Hd.put RX (.cells ((readyP h y).map (Value.int .i64)).toArray 85 (0, 0)) = Hf at *
        obtain ⟨rs, hrs⟩ : ∃ rs, Hid (rs = readyP h y) := ⟨_, rfl⟩
        rw [← hrs.out] at hrb hrl hspy hput ⊢
        have hle4f := (hle4.trans hled).trans hlef
        have hhf := hhc.mono hle4f
        have e1 := lift hle4f hd1
        have e2 := lift hle4f hd2
        have hcr := fun (w : World) (hw : Holds Hf w) (i : Nat) => cellH hput hw i
        replace hcr := Lib.hid hcr
        have hb5 := hv.b5
        clear hd0 hd1 hd2 hd3 hc0 hc1 hc2 hc3 hrow hput
        gi_wp2
        gi_loopw [10, 12, 29] (fun le _ i wr => ∃ (k : Nat) (lv : Int), k ≤ h.bs.length ∧ i = .int .i64 k ∧ le = .int .i64 lv ∧ Hid (lv = (h.bs.take k).foldl (spareStep h rs) 99) ∧ Ext V Hf wr Hf) (fun _ _ i _ => h.bs.length - (intOf i).toNat)
        case atStart => exact ⟨0, 99, Nat.zero_le _, rfl, rfl, rfl, Ext.refl hVf⟩
        case round =>
          obtain ⟨k, lv, hk, rfl, rfl, hlv, hxr⟩ := hrel
          have hwr := hxr.holds
          have hlvb := spareSteps_bd hv hrb (h.bs.take k) (a := 99) (by omega)
          rw [← hlv.out] at hlvb
          by_cases hlk : k < h.bs.length
          · obtain ⟨z, hzk⟩ := At.mk hlk
            obtain ⟨bb, ob', cb', hez, ⟨hy1, hy2, hy3⟩, hct, hchh, hce⟩ := hhf.b.bund hzk
            cases hez
            have hzt := bs_bd hv hlk
            rw [hzk.bund] at hzt
            obtain ⟨q, hzq⟩ := Int.eq_ofNat_of_zero_le hzt.1
            replace hzt : (q : Int) < h.ts.length := by rw [← hzq]; exact hzt.2
            obtain ⟨tq, htq⟩ := At.mk (xs := h.ts) (k := q) (by omega)
            have htqb := ts_bd hv htq
            obtain ⟨bt, ot, ct', het, hit', hctj⟩ := hhf.t.int htq
            cases het
            obtain ⟨rq, hrq⟩ := At.mk (xs := rs) (k := q) (by omega)
            have hrqb := hrb rq hrq.mem
            have hcq : ∀ w, Holds Hf w → w.cell? ⟨RX, q, none⟩ = some (.int .i64 rq) := fun w hw => (hcr.out w hw q).trans (by simp [show rs[q]? = some rq from hrq])
            have hstep : Hid ((h.bs.take (k + 1)).foldl (spareStep h rs) 99 = min lv (tq - rq)) := by
              show _ = _
              rw [hzk.take, List.foldl_append, ← hlv.out]
              show spareStep h rs lv z = _
              unfold spareStep; rw [hzq, Int.toNat_natCast, htq.getD, hrq.getD]
            replace hzq := Lib.hid hzq
            gi_upto_region 14 with fail
            have hn0 : Hf wr.heap.size = none := hwr.none_of_ge (Nat.le_refl _)
            have hwX := (hwr.alloc (.cells #[.int .i64 z.t, .int .i64 z.h, .int .i64 z.e] 58)).put (heap_alloc_new wr _)
            have hleX := Snap.le_put hn0 (.cells #[.int .i64 z.t, .int .i64 z.h, .int .i64 z.e] 58 (0, 0))
            have hpX := Snap.put_same Hf wr.heap.size (.cells #[.int .i64 z.t, .int .i64 z.h, .int .i64 z.e] 58 (0, 0))
            have hxX := hxr.alloc (.cells #[.int .i64 z.t, .int .i64 z.h, .int .i64 z.e] 58)
            generalize Hf.put wr.heap.size (.cells #[.int .i64 z.t, .int .i64 z.h, .int .i64 z.e] 58 (0, 0)) = Hx at *
            generalize wr.alloc (.cells #[.int .i64 z.t, .int .i64 z.h, .int .i64 z.e] 58) = wx at *
            generalize wr.heap.size = cx at *
            have x0 := fun (w : World) (hw : Holds Hx w) => cellH hpX hw 0
            simp at x0
            rw [hzq.out] at x0
            have x2 := lift hleX e2
            have xj := lift hleX hctj
            have xq := lift hleX hcq
            have hm0 : (0 : Int) ≤ (q : Int) := by omega
            have hm1 : (q : Int) < 4 := by omega
            have hm2 : (q : Int) < (h.ts.length : Int) := by omega
            have hne : Nonempty (WB Hx wx) := ⟨⟨wx, hwX, Below.refl _ _⟩⟩
            refine wpIn_region_q (C := fun w' => ∃ x : WB Hx wx, w' = x.w) (by kernel_rfl) (by kernel_rfl) (by kernel_rfl) ⟨⟨wx.drew, hwX.drew, (Below.refl _ _).drew⟩, rfl⟩ ?_
            repeat go_big_quiet_step (fail)
            refine wpQuiet_nil ?_
            clear hne
            rintro V3 ⟨⟨_, hV3, hb3⟩, rfl⟩
            have hxV3 : Ext V Hf V3 Hf := hxX.step (hb3.mono hxX.below.size) (hV3.mono hleX)
            gi_wp2
            all_goals go_roundw
            case measure => simp [intOf]; omega
            case rel => exact ⟨k + 1, _, by omega, rfl, rfl, (by show _ = _; rw [hstep.out]; split <;> omega), hxV3⟩
          · have hcw := hcf.below hxr.below
            have q1 := hcw.cell
            have q3 := hcw.fz
            have hky : Hid (sparePT h y = lv) := by
              show _ = _
              rw [hspy.out, hlv.out, List.take_of_length_le (by omega)]
            rw [hky.out] at hfold
            have hVw := hxr.holds.mono hlef
            gi_wp2
            all_goals
              refine ⟨hVw.setCell hcd.free _, ⟨(hxd.step (hxr.below.mono hxd.below.size) hVw).setCell hcd.base hcd.free _, ?_⟩⟩
              refine Eq.mpr (congrArg (fun t => Cell _ _ _ _ _ (.int .i64 t)) hfold.out) ?_
            · rw [show max lw lv = lv by omega]; exact (hcd.below hxr.below).set _
            · rw [show max lw lv = lw by omega]; exact (hcd.below hxr.below).set _
      case done2 =>
        rintro Hd V hVd hled ⟨hxd, hcd⟩
        have hlw := spareFold_bd hv (plansOf h x) (a := -1) (plansOf_isPlan hv x) (by omega)
        have hfold : (pre ++ [x]).foldl (fun o c => min o (spareCaseT h c)) 99 = min wt (spareCaseT h x) := by rw [List.foldl_append, hwt.out]; rfl
        obtain ⟨lw, hlwe⟩ : ∃ lw, Hid (spareCaseT h x = lw) := ⟨_, rfl⟩
        rw [show (plansOf h x).foldl (fun m p => max m (sparePT h p)) (-1) = lw from hlwe.out] at hlw hcd
        rw [hlwe.out] at hfold
        have hVc := hVd.mono (hle4.trans hled)
        have hccV := hcc.below hxd.below
        have q1 := hcd.cell
        have q2 := hccV.cell
        have q3 := hccV.fz
        gi_wp2
        all_goals
          refine ⟨hVc.setCell hcc.free _, (hxc.step (hxd.below.mono hxc.below.size) hVc).setCell hcc.base hcc.free _, ?_⟩
          first
            | (rw [hfold, show min wt lw = lw by omega]; exact hccV.set _)
            | (rw [hfold, show min wt lw = wt by omega]; exact hccV.set _)
      case stop2 => exact fun _ _ _ _ _ _ _ h => h.elim
    case done =>
      rintro D Hc W hD hWc hlec hDc ⟨hxc, hcc⟩
      have hDW := hWc.at_ _ _ hDc
      have hDlt := (Array.getElem?_eq_some_iff.1 hDW).1
      have hx03s := hx03.below.size
      have hwb := spareCases_bd hv (casesOf h) (a := 99) (by omega)
      obtain ⟨wt, hwt⟩ : ∃ wt, Hid (spareRawT h = wt) := ⟨_, rfl⟩
      rw [show (casesOf h).foldl (fun o c => min o (spareCaseT h c)) 99 = wt from hwt.out] at hwb hcc
      have q1 := hcc.cell
      have hTV : Hid (spareTV h = if 0 ≤ wt then wt else 0) := by
        show _ = _
        unfold spareTV; rw [hb.out, hwt.out]
        by_cases e : 0 ≤ wt <;> simp [e]
      have hTE : Hid (spareTE h = if 0 ≤ wt then 0 else 3) := by
        show _ = _
        unfold spareTE; rw [hb.out, hwt.out]; rfl
      cases hg : decide (wt < 0)
      all_goals
        go_wp2_with fail
        refine leavesM hDW (results_tmp2 rfl _ _ _) ⟨?_, below_putD hxc.below (by omega) hDlt⟩
        rw [hTV.out, hTE.out]
      · rw [if_pos (by have := of_decide_eq_false hg; omega), if_pos (by have := of_decide_eq_false hg; omega)]; rfl
      · rw [if_neg (by have := of_decide_eq_true hg; omega), if_neg (by have := of_decide_eq_true hg; omega)]; rfl
    case stop => exact fun _ _ _ _ _ _ _ _ _ _ h => h.elim

end Go.Proofs.Yteijmboophnmgaa
