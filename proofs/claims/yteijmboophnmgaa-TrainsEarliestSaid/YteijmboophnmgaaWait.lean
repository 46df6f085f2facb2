/- The walk of trains.Wait. -/
import Derived.Test.YteijmboophnmgaaSure
import Derived.Sort.CutIn
namespace Go.Proofs.Yteijmboophnmgaa
open Go.RowKit

attribute [local go_sem] Holds.drew Holds.alloc Holds.drewN WB.holds Oper.semAt_some FW_fn FW_dep FW_round

def waitPlanT (h : House) (t : Nat) (acc : Int) (p : List (List Int)) : Int := if (lateOf h p).all (fun x => decide (x ∈ [(t : Int)])) then min acc (max 0 ((readyP h p).getD t 0 - h.ts.getD t 0)) else acc
def waitCaseT (h : House) (t : Nat) (c : Int) : Int := (plansOf h c).foldl (waitPlanT h t) 1048576
def waitRawT (h : House) (t : Nat) : Int := (casesOf h).foldl (fun o c => max o (waitCaseT h t c)) 0
/-- What Wait returns: minutes, and the error. -/
def waitTV (h : House) (t : Int) : Int := if valid h && within t 0 ((h.ts.length : Int) - 1) && decide (h.ts.getD t.toNat 0 + waitRawT h t.toNat ≤ 99) then waitRawT h t.toNat else 0
def waitTE (h : House) (t : Int) : Int := if valid h then (if within t 0 ((h.ts.length : Int) - 1) then (if h.ts.getD t.toNat 0 + waitRawT h t.toNat ≤ 99 then 0 else 3) else 1) else 40

theorem waitPlanT_bd {h : House} {t : Nat} {acc : Int} (ha : 0 ≤ acc ∧ acc ≤ 1048576) (p : List (List Int)) : 0 ≤ waitPlanT h t acc p ∧ waitPlanT h t acc p ≤ 1048576 := by
  unfold waitPlanT; split <;> omega
theorem waitFold_bd {h : House} {t : Nat} : ∀ (l : List (List (List Int))) {acc : Int}, (0 ≤ acc ∧ acc ≤ 1048576) → 0 ≤ l.foldl (waitPlanT h t) acc ∧ l.foldl (waitPlanT h t) acc ≤ 1048576
  | [], _, ha => ha
  | p :: l, _, ha => waitFold_bd l (waitPlanT_bd ha p)
theorem waitCases_bd {h : House} {t : Nat} : ∀ (l : List Int) {acc : Int}, (0 ≤ acc ∧ acc ≤ 1048576) → 0 ≤ l.foldl (fun o c => max o (waitCaseT h t c)) acc ∧ l.foldl (fun o c => max o (waitCaseT h t c)) acc ≤ 1048576
  | [], _, ha => ha
  | c :: l, _, ha => waitCases_bd l (by have := waitFold_bd (h := h) (t := t) (plansOf h c) (acc := 1048576) (by omega); show 0 ≤ max _ (waitCaseT h t c) ∧ max _ (waitCaseT h t c) ≤ 1048576; unfold waitCaseT; omega)
theorem ub_one (t : Nat) : ub [(t : Int)] = 2 ^ t := by simp [ub]

set_option maxRecDepth 100000 in
set_option maxHeartbeats 8000000 in
theorem wait_any (vm vb vt : Value) (h : House) (t : Int) (ht : I64 t) (H : Snap) (w : World) (hw : Holds H w) (hh : Hou H vm vb vt h) :
    Calls Try.prog 23 #[houV vm vb vt h, .int .i64 t] w (PostV w (.tuple #[.int .i64 (waitTV h t), .int .i64 (waitTE h t)])) := by
  have hres : ∀ b : Bool, b = (valid h && within t 0 ((h.ts.length : Int) - 1)) → b = false → waitTV h t = 0 ∧ waitTE h t = errA (valid h) (within t 0 ((h.ts.length : Int) - 1)) := fun b e hb => by
    subst e
    unfold waitTV waitTE errA
    rw [hb]
    cases h1 : valid h
    · simp
    · rw [h1] at hb; simp at hb; rw [hb]; simp
  obtain ⟨at', ct, rfl, ht1, ht2⟩ := hh.t.form
  refine Calls.ofWide (r := none) (n := 3) (callsIn_of_wp_marks Try.func23 rfl trivial (wpIn_wide.2 ?_) rfl)
  simp only [Try.ntmps23, List.size_toArray, List.length_cons, List.length_nil, Nat.reduceAdd, Nat.reduceSub, Array.replicate_succ, Array.replicate_zero, List.push_toArray, List.append_toArray, List.nil_append, List.cons_append]
  go_upto_region 1 with (refine wpList_boxF rfl _ rfl (Ext.refl hw) ?_; intro B w1 H1 hle hx hB hBw; obtain ⟨hc0, hc1, hc2, hc3⟩ := cellsHou hB; clear hB hw; have hw1 := hx.holds)
  obtain ⟨hxU, hleU, hBU⟩ := hx.newF #[.int .i64 t] 3
  generalize H1.put w1.heap.size (.cells #[.int .i64 t] 3 (0, 0)) = H2 at *
  generalize w1.alloc (.cells #[.int .i64 t] 3) = wz at *
  generalize w1.heap.size = TB at *
  replace hc0 := lift hleU hc0
  replace hc1 := lift hleU hc1
  replace hc2 := lift hleU hc2
  replace hc3 := lift hleU hc3
  have hcT := fun (w : World) (hw : Holds H2 w) => cellH hBU hw 0
  simp at hcT
  have hhm := (hh.mono hle).mono hleU
  have hwz := hxU.holds
  clear hleU hBU hx hle hw1
  refine wp_region_quietB H2 (by kernel_rfl) (by kernel_rfl) hwz (fun hne => ?_)
  repeat go_big_quiet_step ((first | (go_at_call 69; exact Calls.quietB (isTrainT_any _ _ _ _ _ _ _ (WB.holds _) hhm)) | (go_at_call 68; exact Calls.quietB (askT_any _ _ _ _ _ _ _ (WB.holds _) hhm))))
  refine wpQuiet_nil ?_
  rintro ⟨w2, hw2, hb2⟩
  clear hne
  have hx2 := hxU.step (hb2.mono hxU.below.size) hw2
  cases hb : (valid h && within t 0 ((h.ts.length : Int) - 1))
  · have hne : (errA (valid h) (within t 0 ((h.ts.length : Int) - 1)) != 0) = true := by
      cases h1 : valid h
      · rfl
      · rw [h1] at hb; simp at hb; rw [hb]; rfl
    obtain ⟨e1, e2⟩ := hres _ hb.symm rfl
    replace e1 := Lib.hid e1
    replace e2 := Lib.hid e2
    go_wp2_with fail
    refine ⟨_, results_tmp2 rfl _ _ _, ?_⟩
    rw [e1.out, e2.out]
    exact ⟨rfl, hx2.below⟩
  · simp only [Bool.and_eq_true] at hb
    have he : errA (valid h) (within t 0 ((h.ts.length : Int) - 1)) = 0 := by rw [hb.1, hb.2]; rfl
    have hv := valid_iff.1 hb.1
    have htb := within_iff.1 hb.2
    obtain ⟨j, rfl⟩ := Int.eq_ofNat_of_zero_le htb.1
    have hb' := Lib.hid hb
    clear hb hres
    have hcW := Cell.new (W := w2) (t := 3) (base := w.heap.size) hw2 hx2.below.size rfl (.int .i64 0)
    go_upto_region 5 with fail
    replace hx2 := hx2.alloc (.cells #[.int .i64 0] 3)
    clear hb2 hw2
    generalize w2.alloc (.cells #[.int .i64 0] 3) = wy at *
    generalize w2.heap.size = WX at *
    have hwy := hx2.holds
    go_wp2_with (first | (go_at_call 70; refine (casesF_any _ _ _ _ H2 _ hwy hhm hv.m3).mono ?_; rintro e w3 ⟨lb, H3, rfl, hx3, hit⟩))
    have hw3 := hx3.holds
    have hle3 := hx3.le hwy
    have hx03 := hx2.trans hx3
    have hcell3 := (hcW.below hx3.below).snap ((hx3.same WX hcW.lt).trans hcW.free)
    clear hcW hx2 hwy hx3
    refine (wpIn_wide (n := 3)).1 (wpIn_forO (k := 3) (H := H3) rfl (enters_of Try.func101 (by kernel_rfl) rfl) hw3 hit (fun _ _ _ e => by rw [show _ = _ from e]; rfl) (fun _ _ _ _ _ e => e)
      (J := fun Hc pre W => Ext w H W Hc ∧ Cell Hc W w.heap.size WX 3 (.int .i64 (pre.foldl (fun o c => max o (waitCaseT h j c)) 0)))
      (Jx := fun _ _ _ _ => False)
      (J2 := fun Hc pre x args a1 W => (Ext w H W Hc ∧ Cell Hc W w.heap.size WX 3 (.int .i64 (pre.foldl (fun o c => max o (waitCaseT h j c)) 0))) ∧ a1 = { tmps := #[houV vm vb (.slice at' h.ts.length ct) h, .int .i64 (j : Int), .pointer (some ⟨B, 0, none⟩), .pointer (some ⟨TB, 0, none⟩), .int .i64 0, .int .i64 0, .int .i64 0, .pointer (some ⟨WX, 0, none⟩), .int .i64 x, undef, undef, undef, houV vm vb (.slice at' h.ts.length ct) h, houV vm vb (.slice at' h.ts.length ct) h, .int .i64 (j : Int), .bool (within (j : Int) 0 ((h.ts.length : Int) - 1)), .int .i64 0, .int .i64 0, .bool false, undef, houV vm vb (.slice at' h.ts.length ct) h, .func (.func 101) #[] lb, .int .i64 x, undef, undef, undef, undef, undef, undef, undef, undef, undef, undef, undef, undef, undef, undef, undef, undef, undef, undef, undef, undef, undef, undef, undef, undef, undef, undef, undef, undef, undef, undef, undef, undef, undef, undef, undef, undef], defers := [] })
      ((Ext.abides hx03.below.size).and (Cell.abides _)) (fun _ _ _ _ _ _ h _ _ => h) (fun _ _ _ => (((Ext.abides hx03.below.size).and (Cell.abides _)).and (Abides.pure _))) ⟨hx03, hcell3⟩ ?assign ?body ?done ?stop)
    case assign =>
      rintro l Hc pre x W args hl hWc hlec ⟨hxc, hcc⟩ rfl hpre
      gi_wp2
      exact ⟨hWc, ⟨hxc, hcc⟩, by first | rfl | trivial⟩
    case body =>
      rintro l rc Hc pre x args a1 W hl hrc hWc hlec he hpre ⟨⟨hxc, hcc⟩, rfl⟩
      have hwb := waitCases_bd (h := h) (t := j) pre (acc := 0) (by omega)
      obtain ⟨wt, hwt⟩ : ∃ wt, Hid (pre.foldl (fun o c => max o (waitCaseT h j c)) 0 = wt) := ⟨_, rfl⟩
      rw [hwt.out] at hwb hcc
      have hhc := hhm.mono (hle3.trans hlec)
      have hd0 := lift (hle3.trans hlec) hc0
      have hd1 := lift (hle3.trans hlec) hc1
      have hd2 := lift (hle3.trans hlec) hc2
      have hd3 := lift (hle3.trans hlec) hc3
      have hdT := lift (hle3.trans hlec) hcT
      have hxm := casesOf_mem (hpre.subset (show x ∈ pre ++ [x] by simp))
      have hm3 := hv.m3
      have ht4 := hv.t4
      have hxI : I64 x := by unfold I64; omega
      obtain ⟨LB, hLB⟩ : ∃ LB, Hid (W.heap.size = LB) := ⟨_, rfl⟩
      have hcL := Cell.new (W := W) (t := 3) (base := W.heap.size) hWc (Nat.le_refl _) hLB.out.symm (.int .i64 1048576)
      have hxL := (Ext.refl hWc).alloc (.cells #[.int .i64 1048576] 3)
      gi_upto_region 8 with fail
      rw [hLB.out]
      generalize W.alloc (.cells #[.int .i64 1048576] 3) = WL at *
      have hwL := hxL.holds
      gi_wp2_with (gi_at_call 71; refine (Calls.wide (plansMk_any _ _ _ _ hv x hxI Hc WL hwL hhc)).mono ?_; rintro e w4 ⟨lb2, H4, rfl, hx4, hit2⟩)
      have hw4 := hx4.holds
      have hle4 := hx4.le hwL
      have hx4' := hxL.trans hx4
      have hcL4 := (hcL.below hx4.below).snap ((hx4.same LB hcL.lt).trans hcL.free)
      have hrc4 := (hx4'.below.block l (Array.getElem?_eq_some_iff.1 hrc).1).trans hrc
      clear hx4 hcL hxL hwL
      refine wpIn_forN (k := 3) (H := H4) hrc4 rfl (enters_of Try.func102 (by kernel_rfl) rfl) hw4 hit2 (fun _ _ _ ⟨_, e, _⟩ => by rw [e]; rfl) (fun _ _ _ _ hle ⟨v, e, hs⟩ => ⟨v, e, hs.mono hle⟩)
        (J := fun Hd pr V => Ext W Hc V Hd ∧ Cell Hd V W.heap.size LB 3 (.int .i64 (pr.foldl (waitPlanT h j) 1048576)))
        (Jx := fun _ _ _ _ => False)
        (J2 := fun Hd pr y args a1 V => (Ext W Hc V Hd ∧ Cell Hd V W.heap.size LB 3 (.int .i64 (pr.foldl (waitPlanT h j) 1048576))) ∧ ∃ RX vp, Row Hd W.heap.size V 85 RX (readyP h y) ∧ a1 = { tmps := #[houV vm vb (.slice at' h.ts.length ct) h, .int .i64 (j : Int), .pointer (some ⟨B, 0, none⟩), .pointer (some ⟨TB, 0, none⟩), .int .i64 0, .int .i64 0, .int .i64 0, .pointer (some ⟨WX, 0, none⟩), .int .i64 x, .pointer (some ⟨LB, 0, none⟩), undef, .pointer (some ⟨RX, 0, none⟩), houV vm vb (.slice at' h.ts.length ct) h, houV vm vb (.slice at' h.ts.length ct) h, .int .i64 (j : Int), .bool (within (j : Int) 0 ((h.ts.length : Int) - 1)), .int .i64 0, .int .i64 0, .bool false, undef, houV vm vb (.slice at' h.ts.length ct) h, .func (.func 101) #[] lb, .int .i64 x, houV vm vb (.slice at' h.ts.length ct) h, .int .i64 x, .func (.func 102) #[] lb2, vp, arr (readyP h y), undef, undef, undef, undef, undef, undef, undef, undef, undef, undef, undef, undef, undef, undef, undef, undef, undef, undef, undef, undef, undef, undef, undef, undef, undef, undef, undef, undef, undef, undef, undef], defers := [] })
        ((Ext.abides hx4'.below.size).and (Cell.abides _)) (fun _ _ _ _ _ _ h _ _ => h) (fun _ _ _ => ?hJ22) ⟨hx4', hcL4⟩ ?assign2 ?body2 ?done2 ?stop2
      case hJ22 => exact fun _ _ _ _ _ ⟨h1, RX, vp, hr, e⟩ _ ht => ⟨⟨ht.of_ext h1.1 hx4'.below.size, h1.2.turn ht⟩, RX, vp, hr.turn ht, e⟩
      case assign2 =>
        rintro l2 Hd pr y V args hl2 hVd hled ⟨hxd, hcd⟩ ⟨vp, rfl, hsp⟩ hpr
        obtain ⟨r0, r1, r2, r3, hr⟩ := list4 (readyP_len h y)
        rw [hr]
        simp only [arr, List.map_cons, List.map_nil]
        gi_wp2
        exact ⟨hVd.alloc _, ⟨hxd.alloc _, hcd.alloc _⟩, V.heap.size, vp, Row.new (xs := [r0, r1, r2, r3]) hVd hxd.below.size rfl, by first | rfl | trivial⟩
      case body2 =>
        rintro l2 rc2 Hd pr y args a1 V hl2 hrc2 hVd hled ⟨vp', rfl, hsp⟩ hpr ⟨⟨hxd, hcd⟩, RX, vp, hrow, rfl⟩
        have hpl := plansOf_isPlan hv x y (hpr.subset (show y ∈ pr ++ [y] by simp))
        have hlw := waitFold_bd (h := h) (t := j) pr (acc := 1048576) (by omega)
        have hfold : (pr ++ [y]).foldl (waitPlanT h j) 1048576 = waitPlanT h j (pr.foldl (waitPlanT h j) 1048576) y := by rw [List.foldl_append]; rfl
        obtain ⟨lw, hlwe⟩ : ∃ lw, Hid (pr.foldl (waitPlanT h j) 1048576 = lw) := ⟨_, rfl⟩
        rw [hlwe.out] at hlw hcd hfold
        have hRL : RX ≠ LB := by
          rintro rfl
          have h1 := hcd.at_
          rw [hrow.at_] at h1
          simp at h1
        have hVf := (hVd.put hrow.at_).put hcd.at_
        have hlef := (Snap.le_put hrow.free (.cells ((readyP h y).map (Value.int .i64)).toArray 85 (0, 0))).trans (Snap.le_put (H := Hd.put RX (.cells ((readyP h y).map (Value.int .i64)).toArray 85 (0, 0))) (b := LB) (by rw [Snap.put_other _ _ (Ne.symm hRL)]; exact hcd.free) (.cells #[.int .i64 lw] 3 (0, 0)))
        have hput : ((Hd.put RX (.cells ((readyP h y).map (Value.int .i64)).toArray 85 (0, 0))).put LB (.cells #[.int .i64 lw] 3 (0, 0))) RX = some (.cells ((readyP h y).map (Value.int .i64)).toArray 85 (0, 0)) := by rw [Snap.put_other _ _ hRL, Snap.put_same]
        have hputL := Snap.put_same (Hd.put RX (.cells ((readyP h y).map (Value.int .i64)).toArray 85 (0, 0))) LB (.cells #[.int .i64 lw] 3 (0, 0))
        generalize (Hd.put RX (.cells ((readyP h y).map (Value.int .i64)).toArray 85 (0, 0))).put LB (.cells #[.int .i64 lw] 3 (0, 0)) = Hf at *
        have hle4f := (hle4.trans hled).trans hlef
        have hhf := hhc.mono hle4f
        have hlate := fun (z : WB Hf V) => lateL_any vm vb _ h (readyP h y) Hf z.w z.h hhf ht4 (readyP_len h y) (readyP_bd hv hpl)
        rw [late_spec hv hpl] at hlate
        have hj4 : j < 4 := by omega
        obtain ⟨rj, hrj⟩ := At.mk (xs := readyP h y) (k := j) (by rw [readyP_len]; exact hj4)
        have hrjb := readyP_bd hv hpl rj hrj.mem
        obtain ⟨tj, htj⟩ := At.mk (xs := h.ts) (k := j) (by omega)
        have htjb := ts_bd hv htj
        obtain ⟨bt, ot, ct', he', hit', hctj⟩ := hhf.t.int htj
        cases he'
        have hcj : ∀ w, Holds Hf w → w.cell? ⟨RX, j, none⟩ = some (.int .i64 rj) := fun w hw => (cellH hput hw j).trans (by simp [show (readyP h y)[j]? = some rj from hrj])
        have hval : Hid (waitPlanT h j lw y = if (lateOf h y).all (fun x => decide (x ∈ [(j : Int)])) then min lw (max 0 (rj - tj)) else lw) := by
          show _ = _
          unfold waitPlanT; rw [hrj.getD, htj.getD]
        obtain ⟨r0, r1, r2, r3, hr⟩ := list4 (readyP_len h y)
        rw [hr] at hlate hput ⊢
        simp only [arr, List.map_cons, List.map_nil] at hlate ⊢
        have g0 := fun (w : World) (hw : Holds Hf w) => cellH hput hw 0
        have g1 := fun (w : World) (hw : Holds Hf w) => cellH hput hw 1
        have g2 := fun (w : World) (hw : Holds Hf w) => cellH hput hw 2
        have g3 := fun (w : World) (hw : Holds Hf w) => cellH hput hw 3
        have gL := fun (w : World) (hw : Holds Hf w) => cellH hputL hw 0
        have gF : ∀ w, Holds Hf w → w.frozen? ⟨LB, 0, none⟩ = false := fun w hw => by simp [World.frozen?, hw.at_ _ _ hputL]
        simp at g0 g1 g2 g3 gL
        have e0 := lift hle4f hd0
        have e1 := lift hle4f hd1
        have e2 := lift hle4f hd2
        have e3 := lift hle4f hd3
        have eT := lift hle4f hdT
        have hz := andNot_zero (lateOf_mem hv y) (S := [(j : Int)]) (fun x hx => by rw [List.mem_singleton.1 hx]; omega)
        rw [ub_one, Int.natCast_pow, show ((2 : Nat) : Int) = 2 from rfl] at hz
        have hpw := pow_wrapU (b := j) (by omega)
        clear hr hd0 hd1 hd2 hd3 hc0 hc1 hc2 hc3 hdT hcT hrj hrow htj
        obtain ⟨lt, hlt⟩ : ∃ lt, Hid (lateOf h y = lt) := ⟨_, rfl⟩
        rw [hlt.out] at hz hlate hval
        have hm0 : (0 : Int) ≤ (j : Int) := by omega
        have hm4 : (j : Int) < 4 := by omega
        cases hb : lt.all fun t => decide (t ∈ [(j : Int)])
        all_goals
          rw [hb] at hz hval
          gi_wp2
          have hne : Nonempty (WB Hf V) := ⟨⟨V, hVf, Below.refl _ _⟩⟩
          refine wpIn_region_q (C := fun w' => ∃ x : WB Hf V, w' = x.w) (by kernel_rfl) (by kernel_rfl) (by kernel_rfl) ⟨⟨V.drew, hVf.drew, (Below.refl _ _).drew⟩, rfl⟩ ?_
          repeat go_big_quiet_step ((go_at_call 72; exact Calls.quietB (hlate _)))
          refine wpQuiet_nil ?_
          clear hne
          rintro V2 ⟨⟨_, hV2, hb2⟩, rfl⟩
          gi_wp2
        · exact ⟨hV2.mono hlef, hxd.step (hb2.mono hxd.below.size) (hV2.mono hlef), by rw [hfold, hval.out]; exact hcd.below hb2⟩
        · have hne : Nonempty (WB Hf V2) := ⟨⟨V2, hV2, Below.refl _ _⟩⟩
          refine wpIn_region_qtail (C := fun w' => ∃ x : WB Hf V2, w' = x.w) 12 (by kernel_rfl) (by kernel_rfl) (by kernel_rfl) ⟨⟨V2.drew, hV2.drew, (Below.refl _ _).drew⟩, rfl⟩ ?_
          simp only [List.take_succ_cons, List.take_zero, List.drop_succ_cons, List.drop_zero]
          repeat go_big_quiet_step (fail)
          refine wpQuiet_nil ?_
          clear hne
          rintro V3 ⟨⟨_, hV3, hb3⟩, rfl⟩
          gi_wp2
          all_goals
            have hb23 := hb2.trans (hb3.mono hb2.size)
            have hcd3 := hcd.below hb23
            refine ⟨(hV3.mono hlef).setCell hcd.free _, (hxd.step (hb23.mono hxd.below.size) (hV3.mono hlef)).setCell hcd.base hcd.free _, ?_⟩
            rw [hfold, hval.out, if_pos trivial]
            first
              | (rw [show min lw (max 0 (rj - tj)) = lw by omega]; exact hcd3.set _)
              | (rw [show min lw (max 0 (rj - tj)) = rj - tj by omega]; exact hcd3.set _)
              | (rw [show min lw (max 0 (rj - tj)) = 0 by omega]; exact hcd3.set _)
      case done2 =>
        rintro Hd V hVd hled ⟨hxd, hcd⟩
        have hlw := waitFold_bd (h := h) (t := j) (plansOf h x) (acc := 1048576) (by omega)
        have hfold : (pre ++ [x]).foldl (fun o c => max o (waitCaseT h j c)) 0 = max wt (waitCaseT h j x) := by rw [List.foldl_append, hwt.out]; rfl
        obtain ⟨lw, hlwe⟩ : ∃ lw, Hid (waitCaseT h j x = lw) := ⟨_, rfl⟩
        rw [show (plansOf h x).foldl (waitPlanT h j) 1048576 = lw from hlwe.out] at hlw hcd
        rw [hlwe.out] at hfold
        have hVc := hVd.mono (hle4.trans hled)
        have hccV := hcc.below hxd.below
        have q1 := hcd.cell
        have q2 := hccV.cell
        have q3 := hccV.fz
        gi_wp2
        all_goals
          refine ⟨hVc.setCell hcc.free _, (hxc.step (hxd.below.mono hxc.below.size) hVc).setCell hcc.base hcc.free _, ?_⟩
          first
            | (rw [hfold, show max wt lw = lw by omega]; exact hccV.set _)
            | (rw [hfold, show max wt lw = wt by omega]; exact hccV.set _)
      case stop2 => exact fun _ _ _ _ _ _ _ h => h.elim
    case done =>
      rintro D Hc W hD hWc hlec hDc ⟨hxc, hcc⟩
      have hDW := hWc.at_ _ _ hDc
      have hDlt := (Array.getElem?_eq_some_iff.1 hDW).1
      have hx03s := hx03.below.size
      have hwb := waitCases_bd (h := h) (t := j) (casesOf h) (acc := 0) (by omega)
      obtain ⟨wt, hwt⟩ : ∃ wt, Hid (waitRawT h j = wt) := ⟨_, rfl⟩
      rw [show (casesOf h).foldl (fun o c => max o (waitCaseT h j c)) 0 = wt from hwt.out] at hwb hcc
      have q1 := hcc.cell
      have hleF := hle3.trans hlec
      have e0 := lift hleF hc0
      have e1 := lift hleF hc1
      have e2 := lift hleF hc2
      have e3 := lift hleF hc3
      have eT := lift hleF hcT
      obtain ⟨tj, htj⟩ := At.mk (xs := h.ts) (k := j) (by omega)
      have htjb := ts_bd hv htj
      obtain ⟨bt, ot, ct', he', hit', hctj⟩ := (hhm.mono hleF).t.int htj
      cases he'
      have hTV : Hid (waitTV h (j : Int) = if tj + wt ≤ 99 then wt else 0) := by
        show _ = _
        unfold waitTV; rw [hb'.out.1, hb'.out.2, Int.toNat_natCast, htj.getD, hwt.out]
        by_cases e : tj + wt ≤ 99 <;> simp [e]
      have hTE : Hid (waitTE h (j : Int) = if tj + wt ≤ 99 then 0 else 3) := by
        show _ = _
        unfold waitTE; rw [hb'.out.1, hb'.out.2, Int.toNat_natCast, htj.getD, hwt.out]; rfl
      have hputW := Snap.put_same Hc WX (.cells #[.int .i64 wt] 3 (0, 0))
      have hleW := Snap.le_put hcc.free (.cells #[.int .i64 wt] 3 (0, 0))
      have hWf := hWc.put hcc.at_
      generalize Hc.put WX (.cells #[.int .i64 wt] 3 (0, 0)) = Hg at *
      have k0 := lift hleW e0
      have k1 := lift hleW e1
      have k2 := lift hleW e2
      have k3 := lift hleW e3
      have kT := lift hleW eT
      have kj := lift hleW hctj
      have gW := fun (w : World) (hw : Holds Hg w) => cellH hputW hw 0
      simp at gW
      clear e0 e1 e2 e3 eT hctj q1 hc0 hc1 hc2 hc3 hcT htj
      have hm0 : (0 : Int) ≤ (j : Int) := by omega
      have hm1 : (j : Int) < (h.ts.length : Int) := by omega
      cases hg : decide (99 < tj + wt)
      all_goals
        go_wp2_with fail
        refine wp_region_quietB Hg (by kernel_rfl) (by kernel_rfl) hWf (fun hne => ?_)
        repeat go_big_quiet_step ((first | fail))
        refine wpQuiet_nil ?_
        rintro ⟨w2, hw2, hb2⟩
        clear hne
        go_wp2_with fail
        have hB := hxc.below.trans (hb2.mono hxc.below.size)
        have hD2 : w2.heap[D]? = some (.deferred (some [])) := hw2.at_ _ _ (hleW _ _ hDc)
        refine leavesM hD2 (results_tmp2 rfl _ _ _) ⟨?_, below_putD hB (by omega) (Array.getElem?_eq_some_iff.1 hD2).1⟩
        rw [hTV.out, hTE.out]
      · rw [if_pos (by have := of_decide_eq_false hg; omega), if_pos (by have := of_decide_eq_false hg; omega)]; rfl
      · rw [if_neg (by have := of_decide_eq_true hg; omega), if_neg (by have := of_decide_eq_true hg; omega)]; rfl
    case stop => exact fun _ _ _ _ _ _ _ _ _ _ h => h.elim

end Go.Proofs.Yteijmboophnmgaa
