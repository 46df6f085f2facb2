/- The walk of trains.sure. -/
import Derived.Test.YteijmboophnmgaaIt6
namespace Go.Proofs.Yteijmboophnmgaa
open Go.RowKit

attribute [local go_sem] Holds.drew Holds.alloc Holds.drewN WB.holds Oper.semAt_some FW_fn FW_dep FW_round

/-- A new block is frozen at once. -/
theorem Ext.newF {w0 w : World} {H0 H : Snap} (hx : Ext w0 H0 w H) (cs : Array Value) (t : TypeId) : Ext w0 H0 (w.alloc (.cells cs t)) (H.put w.heap.size (.cells cs t (0, 0))) ∧ SLe H (H.put w.heap.size (.cells cs t (0, 0))) ∧ (H.put w.heap.size (.cells cs t (0, 0))) w.heap.size = some (.cells cs t (0, 0)) :=
  ⟨(hx.alloc _).freeze hx.below.size (heap_alloc_new w _), Snap.le_put (hx.holds.none_of_ge (Nat.le_refl _)) _, Snap.put_same _ _ _⟩

theorem Row.turn {H H' : Snap} {base n0 b : Nat} {W W' : World} {t : TypeId} {xs : List Int} (h : Row H base W t b xs) (ht : Turn n0 W H W' H') : Row H' base W' t b xs :=
  let ⟨e, hn⟩ := ht.keep _ _ _ _ h.at_ h.free; ⟨e, h.base, hn⟩
theorem list4 {l : List Int} (h : l.length = 4) : ∃ a b c d, l = [a, b, c, d] := by
  match l, h with
  | [a, b, c, d], _ => exact ⟨a, b, c, d, rfl⟩
/-- The end of a function that holds a range over a function: the mark is come to. -/
theorem leavesM {F : Fence} {n : Nat} {P : Program} {fn : Func} {tmps : Array Value} {R : Ending → World → Prop} {D : Nat} {W : World} {v : Value} (hD : W.heap[D]? = some (.deferred (some []))) (hr : (results fn tmps).run P (W.putObj D (.deferred none)) = .ok v (W.putObj D (.deferred none))) (hR : R (.returned v) (W.putObj D (.deferred none))) :
    LeavesInM F n P fn tmps R [{ target := .collected D, args := #[] }] .returning W := ⟨by simp, .inl ⟨_, _, rfl, run_takeDeferred hD, ⟨v, hr, hR⟩⟩⟩
theorem below_putD {n0 D : Nat} {w W : World} {o : Obj} (h : Below n0 w W) (hD : n0 ≤ D) (hlt : D < W.heap.size) : Below n0 w (W.putObj D o) := h.grown (grownBy_putObj' W D o) (by omega) (fun k e => by cases e; exact hD)
theorem Cell.putD {H : Snap} {W : World} {base B D : Nat} {t : TypeId} {v : Value} {o : Obj} (h : Cell H W base B t v) (hne : B ≠ D) : Cell H (W.putObj D o) base B t v := ⟨(World.putObj_heap_other hne).trans h.at_, h.free, h.base⟩
theorem results_cell1 {P : Program} {fn : Func} {p : Tmp} {ty : TypeId} (h : fn.results = #[.cell p ty]) (tmps : Array Value) (w : World) (g : Nat) (v : Value) (hp : tmps.getD p undef = .pointer (some ⟨g, 0, none⟩)) (hc : w.cell? ⟨g, 0, none⟩ = some v) (hna : (isAgg ty).run P w = .ok false w) : (results fn tmps).run P w = .ok v w := by
  have hp' : tmps[p]?.getD undef = .pointer (some ⟨g, 0, none⟩) := by simpa using hp
  simp [results, h, hp', asAddr, loadVar, Sem.run_bind, hna, go_sem, hc]

theorem sub_bits : ∀ a b : Fin 16, (bits .andNot .u64 (a.val : Int) (b.val : Int) == 0) = decide (∀ k : Fin 4, a.val.testBit k.val = true → b.val.testBit k.val = true) := by decide +kernel
theorem ub_lt16 {l : List Int} (hl : ∀ x ∈ l, 0 ≤ x ∧ x ≤ 3) : ub l < 16 := by
  have h1 : ∀ x ∈ l, (0:Int) ≤ x := fun x hx => (hl x hx).1
  have h2 : ub l < 32 := ub_lt (n := 4) (by omega) (fun x hx => by have := hl x hx; omega)
  have h4 : (ub l).testBit 4 = false := by
    rw [ub_test h1]
    refine decide_eq_false fun hm => ?_
    have := hl _ hm; omega
  rw [Nat.testBit_eq_decide_div_mod_eq] at h4
  have := of_decide_eq_false h4
  omega
theorem andNot_zero {A S : List Int} (hA : ∀ x ∈ A, 0 ≤ x ∧ x ≤ 3) (hS : ∀ x ∈ S, 0 ≤ x ∧ x ≤ 3) : (bits .andNot .u64 (ub A : Nat) (ub S : Nat) == 0) = A.all (fun t => decide (t ∈ S)) := by
  have := sub_bits ⟨ub A, ub_lt16 hA⟩ ⟨ub S, ub_lt16 hS⟩
  simp only at this
  rw [this, Bool.eq_iff_iff, decide_eq_true_eq, List.all_eq_true]
  constructor
  · intro h x hx
    have hb := hA x hx
    have h1 := h ⟨x.toNat, by omega⟩
    simp only [ub_test (fun y hy => (hA y hy).1), ub_test (fun y hy => (hS y hy).1), Int.toNat_of_nonneg hb.1, decide_eq_true_eq] at h1
    exact decide_eq_true (h1 hx)
  · intro h k hk
    rw [ub_test (fun y hy => (hA y hy).1), decide_eq_true_eq] at hk
    rw [ub_test (fun y hy => (hS y hy).1)]
    exact h _ hk
theorem lateOf_mem {h : House} (hv : Valid h) (p : List (List Int)) : ∀ x ∈ lateOf h p, 0 ≤ x ∧ x ≤ 3 := by
  intro x hx
  unfold lateOf lateList at hx
  obtain ⟨i, hi, rfl⟩ := List.mem_map.1 hx
  have := List.mem_range.1 (List.mem_filter.1 hi).1
  have := hv.t4
  exact ⟨Int.natCast_nonneg i, by have : ((i : Nat) : Int) ≤ 3 := by omega
                                  exact this⟩


set_option maxRecDepth 100000 in
set_option maxHeartbeats 8000000 in
theorem sure_any (vm vb vt : Value) (h : House) (hv : Valid h) (S : List Int) (hS : ∀ x ∈ S, 0 ≤ x ∧ x ≤ 3) (H : Snap) (w : World) (hw : Holds H w) (hh : Hou H vm vb vt h) :
    Calls Try.prog 81 #[houV vm vb vt h, .int .u64 (ub S : Nat)] w (PostV w (.bool (sureB h S))) := by
  refine Calls.ofWide (r := none) (n := 3) (callsIn_of_wp_marks Try.func81 rfl trivial (wpIn_wide.2 ?_) rfl)
  simp only [Try.ntmps81, List.size_toArray, List.length_cons, List.length_nil, Nat.reduceAdd, Nat.reduceSub, Array.replicate_succ, Array.replicate_zero, List.push_toArray, List.append_toArray, List.nil_append, List.cons_append]
  go_upto_region 1 with (refine wpList_boxF rfl _ rfl (Ext.refl hw) ?_; intro B w1 H1 hle hx hB hBw; obtain ⟨hc0, hc1, hc2, hc3⟩ := cellsHou hB; clear hB hw; have hw1 := hx.holds)
  obtain ⟨hxU, hleU, hBU⟩ := hx.newF #[.int .u64 (ub S : Nat)] 87
  have hcell := Cell.new (W := w1.alloc (.cells #[.int .u64 (ub S : Nat)] 87)) (t := 4) hxU.holds hxU.below.size rfl (.bool false)
  have hxz := hxU.alloc (.cells #[.bool false] 4)
  rw [World.size_alloc] at hcell
  generalize H1.put w1.heap.size (.cells #[.int .u64 (ub S : Nat)] 87 (0, 0)) = H2 at *
  generalize (w1.alloc (.cells #[.int .u64 (ub S : Nat)] 87)).alloc (.cells #[.bool false] 4) = wz at *
  generalize w1.heap.size + 1 = RB at *
  generalize w1.heap.size = SB at *
  replace hc0 := lift hleU hc0
  replace hc1 := lift hleU hc1
  replace hc2 := lift hleU hc2
  replace hc3 := lift hleU hc3
  have hcS := fun (w : World) (hw : Holds H2 w) => cellH hBU hw 0
  simp at hcS
  have hhm := (hh.mono hle).mono hleU
  have hwz := hxz.holds
  clear hxU hleU hBU hx hle hw1
  go_step3
  go_wp2_with fail
  go_step3
  go_wp2_with (first | (go_at_call 70; refine (casesF_any _ _ _ _ H2 _ hwz hhm hv.m3).mono ?_; rintro e w3 ⟨lb, H3, rfl, hx3, hit⟩))
  have hw3 := hx3.holds
  have hle3 := hx3.le hwz
  have hx03 := hxz.trans hx3
  have hcell3 := (hcell.below hx3.below).snap ((hx3.same RB hcell.lt).trans hcell.free)
  clear hcell hxz hwz hx3
  refine (wpIn_wide (n := 3)).1 (wpIn_forO (k := 3) (H := H3) rfl (enters_of Try.func101 (by kernel_rfl) rfl) hw3 hit (fun _ _ _ e => by rw [show _ = _ from e]; rfl) (fun _ _ _ _ _ e => e)
    (J := fun Hc pre W => (Ext w H W Hc ∧ Cell Hc W w.heap.size RB 4 (.bool false)) ∧ pre.all (okCase h S) = true)
    (Jx := fun c Hc pre W => (c = .ret ∧ (Ext w H W Hc ∧ Cell Hc W w.heap.size RB 4 (.bool false))) ∧ pre.all (okCase h S) = false)
    (J2 := fun Hc pre x args a1 W => ((Ext w H W Hc ∧ Cell Hc W w.heap.size RB 4 (.bool false)) ∧ pre.all (okCase h S) = true) ∧ a1 = { tmps := #[houV vm vb vt h, .int .u64 (ub S : Nat), .pointer (some ⟨B, 0, none⟩), .pointer (some ⟨SB, 0, none⟩), .pointer (some ⟨RB, 0, none⟩), .int .i64 x, undef, undef, houV vm vb vt h, .func (.func 101) #[] lb, .int .i64 x, undef, undef, undef, undef, undef, undef, undef, undef, undef, undef, undef], defers := [] })
    (((Ext.abides hx03.below.size).and (Cell.abides _)).and (Abides.pure _)) (fun c => ?hJx) (fun _ _ _ => ((((Ext.abides hx03.below.size).and (Cell.abides _)).and (Abides.pure _)).and (Abides.pure _))) ⟨⟨hx03, hcell3⟩, rfl⟩ ?assign ?body ?done ?stop)
  case hJx => exact fun _ _ _ _ _ h _ ht => ⟨⟨h.1.1, ht.of_ext h.1.2.1 hx03.below.size, h.1.2.2.turn ht⟩, h.2⟩
  case assign =>
    rintro l Hc pre x W args hl hWc hlec ⟨⟨hxc, hcc⟩, hall⟩ rfl hpre
    gi_wp2
    exact ⟨hWc, ⟨⟨hxc, hcc⟩, hall⟩, by first | rfl | trivial⟩
  case body =>
    rintro l rc Hc pre x args a1 W hl hrc hWc hlec he hpre ⟨⟨⟨hxc, hcc⟩, hall⟩, rfl⟩
    have hhc := hhm.mono (hle3.trans hlec)
    have hd0 := lift (hle3.trans hlec) hc0
    have hd1 := lift (hle3.trans hlec) hc1
    have hd2 := lift (hle3.trans hlec) hc2
    have hd3 := lift (hle3.trans hlec) hc3
    have hdS := lift (hle3.trans hlec) hcS
    have hxm := casesOf_mem (hpre.subset (show x ∈ pre ++ [x] by simp))
    have hm3 := hv.m3
    have hxI : I64 x := by unfold I64; omega
    gi_wp2_with (gi_at_call 71; refine (Calls.wide (plansMk_any _ _ _ _ hv x hxI Hc W hWc hhc)).mono ?_; rintro e w4 ⟨lb2, H4, rfl, hx4, hit2⟩)
    have hw4 := hx4.holds
    have hle4 := hx4.le hWc
    have hrc4 := (hx4.below.block l (Array.getElem?_eq_some_iff.1 hrc).1).trans hrc
    have hhm4 := hhc.mono hle4
    refine wpIn_forN (k := 3) (H := H4) hrc4 rfl (enters_of Try.func102 (by kernel_rfl) rfl) hw4 hit2 (fun _ _ _ ⟨_, e, _⟩ => by rw [e]; rfl) (fun _ _ _ _ hle ⟨v, e, hs⟩ => ⟨v, e, hs.mono hle⟩)
      (J := fun Hd pr V => Ext W Hc V Hd ∧ (pr.any fun p => (lateOf h p).all fun t => decide (t ∈ S)) = false)
      (Jx := fun c Hd pr V => (c = .exit 1 ∧ Ext W Hc V Hd) ∧ (pr.any fun p => (lateOf h p).all fun t => decide (t ∈ S)) = true)
      (J2 := fun Hd pr y args a1 V => (Ext W Hc V Hd ∧ (pr.any fun p => (lateOf h p).all fun t => decide (t ∈ S)) = false) ∧ ∃ RX vp, Row Hd W.heap.size V 85 RX (readyP h y) ∧ a1 = { tmps := #[houV vm vb vt h, .int .u64 (ub S : Nat), .pointer (some ⟨B, 0, none⟩), .pointer (some ⟨SB, 0, none⟩), .pointer (some ⟨RB, 0, none⟩), .int .i64 x, undef, .pointer (some ⟨RX, 0, none⟩), houV vm vb vt h, .func (.func 101) #[] lb, .int .i64 x, houV vm vb vt h, .int .i64 x, .func (.func 102) #[] lb2, vp, arr (readyP h y), undef, undef, undef, undef, undef, undef], defers := [] })
      ((Ext.abides hx4.below.size).and (Abides.pure _)) (fun c => ?hJx2) (fun _ _ _ => ?hJ22) ⟨hx4, rfl⟩ ?assign2 ?body2 ?done2 ?stop2
    case hJx2 => exact fun _ _ _ _ _ h _ ht => ⟨⟨h.1.1, ht.of_ext h.1.2 hx4.below.size⟩, h.2⟩
    case hJ22 => exact fun _ _ _ _ _ ⟨h1, RX, vp, hr, e⟩ _ ht => ⟨⟨ht.of_ext h1.1 hx4.below.size, h1.2⟩, RX, vp, hr.turn ht, e⟩
    case assign2 =>
      rintro l2 Hd pr y V args hl2 hVd hled ⟨hxd, hany⟩ ⟨vp, rfl, hsp⟩ hpr
      obtain ⟨r0, r1, r2, r3, hr⟩ := list4 (readyP_len h y)
      rw [hr]
      simp only [arr, List.map_cons, List.map_nil]
      gi_wp2
      exact ⟨hVd.alloc _, ⟨hxd.alloc _, hany⟩, V.heap.size, vp, Row.new (xs := [r0, r1, r2, r3]) hVd hxd.below.size rfl, by first | rfl | trivial⟩
    case body2 =>
      rintro l2 rc2 Hd pr y args a1 V hl2 hrc2 hVd hled ⟨vp', rfl, hsp⟩ hpr ⟨⟨hxd, hany⟩, RX, vp, hrow, rfl⟩
      have hpl := plansOf_isPlan hv x y (hpr.subset (show y ∈ pr ++ [y] by simp))
      have hVf := hVd.put hrow.at_
      have hlef := Snap.le_put hrow.free (.cells ((readyP h y).map (Value.int .i64)).toArray 85 (0, 0))
      have hput := Snap.put_same Hd RX (.cells ((readyP h y).map (Value.int .i64)).toArray 85 (0, 0))
      generalize Hd.put RX (.cells ((readyP h y).map (Value.int .i64)).toArray 85 (0, 0)) = Hf at *
      have hle4f := (hle4.trans hled).trans hlef
      have hhf := hhc.mono hle4f
      have hlate := fun (z : WB Hf V) => lateL_any vm vb vt h (readyP h y) Hf z.w z.h hhf hv.t4 (readyP_len h y) (readyP_bd hv hpl)
      rw [late_spec hv hpl] at hlate
      obtain ⟨r0, r1, r2, r3, hr⟩ := list4 (readyP_len h y)
      rw [hr] at hlate hput ⊢
      simp only [arr, List.map_cons, List.map_nil] at hlate ⊢
      have g0 := fun (w : World) (hw : Holds Hf w) => cellH hput hw 0
      have g1 := fun (w : World) (hw : Holds Hf w) => cellH hput hw 1
      have g2 := fun (w : World) (hw : Holds Hf w) => cellH hput hw 2
      have g3 := fun (w : World) (hw : Holds Hf w) => cellH hput hw 3
      simp at g0 g1 g2 g3
      have e0 := lift hle4f hd0
      have e1 := lift hle4f hd1
      have e2 := lift hle4f hd2
      have e3 := lift hle4f hd3
      have eS := lift hle4f hdS
      have hz := andNot_zero (lateOf_mem hv y) hS
      clear hr hd0 hd1 hd2 hd3 hc0 hc1 hc2 hc3 hdS hcS
      obtain ⟨lt, hlt⟩ : ∃ lt, Hid (lateOf h y = lt) := ⟨_, rfl⟩
      rw [hlt.out] at hz hlate
      cases hb : lt.all fun t => decide (t ∈ S)
      all_goals
        rw [hb] at hz
        gi_wp2
        have hne : Nonempty (WB Hf V) := ⟨⟨V, hVf, Below.refl _ _⟩⟩
        refine wpIn_region_q (C := fun w' => ∃ x : WB Hf V, w' = x.w) (by kernel_rfl) (by kernel_rfl) (by kernel_rfl) ⟨⟨V.drew, hVf.drew, (Below.refl _ _).drew⟩, rfl⟩ ?_
        repeat go_big_quiet_step ((go_at_call 72; exact Calls.quietB (hlate _)))
        refine wpQuiet_nil ?_
        clear hne
        rintro V2 ⟨⟨_, hV2, hb2⟩, rfl⟩
        gi_wp2
      · exact ⟨hV2.mono hlef, hxd.step (hb2.mono hxd.below.size) (hV2.mono hlef), by rw [List.any_append, hany]; simp only [List.any_cons, List.any_nil]; rw [hlt.out, hb]; rfl⟩
      · exact ⟨hV2.mono hlef, ⟨rfl, hxd.step (hb2.mono hxd.below.size) (hV2.mono hlef)⟩, by rw [List.any_append]; simp only [List.any_cons, List.any_nil]; rw [hlt.out, hb]; simp⟩
    case done2 =>
      rintro Hd V hVd hled ⟨hxd, hany⟩
      have hVc := hVd.mono (hle4.trans hled)
      have hccV := hcc.below hxd.below
      have hcf := hccV.cell
      have hff := hccV.fz
      gi_wp2
      refine ⟨hVc.setCell hcc.free _, ⟨rfl, (hxc.step (hxd.below.mono hxc.below.size) hVc).setCell hcc.base hcc.free _, hccV.set _⟩, ?_⟩
      rw [List.all_append]; simp only [List.all_cons, List.all_nil]
      rw [show okCase h S x = false from hany]; simp
    case stop2 =>
      rintro c Hd pr V hVd hled hpr ⟨⟨rfl, hxd⟩, hany⟩
      have hVc := hVd.mono (hle4.trans hled)
      have hccV := hcc.below hxd.below
      gi_wp2
      refine ⟨hVc, ⟨hxc.step (hxd.below.mono hxc.below.size) hVc, hccV⟩, ?_⟩
      rw [List.all_append, hall]; simp only [List.all_cons, List.all_nil]
      have : okCase h S x = true := by
        unfold okCase
        rw [List.any_eq_true] at hany ⊢
        obtain ⟨p, hp, hpp⟩ := hany
        exact ⟨p, hpr.subset hp, hpp⟩
      rw [this]; rfl
  case done =>
    rintro D Hc W hD hWc hlec hDc ⟨⟨hxc, hcc⟩, hall⟩
    have hcf := hcc.cell
    have hff := hcc.fz
    have hDW := hWc.at_ _ _ hDc
    go_wp2_with fail
    rw [Exit.noGoto_ret]
    have hDlt := (Array.getElem?_eq_some_iff.1 hDW).1
    have hDW2 : (W.setCell ⟨RB, 0, none⟩ (.bool true)).heap[D]? = some (.deferred (some [])) := (Below.heap_setCell _ _ _ _ (by rintro rfl; rw [hcc.at_] at hDW; cases hDW)).trans hDW
    have hRD : RB ≠ D := by rintro rfl; rw [hcc.at_] at hDW; cases hDW
    have hx03s := hx03.below.size
    refine leavesM hDW2 (results_cell1 rfl _ _ RB (.bool true) rfl ((hcc.set (.bool true)).putD hRD).cell (by kernel_rfl)) ⟨by rw [sureB, hall], below_putD (hxc.below.setCell hcc.base _) (by omega) (by simp; omega)⟩
  case stop =>
    rintro D c Hc pre W hD hWc hlec hDc hpre ⟨⟨rfl, hxc, hcc⟩, hall⟩
    have hDW := hWc.at_ _ _ hDc
    have hDlt := (Array.getElem?_eq_some_iff.1 hDW).1
    have hRD : RB ≠ D := by rintro rfl; rw [hcc.at_] at hDW; cases hDW
    have hx03s := hx03.below.size
    gi_wp2
    rw [Exit.noGoto_ret]
    refine leavesM hDW (results_cell1 rfl _ _ RB (.bool false) rfl (hcc.putD hRD).cell (by kernel_rfl)) ⟨?_, below_putD hxc.below (by omega) (by omega)⟩
    have : sureB h S = false := by
      unfold sureB
      rw [List.all_eq_false] at hall ⊢
      obtain ⟨y, hy, hyf⟩ := hall
      exact ⟨y, hpre.subset hy, hyf⟩
    rw [this]

end Go.Proofs.Yteijmboophnmgaa
