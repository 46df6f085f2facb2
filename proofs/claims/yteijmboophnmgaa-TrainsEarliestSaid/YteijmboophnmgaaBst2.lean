/- The walk of trains.best. -/
import Derived.Test.YteijmboophnmgaaBst
import Derived.Sort.CutIn
namespace Go.Proofs.Yteijmboophnmgaa
open Go.RowKit

attribute [local go_sem] Holds.drew Holds.alloc Holds.drewN WB.holds Oper.semAt_some FW_fn FW_dep FW_round

set_option maxRecDepth 100000 in
set_option maxHeartbeats 8000000 in
theorem best_any (vm vb vt : Value) (h : House) (hv : Valid h) (stop : Int) (hstop : I64 stop) (H : Snap) (w : World) (hw : Holds H w) (hh : Hou H vm vb vt h) :
    Calls Try.prog 84 #[houV vm vb vt h, .int .i64 stop] w (Post w H fun v H' => ∃ u, v = .tuple #[u, .int .i64 (lateN h (bestOf h stop) : Nat)] ∧ Sl H' u (bestOf h stop)) := by
  obtain ⟨at', ct, rfl, ht1, ht2⟩ := hh.t.form
  have ht4 := hv.t4
  have hw0 := Lib.hid hw
  refine Calls.ofWide (r := none) (n := 3) (callsIn_of_wp_marks Try.func84 rfl trivial (wpIn_wide.2 ?_) rfl)
  simp only [Try.ntmps84, List.size_toArray, List.length_cons, List.length_nil, Nat.reduceAdd, Nat.reduceSub, Array.replicate_succ, Array.replicate_zero, List.push_toArray, List.append_toArray, List.nil_append, List.cons_append]
  go_upto_region 1 with (refine wpList_boxF rfl _ rfl (Ext.refl hw) ?_; intro B w1 H1 hle hx hB hBw; obtain ⟨hc0, hc1, hc2, hc3⟩ := cellsHou hB; clear hB hw; have hw1 := hx.holds)
  have hcB := Cell.new (W := w1) (t := 63) hx.holds hx.below.size rfl (.slice none 0 0)
  have hcN := Cell.new (W := w1.alloc (.cells #[.slice none 0 0] 63)) (t := 3) (base := w.heap.size) (hx.alloc (.cells #[.slice none 0 0] 63)).holds (by have := hx.below.size; simp; omega) rfl (.int .i64 0)
  replace hcB := hcB.alloc (.cells #[.int .i64 0] 3)
  have hxz := (hx.alloc (.cells #[.slice none 0 0] 63)).alloc (.cells #[.int .i64 0] 3)
  rw [World.size_alloc] at hcN
  have hne : w1.heap.size ≠ w1.heap.size + 1 := by omega
  generalize (w1.alloc (.cells #[.slice none 0 0] 63)).alloc (.cells #[.int .i64 0] 3) = wz at *
  generalize w1.heap.size + 1 = NB at *
  generalize w1.heap.size = BB at *
  have hhm := hh.mono hle
  have hwz := hxz.holds
  have hcf := hcN.cell
  have hff := hcN.fz
  clear hx hle hw1
  go_upto_region 2 with fail
  replace hxz := hxz.setCell hcN.base hcN.free (.int .i64 ((h.ts.length : Int) + 1)) (a := ⟨NB, 0, none⟩)
  replace hcB := hcB.other (a := ⟨NB, 0, none⟩) (Ne.symm hne) (.int .i64 ((h.ts.length : Int) + 1))
  replace hcN := hcN.set (.int .i64 ((h.ts.length : Int) + 1))
  clear hcf hff hwz
  generalize wz.setCell ⟨NB, 0, none⟩ (.int .i64 ((h.ts.length : Int) + 1)) = wz at *
  have hwz := hxz.holds
  go_wp2_with (first | (go_at_call 71; refine (plansMk_any _ _ _ _ hv stop hstop H1 _ hwz hhm).mono ?_; rintro e w3 ⟨lb, H3, rfl, hx3, hit⟩))
  have hw3 := hx3.holds
  have hle3 := hx3.le hwz
  have hx03 := hxz.trans hx3
  have hcB3 := (hcB.below hx3.below).snap ((hx3.same BB hcB.lt).trans hcB.free)
  have hcN3 := (hcN.below hx3.below).snap ((hx3.same NB hcN.lt).trans hcN.free)
  have hb0 : BestS w.heap.size BB NB H3 w3 [] ((h.ts.length : Int) + 1) :=
    ⟨fun _ => none, _, hcB3, hcN3, Mine.empty _ _ _, rfl, rfl, Own.nil _ _ _ _, fun g e => by cases e⟩
  clear hcB hcN hxz hwz hx3 hcB3 hcN3
  refine (wpIn_wide (n := 3)).1 (wpIn_forO (k := 3) (H := H3) rfl (enters_of Try.func102 (by kernel_rfl) rfl) hw3 hit (fun _ _ _ ⟨_, e, _⟩ => by rw [e]; rfl) (fun _ _ _ _ hle ⟨v, e, hs⟩ => ⟨v, e, hs.mono hle⟩)
    (J := fun Hc pre W => Ext w H W Hc ∧ ∃ b n, BestS w.heap.size BB NB Hc W b n ∧ bestSpec h pre b n ∧ 0 < n ∧ n ≤ 5)
    (Jx := fun c Hc pre W => (c = .exit 0 ∧ Ext w H W Hc) ∧ ∃ b, BestS w.heap.size BB NB Hc W b 0 ∧ bestSpec h pre b 0)
    (J2 := fun Hc pre y args a1 W => (Ext w H W Hc ∧ ∃ b n, BestS w.heap.size BB NB Hc W b n ∧ bestSpec h pre b n ∧ 0 < n ∧ n ≤ 5) ∧ ∃ RX vp, args = #[vp, arr (readyP h y)] ∧ Row Hc w.heap.size W 85 RX (readyP h y) ∧ a1 = { tmps := #[houV vm vb (.slice at' h.ts.length ct) h, .int .i64 stop, .pointer (some ⟨B, 0, none⟩), undef, .pointer (some ⟨BB, 0, none⟩), .pointer (some ⟨NB, 0, none⟩), vp, .pointer (some ⟨RX, 0, none⟩), undef, undef, undef, .pointer (some ⟨B, 2, none⟩), .slice at' h.ts.length ct, .int .i64 (h.ts.length : Int), .int .i64 ((h.ts.length : Int) + 1), houV vm vb (.slice at' h.ts.length ct) h, .int .i64 stop, .func (.func 102) #[] lb, vp, arr (readyP h y), undef, undef, undef, undef, undef, undef, undef, undef, undef, undef, undef, undef, undef, undef, undef, undef, undef, undef, undef, undef, undef, undef, undef, undef], defers := [] })
    ?hJ (fun c => ?hJx) (fun _ _ _ => ?hJ2) ⟨hx03, [], (h.ts.length : Int) + 1, hb0, .inl ⟨rfl, rfl, rfl⟩, by omega, by omega⟩ ?assign ?body ?done ?stop)
  case hJ => exact fun _ _ _ _ _ ⟨h1, b, n, h2, h3⟩ _ ht => ⟨ht.of_ext h1 hx03.below.size, b, n, h2.turn ht, h3⟩
  case hJx => exact fun _ _ _ _ _ ⟨h1, b, h2, h3⟩ _ ht => ⟨⟨h1.1, ht.of_ext h1.2 hx03.below.size⟩, b, h2.turn ht, h3⟩
  case hJ2 => exact fun _ _ _ _ _ ⟨⟨h1, b, n, h2, h3⟩, RX, vp, ha, hr, e⟩ _ ht => ⟨⟨ht.of_ext h1 hx03.below.size, b, n, h2.turn ht, h3⟩, RX, vp, ha, hr.turn ht, e⟩
  case assign =>
    rintro l2 Hd pr y V args hl2 hVd hled ⟨hxd, b, n, hbs, hsp2⟩ ⟨vp, rfl, hsp⟩ hpr
    obtain ⟨r0, r1, r2, r3, hr⟩ := list4 (readyP_len h y)
    rw [hr]
    simp only [arr, List.map_cons, List.map_nil]
    gi_wp2
    have htn := Turn.ext hVd ((Below.refl V.heap.size V).alloc (Nat.le_refl _) (.cells #[.int .i64 r0, .int .i64 r1, .int .i64 r2, .int .i64 r3] 85)) (Nat.le_refl _)
    exact ⟨hVd.alloc _, ⟨hxd.alloc _, b, n, hbs.turn htn, hsp2⟩, V.heap.size, vp, rfl, Row.new (xs := [r0, r1, r2, r3]) hVd hxd.below.size rfl, by first | rfl | trivial⟩
  case body =>
    rintro l2 rc2 Hd pr y args a1 V hl2 hrc2 hVd hled ⟨vp', he, hsp⟩ hpr ⟨⟨hxd, b, n, ⟨Hj, v, c1, c2, hm, n1, n2, ho, hn⟩, hspec, hn0, hn5⟩, RX, vp, hargs, hrow, rfl⟩
    obtain rfl : vp = vp' := by rw [he] at hargs; simp at hargs; exact hargs.symm
    clear hargs he
    have hpl := plansOf_isPlan hv stop y (hpr.subset (show y ∈ pr ++ [y] by simp))
    have hlN := lateN_le h y
    have hVf := hVd.put hrow.at_
    have hlef := Snap.le_put hrow.free (.cells ((readyP h y).map (Value.int .i64)).toArray 85 (0, 0))
    have hput := Snap.put_same Hd RX (.cells ((readyP h y).map (Value.int .i64)).toArray 85 (0, 0))
    generalize Hd.put RX (.cells ((readyP h y).map (Value.int .i64)).toArray 85 (0, 0)) = Hf at *
    have hle4f := (hle3.trans hled).trans hlef
    have hhf := hhm.mono hle4f
    have hlate := lateL_any vm vb _ h (readyP h y) Hf V hVf hhf ht4 (readyP_len h y) (readyP_bd hv hpl)
    rw [late_spec hv hpl] at hlate
    have hub16 := ub_lt16 (lateOf_mem hv y)
    have hpop : popc (ub (lateOf h y)) = lateN h y := popc_ub (lateOf_mem hv y) (by rw [← late_spec hv hpl]; exact lateBy_sorted h _ _)
    obtain ⟨r0, r1, r2, r3, hr⟩ := list4 (readyP_len h y)
    rw [hr] at hlate hput ⊢
    simp only [arr, List.map_cons, List.map_nil] at hlate ⊢
    have g0 := cellH hput hVf 0
    have g1 := cellH hput hVf 1
    have g2 := cellH hput hVf 2
    have g3 := cellH hput hVf 3
    simp at g0 g1 g2 g3
    have e0 := lift hle4f hc0
    have e1 := lift hle4f hc1
    have e2 := lift hle4f hc2
    have e3 := lift hle4f hc3
    obtain ⟨U, hU⟩ : ∃ U, Hid (ub (lateOf h y) = U) := ⟨_, rfl⟩
    have hones := fun w => ones_any (ub (lateOf h y)) hub16 w
    rw [hpop] at hones
    rw [hU.out] at hones hlate
    obtain ⟨N, hN⟩ : ∃ N, Hid (lateN h y = N) := ⟨_, rfl⟩
    have hstepS := bestSpec_step hspec y
    rw [hN.out] at hones hlN hstepS
    clear hr hc0 hc1 hc2 hc3 hpop hub16
    gi_upto_region 6 with (first | (gi_at_call 72; refine (Calls.wide hlate).mono ?_; rintro e V2 ⟨rfl, hb2⟩) | (gi_at_call 108; refine (Calls.wide (hones _)).mono ?_; rintro e V3 ⟨rfl, rfl⟩))
    have hV2d := hVd.below hb2
    have hxd2 := hxd.step (hb2.mono hxd.below.size) hV2d
    replace ho := ho.ext hm.holds ⟨hb2, hm.holds.below hb2, fun _ _ => rfl⟩
    replace hm := hm.below hb2
    replace c1 := c1.below hb2
    replace c2 := c2.below hb2
    have hcn := c2.cell
    have hfn := c2.fz
    have hcb := c1.cell
    have hfb := c1.fz
    clear hlate g0 g1 g2 g3 e0 e1 e2 e3 hVf hput hhf hlef hle4f hrow hxd
    cases hlt : decide ((N : Int) < n)
    · have hlt' : ¬ ((N : Int) < n) := of_decide_eq_false hlt
      rw [if_neg hlt', if_neg hlt'] at hstepS
      replace hlt' := Lib.hid hlt'
      gi_wp2
      exact ⟨hV2d, hxd2, b, n, ⟨Hj, v, c1, c2, hm, n1, n2, ho, hn⟩, hstepS, hn0, hn5⟩
    · have hlt' : (N : Int) < n := of_decide_eq_true hlt
      rw [if_pos hlt', if_pos hlt'] at hstepS
      replace hlt' := Lib.hid hlt'
      gi_upto_region 8 with fail
      have hV4 := (hV2d.setCell (a := ⟨BB, 0, none⟩) c1.free (.slice none 0 0)).setCell (a := ⟨NB, 0, none⟩) c2.free (.int .i64 (N : Int))
      have hxd4 := (hxd2.setCell (a := ⟨BB, 0, none⟩) c1.base c1.free (.slice none 0 0)).setCell (a := ⟨NB, 0, none⟩) c2.base c2.free (.int .i64 (N : Int))
      have d1 := (c1.set (.slice none 0 0)).other (a := ⟨NB, 0, none⟩) (Ne.symm hne) (.int .i64 (N : Int))
      have d2 := (c2.other (a := ⟨BB, 0, none⟩) hne (.slice none 0 0)).set (.int .i64 (N : Int))
      clear hcn hfn hcb hfb c1 c2 ho hm n1 n2 hn hV2d hxd2 hspec
      generalize (V2.setCell ⟨BB, 0, none⟩ (.slice none 0 0)).setCell ⟨NB, 0, none⟩ (.int .i64 (N : Int)) = V4 at *
      clear hb2
      have hylen : y.length ≤ 3 := by
        have := hpl; simp only [isPlan, Bool.and_eq_true, decide_eq_true_eq] at this
        have := hv.m3; omega
      obtain ⟨ap, cp, hvpe, hcp1, hcp2⟩ := hsp.form
      subst hvpe
      gi_wp2
      gi_loopw [10, 30] (fun _ i wr => ∃ (k : Nat) (Hj : Snap) (v : Value) (acc : List (List Int)), k ≤ y.length ∧ i = .int .i64 k ∧ Hid (acc = y.take k) ∧ Ext w H wr Hd ∧ Cell Hd wr w.heap.size BB 63 v ∧ Cell Hd wr w.heap.size NB 3 (.int .i64 (N : Int)) ∧ Mine w.heap.size Hd Hj wr ∧ Hj BB = none ∧ Hj NB = none ∧ Own Hj w.heap.size wr 24 v acc ∧ (∀ g, v.ownBlock = some g → Hd g = none)) (fun _ i _ => y.length - (intOf i).toNat)
      case atStart => exact ⟨0, fun _ => none, _, [], Nat.zero_le _, rfl, rfl, hxd4, d1, d2, Mine.empty _ _ _, rfl, rfl, Own.nil _ _ _ _, fun g e => by cases e⟩
      case round =>
        clear hV4 hxd4 d1 d2
        obtain ⟨k, Hj, v, acc, hk, rfl, hacc, hxr, c1, c2, hm, n1, n2, ho, hn⟩ := hrel
        have hwr := hxr.holds
        have hcn := c2.cell
        have hfn := c2.fz
        have hcb := c1.cell
        have hfb := c1.fz
        by_cases hlk : k < y.length
        · obtain ⟨r, hrk⟩ := At.mk hlk
          obtain ⟨bp, op, cp', up, he', hup, hcp⟩ := hsp.list hrk
          cases he'
          have hr5 : r.length ≤ 1000000 := by have := isPlan_one hpl hrk; have := hv.b5; omega
          obtain ⟨av, cv, hve, hvl, hvc⟩ := ho.form
          subst hve
          have hbn := ho.type_ne c1 (by decide)
          have hnn := ho.type_ne c2 (by decide)
          gi_upto_region 11 with fail
          have hacl : acc.length ≤ 3 := by rw [hacc.out, List.length_take]; omega
          have hmix : Try.prog.follows .mixedOrders = true := by kernel_rfl
          refine wpIn_region_any hmix ?_
          change wpAnyIn _ _ _ _ _ _ _ _ _ (World.drew _)
          refine wpAnyIn_ready (rs := [0, 1]) (by kernel_rfl) (by simp) ?_
          refine AllReadyIn.cons rfl (fun K hK => ?_) ?_
          · go_simp
            refine hK _ _ ?_
            clear hK K
            refine wpAnyIn_ready (rs := [1]) (by kernel_rfl) (by simp) ?_
            refine AllReadyIn.cons rfl (fun K hK => ?_) AllReadyIn.nil
            go_simp
            refine hK _ _ ?_
            clear hK K
            refine wpAnyIn_ready (rs := [2]) (by kernel_rfl) (by simp) ?_
            refine AllReadyIn.cons rfl (fun K hK => ?_) AllReadyIn.nil
            go_simp
            gi_wp2_with (gi_at_call 95; refine (Calls.wide (cloneO_any _ _ Hd _ hwr.drew hup hr5)).mono ?_; rintro e w5 ⟨vr, H5, rfl, hx5, ho5⟩; obtain ⟨a5, c5, rfl, _, _⟩ := ho5.form)
            have hb5 : Below wr.heap.size wr w5 := ((Below.refl wr.heap.size wr).drew).trans hx5.below
            obtain ⟨Hj5, hlej5, hm5, hs5, hsame5⟩ := (hm.below hb5).row hm.holds.drew hwr.drew ho5 hxr.below.size
            have o5 := (ho.ext hm.holds ⟨hb5, hm.holds.below hb5, fun _ _ => rfl⟩).snapMono hlej5 (fun q e => (hsame5 q (ho.lt q e).2).trans (ho.free q e))
            have c15 := c1.below hb5
            have c25 := c2.below hb5
            have hxr5 := hxr.step (hb5.mono hxr.below.size) (hwr.below hb5)
            have n15 := (hsame5 BB c1.lt).trans n1
            have n25 := (hsame5 NB c2.lt).trans n2
            have hcb5 := c15.cell
            have hcb5a := (c15.alloc (.cells #[.slice a5 r.length c5] 24)).cell
            refine wpAnyIn_ready (rs := [3]) (by kernel_rfl) (by simp) ?_
            refine AllReadyIn.cons rfl (fun K hK => ?_) AllReadyIn.nil
            go_simp
            refine hK _ _ ?_
            clear hK K
            refine wpAnyIn_ready (rs := [4]) (by kernel_rfl) (by simp) ?_
            refine AllReadyIn.cons rfl (fun K hK => ?_) AllReadyIn.nil
            refine stepIn_appC (H := Hj5) (base := w.heap.size) (x := r) eList rfl _ _ rfl rfl (o5.alloc (.cells #[.slice a5 r.length c5] 24)) rfl ⟨_, rfl, hs5⟩ (one_cell (by simp [go_sem])) (hm5.holds.alloc _) (by simp [Enc.by_]; omega) (by omega) (by have := hxr5.below.size; simp; omega) ?_
            intro v6 w6 o6 hg6 hw6 hat6
            refine hK _ _ ?_
            clear hK K
            have c16 : Cell Hd w6 w.heap.size BB 63 (.slice av acc.length cv) := ⟨(hg6.block BB (by simp; have := c15.lt; omega) (Ne.symm hbn)).trans (c15.alloc _).at_, c15.free, c15.base⟩
            have c26 : Cell Hd w6 w.heap.size NB 3 (.int .i64 (N : Int)) := ⟨(hg6.block NB (by simp; have := c25.lt; omega) (Ne.symm hnn)).trans (c25.alloc _).at_, c25.free, c25.base⟩
            have hxr6 := (hxr5.alloc (.cells #[.slice a5 r.length c5] 24)).grown hg6 (fun q e => (ho.lt q e).1) hn
            have hm6 : Mine w.heap.size Hd Hj5 w6 := ⟨hw6, hm5.own⟩
            have hn6 : ∀ g, v6.ownBlock = some g → Hd g = none := fun g e => by
              rcases hat6 with h | h
              · exact hn g (h ▸ e)
              · rw [h] at e; cases e; exact (hxr5.holds.alloc _).none_of_ge (Nat.le_refl _)
            have hbn6 := o6.type_ne c16 (by decide)
            obtain ⟨a6, c6, hv6, _, _⟩ := o6.form; rw [List.length_append, List.length_singleton] at hv6; subst hv6
            have hcb6 := c16.cell
            have hfb6 := c16.fz
            refine wpAnyIn_ready (rs := [5]) (by kernel_rfl) (by simp) ?_
            refine AllReadyIn.cons rfl (fun K hK => ?_) AllReadyIn.nil
            go_simp
            refine hK _ _ ?_
            clear hK K
            refine wpAnyIn_done (by kernel_rfl) ?_ _
            gi_wp2
            go_roundw
            case rel => exact ⟨k + 1, Hj5, _, acc ++ [r], by omega, by go_num, by show _ = _; rw [hacc.out, hrk.take], hxr6.setCell (a := ⟨BB, 0, none⟩) c16.base c16.free _, c16.set _, c26.other (a := ⟨BB, 0, none⟩) hne _, hm6.setCell n15 _, n15, n25, o6.setCell hbn6 _, hn6⟩
            case measure => simp [intOf]; omega
          refine AllReadyIn.cons rfl (fun K hK => ?_) AllReadyIn.nil
          go_simp
          refine hK _ _ ?_
          clear hK K
          refine wpAnyIn_ready (rs := [0, 2]) (by kernel_rfl) (by simp) ?_
          refine AllReadyIn.cons rfl (fun K hK => ?_) ?_
          · go_simp
            refine hK _ _ ?_
            clear hK K
            refine wpAnyIn_ready (rs := [2]) (by kernel_rfl) (by simp) ?_
            refine AllReadyIn.cons rfl (fun K hK => ?_) AllReadyIn.nil
            go_simp
            gi_wp2_with (gi_at_call 95; refine (Calls.wide (cloneO_any _ _ Hd _ hwr.drew hup hr5)).mono ?_; rintro e w5 ⟨vr, H5, rfl, hx5, ho5⟩; obtain ⟨a5, c5, rfl, _, _⟩ := ho5.form)
            have hb5 : Below wr.heap.size wr w5 := ((Below.refl wr.heap.size wr).drew).trans hx5.below
            obtain ⟨Hj5, hlej5, hm5, hs5, hsame5⟩ := (hm.below hb5).row hm.holds.drew hwr.drew ho5 hxr.below.size
            have o5 := (ho.ext hm.holds ⟨hb5, hm.holds.below hb5, fun _ _ => rfl⟩).snapMono hlej5 (fun q e => (hsame5 q (ho.lt q e).2).trans (ho.free q e))
            have c15 := c1.below hb5
            have c25 := c2.below hb5
            have hxr5 := hxr.step (hb5.mono hxr.below.size) (hwr.below hb5)
            have n15 := (hsame5 BB c1.lt).trans n1
            have n25 := (hsame5 NB c2.lt).trans n2
            have hcb5 := c15.cell
            have hcb5a := (c15.alloc (.cells #[.slice a5 r.length c5] 24)).cell
            refine wpAnyIn_ready (rs := [3]) (by kernel_rfl) (by simp) ?_
            refine AllReadyIn.cons rfl (fun K hK => ?_) AllReadyIn.nil
            go_simp
            refine hK _ _ ?_
            clear hK K
            refine wpAnyIn_ready (rs := [4]) (by kernel_rfl) (by simp) ?_
            refine AllReadyIn.cons rfl (fun K hK => ?_) AllReadyIn.nil
            refine stepIn_appC (H := Hj5) (base := w.heap.size) (x := r) eList rfl _ _ rfl rfl (o5.alloc (.cells #[.slice a5 r.length c5] 24)) rfl ⟨_, rfl, hs5⟩ (one_cell (by simp [go_sem])) (hm5.holds.alloc _) (by simp [Enc.by_]; omega) (by omega) (by have := hxr5.below.size; simp; omega) ?_
            intro v6 w6 o6 hg6 hw6 hat6
            refine hK _ _ ?_
            clear hK K
            have c16 : Cell Hd w6 w.heap.size BB 63 (.slice av acc.length cv) := ⟨(hg6.block BB (by simp; have := c15.lt; omega) (Ne.symm hbn)).trans (c15.alloc _).at_, c15.free, c15.base⟩
            have c26 : Cell Hd w6 w.heap.size NB 3 (.int .i64 (N : Int)) := ⟨(hg6.block NB (by simp; have := c25.lt; omega) (Ne.symm hnn)).trans (c25.alloc _).at_, c25.free, c25.base⟩
            have hxr6 := (hxr5.alloc (.cells #[.slice a5 r.length c5] 24)).grown hg6 (fun q e => (ho.lt q e).1) hn
            have hm6 : Mine w.heap.size Hd Hj5 w6 := ⟨hw6, hm5.own⟩
            have hn6 : ∀ g, v6.ownBlock = some g → Hd g = none := fun g e => by
              rcases hat6 with h | h
              · exact hn g (h ▸ e)
              · rw [h] at e; cases e; exact (hxr5.holds.alloc _).none_of_ge (Nat.le_refl _)
            have hbn6 := o6.type_ne c16 (by decide)
            obtain ⟨a6, c6, hv6, _, _⟩ := o6.form; rw [List.length_append, List.length_singleton] at hv6; subst hv6
            have hcb6 := c16.cell
            have hfb6 := c16.fz
            refine wpAnyIn_ready (rs := [5]) (by kernel_rfl) (by simp) ?_
            refine AllReadyIn.cons rfl (fun K hK => ?_) AllReadyIn.nil
            go_simp
            refine hK _ _ ?_
            clear hK K
            refine wpAnyIn_done (by kernel_rfl) ?_ _
            gi_wp2
            go_roundw
            case rel => exact ⟨k + 1, Hj5, _, acc ++ [r], by omega, by go_num, by show _ = _; rw [hacc.out, hrk.take], hxr6.setCell (a := ⟨BB, 0, none⟩) c16.base c16.free _, c16.set _, c26.other (a := ⟨BB, 0, none⟩) hne _, hm6.setCell n15 _, n15, n25, o6.setCell hbn6 _, hn6⟩
            case measure => simp [intOf]; omega
          refine AllReadyIn.cons rfl (fun K hK => ?_) AllReadyIn.nil
          go_simp
          gi_wp2_with (gi_at_call 95; refine (Calls.wide (cloneO_any _ _ Hd _ hwr.drew hup hr5)).mono ?_; rintro e w5 ⟨vr, H5, rfl, hx5, ho5⟩; obtain ⟨a5, c5, rfl, _, _⟩ := ho5.form)
          have hb5 : Below wr.heap.size wr w5 := ((Below.refl wr.heap.size wr).drew).trans hx5.below
          obtain ⟨Hj5, hlej5, hm5, hs5, hsame5⟩ := (hm.below hb5).row hm.holds.drew hwr.drew ho5 hxr.below.size
          have o5 := (ho.ext hm.holds ⟨hb5, hm.holds.below hb5, fun _ _ => rfl⟩).snapMono hlej5 (fun q e => (hsame5 q (ho.lt q e).2).trans (ho.free q e))
          have c15 := c1.below hb5
          have c25 := c2.below hb5
          have hxr5 := hxr.step (hb5.mono hxr.below.size) (hwr.below hb5)
          have n15 := (hsame5 BB c1.lt).trans n1
          have n25 := (hsame5 NB c2.lt).trans n2
          have hcb5 := c15.cell
          have hcb5a := (c15.alloc (.cells #[.slice a5 r.length c5] 24)).cell
          refine wpAnyIn_ready (rs := [0, 3]) (by kernel_rfl) (by simp) ?_
          refine AllReadyIn.cons rfl (fun K hK => ?_) ?_
          · go_simp
            refine hK _ _ ?_
            clear hK K
            refine wpAnyIn_ready (rs := [3]) (by kernel_rfl) (by simp) ?_
            refine AllReadyIn.cons rfl (fun K hK => ?_) AllReadyIn.nil
            go_simp
            refine hK _ _ ?_
            clear hK K
            refine wpAnyIn_ready (rs := [4]) (by kernel_rfl) (by simp) ?_
            refine AllReadyIn.cons rfl (fun K hK => ?_) AllReadyIn.nil
            refine stepIn_appC (H := Hj5) (base := w.heap.size) (x := r) eList rfl _ _ rfl rfl (o5.alloc (.cells #[.slice a5 r.length c5] 24)) rfl ⟨_, rfl, hs5⟩ (one_cell (by simp [go_sem])) (hm5.holds.alloc _) (by simp [Enc.by_]; omega) (by omega) (by have := hxr5.below.size; simp; omega) ?_
            intro v6 w6 o6 hg6 hw6 hat6
            refine hK _ _ ?_
            clear hK K
            have c16 : Cell Hd w6 w.heap.size BB 63 (.slice av acc.length cv) := ⟨(hg6.block BB (by simp; have := c15.lt; omega) (Ne.symm hbn)).trans (c15.alloc _).at_, c15.free, c15.base⟩
            have c26 : Cell Hd w6 w.heap.size NB 3 (.int .i64 (N : Int)) := ⟨(hg6.block NB (by simp; have := c25.lt; omega) (Ne.symm hnn)).trans (c25.alloc _).at_, c25.free, c25.base⟩
            have hxr6 := (hxr5.alloc (.cells #[.slice a5 r.length c5] 24)).grown hg6 (fun q e => (ho.lt q e).1) hn
            have hm6 : Mine w.heap.size Hd Hj5 w6 := ⟨hw6, hm5.own⟩
            have hn6 : ∀ g, v6.ownBlock = some g → Hd g = none := fun g e => by
              rcases hat6 with h | h
              · exact hn g (h ▸ e)
              · rw [h] at e; cases e; exact (hxr5.holds.alloc _).none_of_ge (Nat.le_refl _)
            have hbn6 := o6.type_ne c16 (by decide)
            obtain ⟨a6, c6, hv6, _, _⟩ := o6.form; rw [List.length_append, List.length_singleton] at hv6; subst hv6
            have hcb6 := c16.cell
            have hfb6 := c16.fz
            refine wpAnyIn_ready (rs := [5]) (by kernel_rfl) (by simp) ?_
            refine AllReadyIn.cons rfl (fun K hK => ?_) AllReadyIn.nil
            go_simp
            refine hK _ _ ?_
            clear hK K
            refine wpAnyIn_done (by kernel_rfl) ?_ _
            gi_wp2
            go_roundw
            case rel => exact ⟨k + 1, Hj5, _, acc ++ [r], by omega, by go_num, by show _ = _; rw [hacc.out, hrk.take], hxr6.setCell (a := ⟨BB, 0, none⟩) c16.base c16.free _, c16.set _, c26.other (a := ⟨BB, 0, none⟩) hne _, hm6.setCell n15 _, n15, n25, o6.setCell hbn6 _, hn6⟩
            case measure => simp [intOf]; omega
          refine AllReadyIn.cons rfl (fun K hK => ?_) AllReadyIn.nil
          go_simp
          refine hK _ _ ?_
          clear hK K
          refine wpAnyIn_ready (rs := [0]) (by kernel_rfl) (by simp) ?_
          refine AllReadyIn.cons rfl (fun K hK => ?_) AllReadyIn.nil
          go_simp
          refine hK _ _ ?_
          clear hK K
          refine wpAnyIn_ready (rs := [4]) (by kernel_rfl) (by simp) ?_
          refine AllReadyIn.cons rfl (fun K hK => ?_) AllReadyIn.nil
          refine stepIn_appC (H := Hj5) (base := w.heap.size) (x := r) eList rfl _ _ rfl rfl (o5.alloc (.cells #[.slice a5 r.length c5] 24)) rfl ⟨_, rfl, hs5⟩ (one_cell (by simp [go_sem])) (hm5.holds.alloc _) (by simp [Enc.by_]; omega) (by omega) (by have := hxr5.below.size; simp; omega) ?_
          intro v6 w6 o6 hg6 hw6 hat6
          refine hK _ _ ?_
          clear hK K
          have c16 : Cell Hd w6 w.heap.size BB 63 (.slice av acc.length cv) := ⟨(hg6.block BB (by simp; have := c15.lt; omega) (Ne.symm hbn)).trans (c15.alloc _).at_, c15.free, c15.base⟩
          have c26 : Cell Hd w6 w.heap.size NB 3 (.int .i64 (N : Int)) := ⟨(hg6.block NB (by simp; have := c25.lt; omega) (Ne.symm hnn)).trans (c25.alloc _).at_, c25.free, c25.base⟩
          have hxr6 := (hxr5.alloc (.cells #[.slice a5 r.length c5] 24)).grown hg6 (fun q e => (ho.lt q e).1) hn
          have hm6 : Mine w.heap.size Hd Hj5 w6 := ⟨hw6, hm5.own⟩
          have hn6 : ∀ g, v6.ownBlock = some g → Hd g = none := fun g e => by
            rcases hat6 with h | h
            · exact hn g (h ▸ e)
            · rw [h] at e; cases e; exact (hxr5.holds.alloc _).none_of_ge (Nat.le_refl _)
          have hbn6 := o6.type_ne c16 (by decide)
          obtain ⟨a6, c6, hv6, _, _⟩ := o6.form; rw [List.length_append, List.length_singleton] at hv6; subst hv6
          have hcb6 := c16.cell
          have hfb6 := c16.fz
          refine wpAnyIn_ready (rs := [5]) (by kernel_rfl) (by simp) ?_
          refine AllReadyIn.cons rfl (fun K hK => ?_) AllReadyIn.nil
          go_simp
          refine hK _ _ ?_
          clear hK K
          refine wpAnyIn_done (by kernel_rfl) ?_ _
          gi_wp2
          go_roundw
          case rel => exact ⟨k + 1, Hj5, _, acc ++ [r], by omega, by go_num, by show _ = _; rw [hacc.out, hrk.take], hxr6.setCell (a := ⟨BB, 0, none⟩) c16.base c16.free _, c16.set _, c26.other (a := ⟨BB, 0, none⟩) hne _, hm6.setCell n15 _, n15, n25, o6.setCell hbn6 _, hn6⟩
          case measure => simp [intOf]; omega
        · have hky : acc = y := by rw [hacc.out, take_all (xs := y) (k := k) (by omega)]
          subst hky
          cases hN0 : ((N : Int) == 0)
          · have hNp : 0 < N := by have : ¬ (N : Int) = 0 := by simpa using hN0
                                   omega
            gi_wp2
            exact ⟨hwr, hxr, acc, (N : Int), ⟨Hj, v, c1, c2, hm, n1, n2, ho, hn⟩, hstepS, by omega, by omega⟩
          · have hNz : (N : Int) = 0 := by simpa using hN0
            rw [hNz] at hstepS c2
            replace hNz := Lib.hid hNz
            gi_wp2
            exact ⟨hwr, ⟨rfl, hxr⟩, acc, ⟨Hj, v, c1, c2, hm, n1, n2, ho, hn⟩, hstepS⟩
  case done =>
    rintro D Hc W hD hWc hlec hDc ⟨hxc, b, n, hbs, hspec, hn0, hn5⟩
    obtain ⟨rfl, rfl⟩ : b = bestOf h stop ∧ n = (lateN h (bestOf h stop) : Nat) := by
      rcases hspec with ⟨e, _⟩ | ⟨_, e1, e2⟩
      · have := plansOf_ne hv stop; rw [e] at this; simp at this
      · rw [e1] at e2 ⊢; exact ⟨rfl, e2⟩
    obtain ⟨Hj, v, c1, c2, hm, n1, n2, ho, hn⟩ := hbs
    have hDW := hWc.at_ _ _ hDc
    have hBD : BB ≠ D := by rintro rfl; rw [c1.at_] at hDW; cases hDW
    have hND : NB ≠ D := by rintro rfl; rw [c2.at_] at hDW; cases hDW
    obtain ⟨av, cv, hve, hvl, hvc⟩ := ho.form
    subst hve
    have hbn := ho.type_ne c1 (by decide)
    have hnn := ho.type_ne c2 (by decide)
    have hcb := c1.cell
    have hfb := c1.fz
    have hcn := c2.cell
    have hfn := c2.fz
    have hx03s := hx03.below.size
    have hDlt := (Array.getElem?_eq_some_iff.1 hDW).1
    go_wp2_with fail
    go_region
    all_goals
      go_wp2_with fail
      have f1 := ((c1.set (.slice av (bestOf h stop).length cv)).other (a := ⟨NB, 0, none⟩) (Ne.symm hne) (.int .i64 (lateN h (bestOf h stop) : Nat))).drew
      have f2 := ((c2.other (a := ⟨BB, 0, none⟩) hne (.slice av (bestOf h stop).length cv)).set (.int .i64 (lateN h (bestOf h stop) : Nat))).drew
      have fo : Own Hj w.heap.size ((W.setCell ⟨BB, 0, none⟩ (.slice av (bestOf h stop).length cv)).setCell ⟨NB, 0, none⟩ (.int .i64 (lateN h (bestOf h stop) : Nat))).drew 24 (.slice av (bestOf h stop).length cv) (bestOf h stop) := ((ho.setCell (a := ⟨BB, 0, none⟩) hbn _).setCell (a := ⟨NB, 0, none⟩) hnn _).drew
      have fm : Mine w.heap.size Hc Hj ((W.setCell ⟨BB, 0, none⟩ (.slice av (bestOf h stop).length cv)).setCell ⟨NB, 0, none⟩ (.int .i64 (lateN h (bestOf h stop) : Nat))).drew := ⟨((hm.holds.setCell (a := ⟨BB, 0, none⟩) n1 _).setCell (a := ⟨NB, 0, none⟩) n2 _).drew, hm.own⟩
      have fb : Below w.heap.size w ((W.setCell ⟨BB, 0, none⟩ (.slice av (bestOf h stop).length cv)).setCell ⟨NB, 0, none⟩ (.int .i64 (lateN h (bestOf h stop) : Nat))).drew := ((hxc.below.setCell (p := ⟨BB, 0, none⟩) c1.base _).setCell (p := ⟨NB, 0, none⟩) c2.base _).drew
      have fD : ((W.setCell ⟨BB, 0, none⟩ (.slice av (bestOf h stop).length cv)).setCell ⟨NB, 0, none⟩ (.int .i64 (lateN h (bestOf h stop) : Nat))).drew.heap[D]? = some (.deferred (some [])) := (Below.heap_setCell _ _ _ _ (Ne.symm hND)).trans ((Below.heap_setCell _ _ _ _ (Ne.symm hBD)).trans hDW)
      refine leavesM fD (results_cell2 rfl _ _ BB NB _ _ rfl rfl (f1.putD hBD).cell (f2.putD hND).cell (by kernel_rfl) (by kernel_rfl)) ?_
      obtain ⟨H', hx', hs'⟩ := Mine.finish hw0.out (below_putD (o := .deferred none) fb (by omega) (Array.getElem?_eq_some_iff.1 fD).1) (fm.putD fD rfl) (fo.putD (o' := .deferred none) fD rfl)
      exact ⟨_, H', rfl, hx', _, rfl, hs'⟩
  case stop =>
    rintro D c Hc pre W hD hWc hlec hDc hpre ⟨⟨rfl, hxc⟩, b, hbs, hspec⟩
    obtain ⟨rfl, hz⟩ : b = bestOf h stop ∧ (0 : Int) = (lateN h (bestOf h stop) : Nat) := by
      rcases hspec with ⟨_, _, e⟩ | ⟨hne2, e1, e2⟩
      · omega
      · have hstp := firstBest_stop (f := lateN h) hpre hne2 (by rw [e1] at e2; omega)
        have : b = bestOf h stop := by rw [e1, bestOf, hstp]
        exact ⟨this, by rw [← this]; exact e2⟩
    rw [hz] at hbs
    replace hz := Lib.hid hz
    obtain ⟨Hj, v, c1, c2, hm, n1, n2, ho, hn⟩ := hbs
    have hDW := hWc.at_ _ _ hDc
    have hBD : BB ≠ D := by rintro rfl; rw [c1.at_] at hDW; cases hDW
    have hND : NB ≠ D := by rintro rfl; rw [c2.at_] at hDW; cases hDW
    obtain ⟨av, cv, hve, hvl, hvc⟩ := ho.form
    subst hve
    have hbn := ho.type_ne c1 (by decide)
    have hnn := ho.type_ne c2 (by decide)
    have hcb := c1.cell
    have hfb := c1.fz
    have hcn := c2.cell
    have hfn := c2.fz
    have hx03s := hx03.below.size
    have hDlt := (Array.getElem?_eq_some_iff.1 hDW).1
    gi_wp2
    go_wp2_with fail
    go_region
    all_goals
      go_wp2_with fail
      have f1 := ((c1.set (.slice av (bestOf h stop).length cv)).other (a := ⟨NB, 0, none⟩) (Ne.symm hne) (.int .i64 (lateN h (bestOf h stop) : Nat))).drew
      have f2 := ((c2.other (a := ⟨BB, 0, none⟩) hne (.slice av (bestOf h stop).length cv)).set (.int .i64 (lateN h (bestOf h stop) : Nat))).drew
      have fo : Own Hj w.heap.size ((W.setCell ⟨BB, 0, none⟩ (.slice av (bestOf h stop).length cv)).setCell ⟨NB, 0, none⟩ (.int .i64 (lateN h (bestOf h stop) : Nat))).drew 24 (.slice av (bestOf h stop).length cv) (bestOf h stop) := ((ho.setCell (a := ⟨BB, 0, none⟩) hbn _).setCell (a := ⟨NB, 0, none⟩) hnn _).drew
      have fm : Mine w.heap.size Hc Hj ((W.setCell ⟨BB, 0, none⟩ (.slice av (bestOf h stop).length cv)).setCell ⟨NB, 0, none⟩ (.int .i64 (lateN h (bestOf h stop) : Nat))).drew := ⟨((hm.holds.setCell (a := ⟨BB, 0, none⟩) n1 _).setCell (a := ⟨NB, 0, none⟩) n2 _).drew, hm.own⟩
      have fb : Below w.heap.size w ((W.setCell ⟨BB, 0, none⟩ (.slice av (bestOf h stop).length cv)).setCell ⟨NB, 0, none⟩ (.int .i64 (lateN h (bestOf h stop) : Nat))).drew := ((hxc.below.setCell (p := ⟨BB, 0, none⟩) c1.base _).setCell (p := ⟨NB, 0, none⟩) c2.base _).drew
      have fD : ((W.setCell ⟨BB, 0, none⟩ (.slice av (bestOf h stop).length cv)).setCell ⟨NB, 0, none⟩ (.int .i64 (lateN h (bestOf h stop) : Nat))).drew.heap[D]? = some (.deferred (some [])) := (Below.heap_setCell _ _ _ _ (Ne.symm hND)).trans ((Below.heap_setCell _ _ _ _ (Ne.symm hBD)).trans hDW)
      refine leavesM fD (results_cell2 rfl _ _ BB NB _ _ rfl rfl (f1.putD hBD).cell (f2.putD hND).cell (by kernel_rfl) (by kernel_rfl)) ?_
      obtain ⟨H', hx', hs'⟩ := Mine.finish hw0.out (below_putD (o := .deferred none) fb (by omega) (Array.getElem?_eq_some_iff.1 fD).1) (fm.putD fD rfl) (fo.putD (o' := .deferred none) fD rfl)
      exact ⟨_, H', rfl, hx', _, rfl, hs'⟩

end Go.Proofs.Yteijmboophnmgaa
