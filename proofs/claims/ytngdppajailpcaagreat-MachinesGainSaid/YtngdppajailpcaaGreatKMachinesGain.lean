/- Proved here: MachinesGainSaid: the law MachinesGain returns true for every hall and any two numbers, and the hall reads afterwards as it did. Conditions: none beyond those of the given statement. -/
import Derived.Test.YtngdppajailpcaaGreatG24
import Derived.Test.YtngdppajailpcaaGreatG25
import Derived.Test.YtngdppajailpcaaGreatG26
import Derived.Test.YtngdppajailpcaaGreatRows
import Derived.ProofKit

set_option linter.all false

namespace Go.Proofs.YtngdppajailpcaaGreat
open Go.RowKit

attribute [local go_sem] Holds.drew Holds.alloc Holds.drewN WB.holds Oper.semAt_some FW_fn FW_dep FW_round

set_option maxRecDepth 100000 in
set_option maxHeartbeats 8000000 in
theorem machinesGain_any (vm vb vt vo ve : Value) (h : Hall) (one other : Int) (H : Snap) (w : World) (hw : Holds H w) (hh : Hal H vm vb vt vo ve h) (hi1 : I64 one) (hi2 : I64 other) : Calls Tryz.prog 3 #[halV vm vb vt vo ve h, .int .i64 one, .int .i64 other] w (PostV w (.bool true)) := by
  cases g1 : far9 h
  rotate_left
  · go_enter Tryz.func3, Tryz.ntmps3
    go_wp2_with (first
      | (have hgd := x2; clear hgd; go_at_call 9; refine (works9_any H1 _ x2.holds).mono ?_; rintro e w3 ⟨rfl, hb3⟩; have x3 := x2.step (hb3.mono x2.below.size) (x2.holds.below hb3); have hw3 := x3.holds)
      | (have hgd := x1; clear hgd; go_at_call 8; refine (far9_any _ _ _ _ _ _ H1 _ x1.holds (hh.mono hle)).mono ?_; rintro e w2 ⟨rfl, hb2⟩; rw [g1]; have x2 := x1.step (hb2.mono x1.below.size) (x1.holds.below hb2); have hw2 := x2.holds)
      | (have hgd := hw; clear hgd; refine wpList_boxF rfl _ rfl (Ext.refl hw) ?_; intro B w1 H1 hle hx hB hBw; obtain ⟨hc0, hc1, hc2, hc3, hc4, hc5⟩ := cellsHal hB; clear hB hw; have hw1 := hx.holds; have x1 := hx))
    go_ret
    exact ⟨rfl, x3.below⟩
  · have g0 : huge9 h = false := by
      unfold far9 at g1
      rw [Bool.or_eq_false_iff] at g1; exact g1.1
    obtain ⟨hsz, hs2⟩ := far_small g0
    have c1 := fun (a b c d e : Value) (S : Snap) (W : World) (hW : Holds S W) hh => gainM_any a b c d e h one other hi1 hi2 S W hW hh
    have c2 := fun (S : Snap) (W : World) (hW : Holds S W) hh => gain9_any vm vb vt vo ve h one other hi1 hi2 S W hW hh
    generalize gainA h one other = G at *
    generalize gainE h one other = E at *
    replace c1 := Lib.hid c1
    replace c2 := Lib.hid c2
    clear g0
    go_enter Tryz.func3, Tryz.ntmps3
    go_upto_region 4 with (first
      | (have hgd := x2; clear hgd; go_at_call 10; refine (copy9_any _ _ _ _ _ h H1 _ x2.holds (hh.mono hle) hsz hs2).mono ?_; rintro e w5 ⟨um, ub, ut, uo, ue, H5, rfl, x5, K⟩; obtain ⟨aM, cM, rfl, _, _⟩ := K.m.form; obtain ⟨aB, cB, rfl, _, _⟩ := K.b.form; obtain ⟨aT, cT, rfl, _, _⟩ := K.t.form; obtain ⟨aO, cO, rfl, _, _⟩ := K.o.form; obtain ⟨aE, cE, rfl, _, _⟩ := K.e.form)
      | (have hgd := x1; clear hgd; go_at_call 8; refine (far9_any _ _ _ _ _ _ H1 _ x1.holds (hh.mono hle)).mono ?_; rintro e w2 ⟨rfl, hb2⟩; rw [g1]; have x2 := x1.step (hb2.mono x1.below.size) (x1.holds.below hb2); have hw2 := x2.holds)
      | (have hgd := hw; clear hgd; refine wpList_boxF rfl _ rfl (Ext.refl hw) ?_; intro B w1 H1 hle hx hB hBw; obtain ⟨hc0, hc1, hc2, hc3, hc4, hc5⟩ := cellsHal hB; clear hB hw; have hw1 := hx.holds; have x1 := hx))
    have l5 := x5.le x2.holds
    have hb6 := KBox.make K x5.holds x5.below.size
    have x6 := (x2.trans x5).alloc (.cells #[.slice aM h.hs.ms.length cM, .slice aB h.hs.bs.length cB, .slice aT h.hs.ts.length cT, .int .i64 h.hs.ch, .slice aO h.bo.length cO, .slice aE h.ed.length cE] 29)
    have hwb : w.heap.size ≤ w2.heap.size := x2.below.size
    generalize w5.alloc (.cells #[.slice aM h.hs.ms.length cM, .slice aB h.hs.bs.length cB, .slice aT h.hs.ts.length cT, .int .i64 h.hs.ch, .slice aO h.bo.length cO, .slice aE h.ed.length cE] 29) = w6 at *
    generalize w5.heap.size = C at *
    clear K
    obtain ⟨H7, x7, l7, hho, hC7⟩ := (hb6.weaken hwb).closeC x6
    obtain ⟨hd0, hd1, hd2, hd3, hd4, hd5⟩ := cellsHal (h := h) hC7
    have l17 := l5.trans l7
    have hh7 := (hh.mono hle).mono l17
    have hw7 := x7.holds
    clear hb6 x6 x5 x1 hx x2 hw1 hw2 l5 l7 hC7
    replace hc0 := lift l17 hc0
    replace hc1 := lift l17 hc1
    replace hc2 := lift l17 hc2
    replace hc3 := lift l17 hc3
    replace hc4 := lift l17 hc4
    replace hc5 := lift l17 hc5
    go_wp2_with (first
      | (have hgd := x10; clear hgd; go_at_call 9; refine (works9_any H7 _ x10.holds).mono ?_; rintro e w11 ⟨rfl, hb11⟩; have x11 := x10.step (hb11.mono x10.below.size) (x10.holds.below hb11); have hw11 := x11.holds)
      | (have hgd := x9; clear hgd; go_at_call 13; refine (same9_any _ _ _ _ _ _ _ _ _ _ h H7 _ x9.holds hho hh7).mono ?_; rintro e w10 ⟨rfl, hb10⟩; have x10 := x9.step (hb10.mono x9.below.size) (x9.holds.below hb10); have hw10 := x10.holds)
      | (have hgd := x8; clear hgd; go_at_call 12; refine (c2.out H7 _ x8.holds hh7).mono ?_; rintro e w9 ⟨rfl, hb9⟩; have x9 := x8.step (hb9.mono x8.below.size) (x8.holds.below hb9); have hw9 := x9.holds)
      | (have hgd := x7; clear hgd; go_at_call 11; refine (c1.out _ _ _ _ _ H7 _ x7.holds hho).mono ?_; rintro e w8 ⟨rfl, hb8⟩; have x8 := x7.step (hb8.mono x7.below.size) (x7.holds.below hb8); have hw8 := x8.holds))
    go_ret
    exact ⟨rfl, x11.below⟩

end Go.Proofs.YtngdppajailpcaaGreat

namespace Go.Proofs.YtngdppajailpcaaGreat
open Go.ChangeShapes Go.WideShapes Go.ChangeAt Go.RowKit

theorem machinesGain_own : ownKnob Tryz.prog.godebug = none := by kernel_rfl
theorem machinesGain_laid : laidOutB Tryz.prog = true := by kernel_rfl

set_option maxHeartbeats 1600000 in
set_option maxRecDepth 100000 in
theorem machinesGain_lifted (os : Os) (started : os.Started) (H : Type) (enc : TypeId × Value → H) :
    ReturnsInHanded {} Tryz.checked os 3 .any (Rows.machinesGainSpec.pre6 enc Tryz.prog Tryz.f3 Rows.machinesGainRow.domain false) (Rows.machinesGainSpec.post enc Tryz.prog Tryz.f3 false true false false) := by
  refine returnsInHanded_of_change_sized (C := Tryz.checked) machinesGain_own started (by kernel_rfl) Tryz.func3
    (ChangeSpec.witness6 (enc := enc) (C := Tryz.checked) false ⟨#[], #[.agg #[.slice none 0 0, .slice none 0 0, .slice none 0 0, .int .i64 0, .slice none 0 0, .slice none 0 0], .int .i64 0, .int .i64 0], []⟩ 8 (by kernel_rfl) (by kernel_rfl) (by kernel_rfl) (by kernel_rfl)) ?_
  intro W base args ds gs before hval0 hW _ hsz _
  have hval : ∀ (j : Nat) t v, Tryz.f3.params[j]? = some t → args[j]? = some v → Value.okWide Tryz.prog W .any base t v := hval0
  have hW' := hW
  obtain ⟨p, q, hA0, hV, rfl, _, _⟩ := hW
  have hA : DataW.TrodAll enc Tryz.prog W 0 (fun _ => true) true Tryz.f3.params.toList args.toList ds p := hA0
  have hS : (DataW.weightsEach Tryz.prog (Tryz.f3.params.toList ++ []) (ds ++ gs)).all (· ≤ reachBytes) = true := hsz
  rw [Tryz.params3] at hA hval hS
  obtain ⟨v0, vs0, d0, ds0, p0, q0, hargs, rfl, rfl, h0, r0⟩ := trodAll_cons hA
  obtain ⟨v1, vs1, d1, ds1, p1, q1, rfl, rfl, rfl, h1, r1⟩ := trodAll_cons r0
  obtain ⟨v2, vs2, d2, ds2, p2, q2, rfl, rfl, rfl, h2, r2⟩ := trodAll_cons r1
  obtain ⟨rfl, rfl, rfl⟩ := trodAll_nil r2
  obtain rfl : args = #[v0, v1, v2] := by cases args; simp_all
  obtain ⟨rfl, rfl⟩ := trodVars_none hV
  clear hA0 hval0 hsz
  simp only [List.append_nil] at hW' hS
  have hlt : ∀ x ∈ p0 ++ (p1 ++ p2), x.block < W.heap.size := fun x hx => by simpa using hW'.lt x hx
  have harg0 : ∀ W', Below W.heap.size W W' → DataW.Trod enc Tryz.prog W' 0 (fun b => decide (b < W.heap.size)) true 29 v0 d0 p0 := fun W' hb =>
    Below.trod machinesGain_laid (by kernel_rfl) (of_decide_eq_true (by kernel_rfl)) h0 hb (fun x hx => hlt x (List.mem_append.2 (.inl hx)))
  have hw0 : ∀ k ∈ d0.weights Tryz.prog 29, k ≤ reachBytes := fun k hk => by
    simpa using List.all_eq_true.1 hS k (DataW.weights_mem_each (j := 0) rfl rfl k hk)
  obtain ⟨vm, vb, vt, vo, ve, hs, rfl, hh⟩ := hall_opened (hval 0 29 v0 rfl rfl) h0 hw0
  obtain ⟨z1, rfl, rfl, rfl, wz1⟩ := open_int Tryz.underlying3 (hval 1 3 v1 rfl rfl) h1
  have hz1 := i64_of_wf wz1
  obtain ⟨z2, rfl, rfl, rfl, wz2⟩ := open_int Tryz.underlying3 (hval 2 3 v2 rfl rfl) h2
  have hz2 := i64_of_wf wz2
  refine (machinesGain_any vm vb vt vo ve hs z1 z2 (snapOf W) W (snapOf_holds W) hh hz1 hz2).mono fun e W' ⟨he, hb⟩ => ?_
  subst he
  refine ⟨_, rfl, _, _, _, [], _, [], hW', ?_, trodAll_cons_mk (harg0 W' hb) (trodAll_cons_mk (shut_int Tryz.underlying3 wz1) (trodAll_cons_mk (shut_int Tryz.underlying3 wz2) trodAll_mk0)), rfl, hb.frame _, fun h => by cases h⟩
  exact trodAll_mk1 (shut_bool Tryz.underlying4 _)

theorem machinesGain_said : Rows.MachinesGainSaid :=
  OpenClaim.holds_of_wide 3 Tryz.f3 rfl rfl rfl rfl rfl rfl rfl ⟨rfl, rfl, rfl, rfl, rfl⟩ rfl rfl rfl rfl rfl (by kernel_rfl) Tryz.func3 (by kernel_rfl)
    (of_decide_eq_true (by kernel_rfl)) (by unfold Func.isWrapper; first | (rw [if_pos (by decide +kernel)]; kernel_rfl) | (rw [if_neg (by decide +kernel)]; exact ⟨rfl, rfl⟩))
    (fun os started H enc _ => machinesGain_lifted os started H enc)

end Go.Proofs.YtngdppajailpcaaGreat
