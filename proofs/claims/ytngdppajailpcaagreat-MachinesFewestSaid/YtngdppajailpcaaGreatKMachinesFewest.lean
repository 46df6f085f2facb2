/- Proved here: MachinesFewestSaid: the law MachinesFewest returns true for every hall, and the hall reads afterwards as it did. Conditions: none beyond those of the given statement. -/
import Derived.Test.YtngdppajailpcaaGreatG24
import Derived.Test.YtngdppajailpcaaGreatG25
import Derived.Test.YtngdppajailpcaaGreatG26
import Derived.Test.YtngdppajailpcaaGreatRows
import Derived.ProofKit

set_option linter.all false

namespace Go.Proofs.YtngdppajailpcaaGreat
open Go.RowKit

attribute [local go_sem] Holds.drew Holds.alloc Holds.drewN WB.holds Oper.semAt_some FW_fn FW_dep FW_round

set_option maxRecDepth 100000 in
set_option maxHeartbeats 8000000 in
theorem machinesFewest_any (vm vb vt vo ve : Value) (h : Hall) (H : Snap) (w : World) (hw : Holds H w) (hh : Hal H vm vb vt vo ve h) : Calls Tryz.prog 4 #[halV vm vb vt vo ve h] w (PostV w (.bool true)) := by
  cases g1 : far9 h
  rotate_left
  · go_enter Tryz.func4, Tryz.ntmps4
    go_wp2_with (first
      | (have hgd := x2; clear hgd; go_at_call 9; refine (works9_any H1 _ x2.holds).mono ?_; rintro e w3 ⟨rfl, hb3⟩; have x3 := x2.step (hb3.mono x2.below.size) (x2.holds.below hb3); have hw3 := x3.holds)
      | (have hgd := x1; clear hgd; go_at_call 8; refine (far9_any _ _ _ _ _ _ H1 _ x1.holds (hh.mono hle)).mono ?_; rintro e w2 ⟨rfl, hb2⟩; rw [g1]; have x2 := x1.step (hb2.mono x1.below.size) (x1.holds.below hb2); have hw2 := x2.holds)
      | (have hgd := hw; clear hgd; refine wpList_boxF rfl _ rfl (Ext.refl hw) ?_; intro B w1 H1 hle hx hB hBw; obtain ⟨hc0, hc1, hc2, hc3, hc4, hc5⟩ := cellsHal hB; clear hB hw; have hw1 := hx.holds; have x1 := hx))
    go_ret
    exact ⟨rfl, x3.below⟩
  · have g0 : huge9 h = false := by
      unfold far9 at g1
      rw [Bool.or_eq_false_iff] at g1; exact g1.1
    obtain ⟨hsz, hs2⟩ := far_small g0
    have c1 := fun (a b c d e : Value) (S : Snap) (W : World) (hW : Holds S W) hh => fewestM_any a b c d e h S W hW hh
    have c2 := fun (S : Snap) (W : World) (hW : Holds S W) hh => fewest9_any vm vb vt vo ve h S W hW hh
    have c3 := fun (a b c d e : Value) (S : Snap) (W : World) (hW : Holds S W) hh => setM_any a b c d e h S W hW hh
    have c4 := fun (S : Snap) (W : World) (hW : Holds S W) hh => set9_any vm vb vt vo ve h S W hW hh
    have c5 := fun (a b c d e : Value) (S : Snap) (W : World) (hW : Holds S W) hh => calmM_any a b c d e h S W hW hh
    have c6 := fun (S : Snap) (W : World) (hW : Holds S W) hh => calm9_any vm vb vt vo ve h S W hW hh
    generalize fewestA h = G at *
    generalize errF h = E at *
    generalize setA h = ST at *
    generalize calmA h = CA at *
    generalize calmE h = CE at *
    replace c1 := Lib.hid c1
    replace c2 := Lib.hid c2
    replace c3 := Lib.hid c3
    replace c4 := Lib.hid c4
    replace c5 := Lib.hid c5
    replace c6 := Lib.hid c6
    clear g0
    go_enter Tryz.func4, Tryz.ntmps4
    go_upto_region 4 with (first
      | (have hgd := x2; clear hgd; go_at_call 10; refine (copy9_any _ _ _ _ _ h H1 _ x2.holds (hh.mono hle) hsz hs2).mono ?_; rintro e w5 ⟨um, ub, ut, uo, ue, H5, rfl, x5, K⟩; obtain ⟨aM, cM, rfl, _, _⟩ := K.m.form; obtain ⟨aB, cB, rfl, _, _⟩ := K.b.form; obtain ⟨aT, cT, rfl, _, _⟩ := K.t.form; obtain ⟨aO, cO, rfl, _, _⟩ := K.o.form; obtain ⟨aE, cE, rfl, _, _⟩ := K.e.form)
      | (have hgd := x1; clear hgd; go_at_call 8; refine (far9_any _ _ _ _ _ _ H1 _ x1.holds (hh.mono hle)).mono ?_; rintro e w2 ⟨rfl, hb2⟩; rw [g1]; have x2 := x1.step (hb2.mono x1.below.size) (x1.holds.below hb2); have hw2 := x2.holds)
      | (have hgd := hw; clear hgd; refine wpList_boxF rfl _ rfl (Ext.refl hw) ?_; intro B w1 H1 hle hx hB hBw; obtain ⟨hc0, hc1, hc2, hc3, hc4, hc5⟩ := cellsHal hB; clear hB hw; have hw1 := hx.holds; have x1 := hx))
    have l5 := x5.le x2.holds
    have hb6 := KBox.make K x5.holds x5.below.size
    have x6 := (x2.trans x5).alloc (.cells #[.slice aM h.hs.ms.length cM, .slice aB h.hs.bs.length cB, .slice aT h.hs.ts.length cT, .int .i64 h.hs.ch, .slice aO h.bo.length cO, .slice aE h.ed.length cE] 29)
    have hwb : w.heap.size ≤ w2.heap.size := x2.below.size
    generalize w5.alloc (.cells #[.slice aM h.hs.ms.length cM, .slice aB h.hs.bs.length cB, .slice aT h.hs.ts.length cT, .int .i64 h.hs.ch, .slice aO h.bo.length cO, .slice aE h.ed.length cE] 29) = w6 at *
    generalize w5.heap.size = C at *
    clear K
    obtain ⟨H7, x7, l7, hho, hC7⟩ := (hb6.weaken hwb).closeC x6
    obtain ⟨hd0, hd1, hd2, hd3, hd4, hd5⟩ := cellsHal (h := h) hC7
    have l17 := l5.trans l7
    have hh7 := (hh.mono hle).mono l17
    have hw7 := x7.holds
    clear hb6 x6 x5 x1 hx x2 hw1 hw2 l5 l7 hC7
    replace hc0 := lift l17 hc0
    replace hc1 := lift l17 hc1
    replace hc2 := lift l17 hc2
    replace hc3 := lift l17 hc3
    replace hc4 := lift l17 hc4
    replace hc5 := lift l17 hc5
    go_upto_region 10 with (first
      | (have hgd := x11; clear hgd; go_at_call 18; refine (sameSets_any _ _ ST H11 _ x11.holds s10 s11).mono ?_; rintro e w12 ⟨rfl, hb12⟩; have x12 := x11.step (hb12.mono x11.below.size) (x11.holds.below hb12); have hw12 := x12.holds)
      | (have hgd := x10; clear hgd; go_at_call 17; refine (c4.out H10 _ x10.holds (hh7.mono l10)).mono ?_; rintro e w11 ⟨v11, H11, rfl, y11, u11, rfl, s11⟩; obtain ⟨a11, c11, rfl, _, _⟩ := s11.form; have x11 := x10.trans y11; have l11 := y11.le x10.holds; have hw11 := x11.holds; replace hd0 := lift l11 hd0; replace hc0 := lift l11 hc0; replace hd1 := lift l11 hd1; replace hc1 := lift l11 hc1; replace hd2 := lift l11 hd2; replace hc2 := lift l11 hc2; replace hd3 := lift l11 hd3; replace hc3 := lift l11 hc3; replace hd4 := lift l11 hd4; replace hc4 := lift l11 hc4; replace hd5 := lift l11 hd5; replace hc5 := lift l11 hc5; replace s10 := s10.mono l11; have hhoZ := (hho.mono l10).mono l11; have hhZ := (hh7.mono l10).mono l11)
      | (have hgd := x9; clear hgd; go_at_call 16; refine (c3.out _ _ _ _ _ H7 _ x9.holds hho).mono ?_; rintro e w10 ⟨v10, H10, rfl, y10, u10, rfl, s10⟩; obtain ⟨a10, c10, rfl, _, _⟩ := s10.form; have x10 := x9.trans y10; have l10 := y10.le x9.holds; have hw10 := x10.holds; replace hd0 := lift l10 hd0; replace hc0 := lift l10 hc0; replace hd1 := lift l10 hd1; replace hc1 := lift l10 hc1; replace hd2 := lift l10 hd2; replace hc2 := lift l10 hc2; replace hd3 := lift l10 hd3; replace hc3 := lift l10 hc3; replace hd4 := lift l10 hd4; replace hc4 := lift l10 hc4; replace hd5 := lift l10 hd5; replace hc5 := lift l10 hc5; skip)
      | (have hgd := x8; clear hgd; go_at_call 15; refine (c2.out H7 _ x8.holds hh7).mono ?_; rintro e w9 ⟨rfl, hb9⟩; have x9 := x8.step (hb9.mono x8.below.size) (x8.holds.below hb9); have hw9 := x9.holds)
      | (have hgd := x7; clear hgd; go_at_call 14; refine (c1.out _ _ _ _ _ H7 _ x7.holds hho).mono ?_; rintro e w8 ⟨rfl, hb8⟩; have x8 := x7.step (hb8.mono x7.below.size) (x7.holds.below hb8); have hw8 := x8.holds))
    go_wp2_with (first
      | (have hgd := x15; clear hgd; go_at_call 9; refine (works9_any H11 _ x15.holds).mono ?_; rintro e w16 ⟨rfl, hb16⟩; have x16 := x15.step (hb16.mono x15.below.size) (x15.holds.below hb16); have hw16 := x16.holds)
      | (have hgd := x14; clear hgd; go_at_call 13; refine (same9_any _ _ _ _ _ _ _ _ _ _ h H11 _ x14.holds hhoZ hhZ).mono ?_; rintro e w15 ⟨rfl, hb15⟩; have x15 := x14.step (hb15.mono x14.below.size) (x14.holds.below hb15); have hw15 := x15.holds)
      | (have hgd := x13; clear hgd; go_at_call 20; refine (c6.out H11 _ x13.holds hhZ).mono ?_; rintro e w14 ⟨rfl, hb14⟩; have x14 := x13.step (hb14.mono x13.below.size) (x13.holds.below hb14); have hw14 := x14.holds)
      | (have hgd := x12; clear hgd; go_at_call 19; refine (c5.out _ _ _ _ _ H11 _ x12.holds hhoZ).mono ?_; rintro e w13 ⟨rfl, hb13⟩; have x13 := x12.step (hb13.mono x12.below.size) (x12.holds.below hb13); have hw13 := x13.holds))
    go_ret
    exact ⟨rfl, x16.below⟩

end Go.Proofs.YtngdppajailpcaaGreat

namespace Go.Proofs.YtngdppajailpcaaGreat
open Go.ChangeShapes Go.WideShapes Go.ChangeAt Go.RowKit

theorem machinesFewest_own : ownKnob Tryz.prog.godebug = none := by kernel_rfl
theorem machinesFewest_laid : laidOutB Tryz.prog = true := by kernel_rfl

set_option maxHeartbeats 1600000 in
set_option maxRecDepth 100000 in
theorem machinesFewest_lifted (os : Os) (started : os.Started) (H : Type) (enc : TypeId × Value → H) :
    ReturnsInHanded {} Tryz.checked os 4 .any (Rows.machinesFewestSpec.pre6 enc Tryz.prog Tryz.f4 Rows.machinesFewestRow.domain false) (Rows.machinesFewestSpec.post enc Tryz.prog Tryz.f4 false true false false) := by
  refine returnsInHanded_of_change_sized (C := Tryz.checked) machinesFewest_own started (by kernel_rfl) Tryz.func4
    (ChangeSpec.witness6 (enc := enc) (C := Tryz.checked) false ⟨#[], #[.agg #[.slice none 0 0, .slice none 0 0, .slice none 0 0, .int .i64 0, .slice none 0 0, .slice none 0 0]], []⟩ 8 (by kernel_rfl) (by kernel_rfl) (by kernel_rfl) (by kernel_rfl)) ?_
  intro W base args ds gs before hval0 hW _ hsz _
  have hval : ∀ (j : Nat) t v, Tryz.f4.params[j]? = some t → args[j]? = some v → Value.okWide Tryz.prog W .any base t v := hval0
  have hW' := hW
  obtain ⟨p, q, hA0, hV, rfl, _, _⟩ := hW
  have hA : DataW.TrodAll enc Tryz.prog W 0 (fun _ => true) true Tryz.f4.params.toList args.toList ds p := hA0
  have hS : (DataW.weightsEach Tryz.prog (Tryz.f4.params.toList ++ []) (ds ++ gs)).all (· ≤ reachBytes) = true := hsz
  rw [Tryz.params4] at hA hval hS
  obtain ⟨v0, d0, rfl, rfl, h0⟩ := trodAll_one hA
  obtain ⟨rfl, rfl⟩ := trodVars_none hV
  clear hA0 hval0 hsz
  simp only [List.append_nil] at hW' hS
  have hlt : ∀ x ∈ p, x.block < W.heap.size := fun x hx => by simpa using hW'.lt x hx
  have harg0 : ∀ W', Below W.heap.size W W' → DataW.Trod enc Tryz.prog W' 0 (fun b => decide (b < W.heap.size)) true 29 v0 d0 p := fun W' hb =>
    Below.trod machinesFewest_laid (by kernel_rfl) (of_decide_eq_true (by kernel_rfl)) h0 hb (fun x hx => hlt x (hx))
  have hw0 : ∀ k ∈ d0.weights Tryz.prog 29, k ≤ reachBytes := fun k hk => by
    simpa using List.all_eq_true.1 hS k (DataW.weights_mem_each (j := 0) rfl rfl k hk)
  obtain ⟨vm, vb, vt, vo, ve, hs, rfl, hh⟩ := hall_opened (hval 0 29 v0 rfl rfl) h0 hw0
  refine (machinesFewest_any vm vb vt vo ve hs (snapOf W) W (snapOf_holds W) hh).mono fun e W' ⟨he, hb⟩ => ?_
  subst he
  refine ⟨_, rfl, _, _, _, [], _, [], hW', ?_, trodAll_mk1 (harg0 W' hb), rfl, hb.frame _, fun h => by cases h⟩
  exact trodAll_mk1 (shut_bool Tryz.underlying4 _)

theorem machinesFewest_said : Rows.MachinesFewestSaid :=
  OpenClaim.holds_of_wide 4 Tryz.f4 rfl rfl rfl rfl rfl rfl rfl ⟨rfl, rfl, rfl, rfl, rfl⟩ rfl rfl rfl rfl rfl (by kernel_rfl) Tryz.func4 (by kernel_rfl)
    (of_decide_eq_true (by kernel_rfl)) (by unfold Func.isWrapper; first | (rw [if_pos (by decide +kernel)]; kernel_rfl) | (rw [if_neg (by decide +kernel)]; exact ⟨rfl, rfl⟩))
    (fun os started H enc _ => machinesFewest_lifted os started H enc)

end Go.Proofs.YtngdppajailpcaaGreat
