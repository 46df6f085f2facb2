/- Proved here: MachinesExtraSaid: the law MachinesExtra returns true for every hall and set, and they read afterwards as they did. Conditions: none beyond those of the given statement. -/
import Derived.Test.YtngdppajailpcaaG24
import Derived.Test.YtngdppajailpcaaRows
import Derived.ProofKit

set_option linter.all false

namespace Go.Proofs.Ytngdppajailpcaa
open Go.RowKit

attribute [local go_sem] Holds.drew Holds.alloc Holds.drewN WB.holds

set_option maxRecDepth 100000 in
set_option maxHeartbeats 8000000 in
theorem machinesExtra_any (vm vb vt vo ve vs : Value) (h : Hall) (set : List Plate) (H : Snap) (w : World) (hw : Holds H w) (hh : Hal H vm vb vt vo ve h) (hs : Sl H vs set) :
    Calls Try.prog 3 #[halV vm vb vt vo ve h, vs] w (PostV w (.bool true)) := by
  cases hr : ready9 h
  · go_enter Try.func3, Try.ntmps3
    go_wp2_with (first
      | (have hgd := x2; clear hgd; go_at_call 13; refine (works9_any H1 _ x2.holds).mono ?_; rintro e w3 ⟨rfl, hb3⟩; have x3 := x2.step (hb3.mono x2.below.size) (x2.holds.below hb3); have hw3 := x3.holds)
      | (have hgd := x1; clear hgd; go_at_call 11; refine (ready9_any _ _ _ _ _ _ H1 _ x1.holds (hh.mono hle)).mono ?_; rintro e w2 ⟨rfl, hb2⟩; rw [hr]; have x2 := x1.step (hb2.mono x1.below.size) (x1.holds.below hb2); have hw2 := x2.holds)
      | (have hgd := hw; clear hgd; refine wpList_boxF rfl _ rfl (Ext.refl hw) ?_; intro B w1 H1 hle hx hB hBw; obtain ⟨hc0, hc1, hc2, hc3, hc4, hc5⟩ := cellsHal hB; clear hB hw; have hw1 := hx.holds; have x1 := hx))
    go_ret
    exact ⟨rfl, x3.below⟩
  · have hv := ready9_valid hr
    cases hst : setOk set
    · go_enter Try.func3, Try.ntmps3
      go_wp2_with (first
        | (have hgd := x3; clear hgd; go_at_call 13; refine (works9_any H1 _ x3.holds).mono ?_; rintro e w4 ⟨rfl, hb4⟩; have x4 := x3.step (hb4.mono x3.below.size) (x3.holds.below hb4); have hw4 := x4.holds)
        | (have hgd := x2; clear hgd; go_at_call 12; refine (isSetL_any _ set H1 _ x2.holds (hs.mono hle)).mono ?_; rintro e w3 ⟨rfl, hb3⟩; rw [hst]; have x3 := x2.step (hb3.mono x2.below.size) (x2.holds.below hb3); have hw3 := x3.holds)
        | (have hgd := x1; clear hgd; go_at_call 11; refine (ready9_any _ _ _ _ _ _ H1 _ x1.holds (hh.mono hle)).mono ?_; rintro e w2 ⟨rfl, hb2⟩; rw [hr]; have x2 := x1.step (hb2.mono x1.below.size) (x1.holds.below hb2); have hw2 := x2.holds)
        | (have hgd := hw; clear hgd; refine wpList_boxF rfl _ rfl (Ext.refl hw) ?_; intro B w1 H1 hle hx hB hBw; obtain ⟨hc0, hc1, hc2, hc3, hc4, hc5⟩ := cellsHal hB; clear hB hw; have hw1 := hx.holds; have x1 := hx))
      go_ret
      exact ⟨rfl, x4.below⟩
    · have hfw := countsOf_few hst
      have hP := platesOf_bd hst
      have hMb := numC_bd hv hfw
      have hNb := numC_bd hv Few.zero
      have hps := platesOf_sum set (setOk_iff.1 hst).1
      have hML : (numC h (countsOf set) == 0) = (((lacksA h set).length : Int) == 0) := by
        rw [Bool.eq_iff_iff, beq_iff_eq, beq_iff_eq, numC_zero hv hfw, ← lacks_nil hv hst, ← List.length_eq_zero_iff]
        omega
      have hMN : (numC h (countsOf set) == 10000) = (numC h zero12 == 10000) := by
        rw [Bool.eq_iff_iff, beq_iff_eq, beq_iff_eq, numC_lt hv hfw, numC_lt hv Few.zero]
      have hle9 : numC h zero12 ≤ numC h (countsOf set) + platesOf set := by
        by_cases hj : joinsH h = []
        · rw [numC_none hv Cn.zero hj, numC_none hv hfw.cn hj]; omega
        · have := numC_le_zero hv hfw hj; omega
      have hcan := fun (c : Int) (hc : c ∈ casesOf h.hs) => can_of_case hv hst hc
      have hx0 : ∀ (S : Snap) (W : World), Holds S W → Hal S vm vb vt vo ve h → Calls Try.prog 15 #[halV vm vb vt vo ve h, .slice none 0 0] W (PostV W (.tuple #[.int .i64 (numC h zero12), .bool true])) := fun S W hW hh => extraL9_any _ _ _ _ _ _ h hv [] setOk_nil S W hW hh (Sl.nil0 _)
      obtain ⟨N, hN⟩ : ∃ N, numC h zero12 = N := ⟨_, rfl⟩
      obtain ⟨M, hM⟩ : ∃ M, numC h (countsOf set) = M := ⟨_, rfl⟩
      rw [hN] at hNb hMN hle9 hx0
      rw [hM] at hMb hMN hle9 hML
      have hplt := fun (S : Snap) (W : World) (hW : Holds S W) (hs : Sl S vs set) => platesOf9_any vs set S W hW hs hst
      generalize platesOf set = P at *
      have hMlt : decide (M < 10000) = !(M == 10000) := by
        rw [Bool.eq_iff_iff, decide_eq_true_eq, Bool.not_eq_true', beq_eq_false_iff_ne]; omega
      have hgt : decide (M + P < N) = false := decide_eq_false (by omega)
      have hM1 : 0 ≤ M ∧ M ≤ 10000 := by omega
      replace hcan := Lib.hid hcan
      replace hx0 := Lib.hid hx0
      replace hplt := Lib.hid hplt
      replace hML := Lib.hid hML
      replace hMN := Lib.hid hMN
      clear hNb hMb hle9 hps
      go_enter Try.func3, Try.ntmps3
      go_upto_region 7 with (first
        | (have hgd := x6; clear hgd; go_at_call 16; refine (lacksL9_any _ _ _ _ _ _ h hv set hst H1 _ x6.holds (hh.mono hle) (hs.mono hle)).mono ?_; rintro e w7 ⟨v7, H7, rfl, y7, u7, rfl, s7⟩; obtain ⟨a7, c7, rfl, _, _⟩ := s7.form; have x7 := x6.trans y7; have l7 := y7.le x6.holds; have hw7 := x7.holds; replace hc0 := lift l7 hc0; replace hc1 := lift l7 hc1; replace hc2 := lift l7 hc2; replace hc3 := lift l7 hc3; replace hc4 := lift l7 hc4; replace hc5 := lift l7 hc5)
        | (have hgd := x5; clear hgd; go_at_call 15; refine (hx0.out H1 _ x5.holds (hh.mono hle)).mono ?_; rintro e w6 ⟨rfl, hb6⟩; have x6 := x5.step (hb6.mono x5.below.size) (x5.holds.below hb6); have hw6 := x6.holds)
        | (have hgd := x4; clear hgd; go_at_call 15; refine (extraL9_any _ _ _ _ _ _ h hv set hst H1 _ x4.holds (hh.mono hle) (hs.mono hle)).mono ?_; rintro e w5 ⟨rfl, hb5⟩; rw [hM]; have x5 := x4.step (hb5.mono x4.below.size) (x4.holds.below hb5); have hw5 := x5.holds)
        | (have hgd := x3; clear hgd; go_at_call 14; refine (fewestL9_any _ _ _ _ _ _ hv H1 _ x3.holds (hh.mono hle)).mono ?_; rintro e w4 ⟨rfl, hb4⟩; rw [hN]; have x4 := x3.step (hb4.mono x3.below.size) (x3.holds.below hb4); have hw4 := x4.holds)
        | (have hgd := x2; clear hgd; go_at_call 12; refine (isSetL_any _ set H1 _ x2.holds (hs.mono hle)).mono ?_; rintro e w3 ⟨rfl, hb3⟩; rw [hst]; have x3 := x2.step (hb3.mono x2.below.size) (x2.holds.below hb3); have hw3 := x3.holds)
        | (have hgd := x1; clear hgd; go_at_call 11; refine (ready9_any _ _ _ _ _ _ H1 _ x1.holds (hh.mono hle)).mono ?_; rintro e w2 ⟨rfl, hb2⟩; rw [hr]; have x2 := x1.step (hb2.mono x1.below.size) (x1.holds.below hb2); have hw2 := x2.holds)
        | (have hgd := hw; clear hgd; refine wpList_boxF rfl _ rfl (Ext.refl hw) ?_; intro B w1 H1 hle hx hB hBw; obtain ⟨hc0, hc1, hc2, hc3, hc4, hc5⟩ := cellsHal hB; clear hB hw; have hw1 := hx.holds; have x1 := hx))
      have hs7 := (hs.mono hle).mono l7
      have hh7 := (hh.mono hle).mono l7
      go_cut [93] (fun b wc => b = .bool false ∧ Ext w H wc H7)
      case first =>
        have hML := hML.out
        have hMN := hMN.out
        cases g0 : (M == 0)
        all_goals
          rw [g0] at hML
          replace hML := hML.symm
          cases g1 : (M == 10000)
          all_goals
            rw [g1] at hMN hMlt
            replace hMN := hMN.symm
            simp only [Bool.not_true, Bool.not_false] at hMlt
            go_wp2_with (go_at_call 17; refine (hplt.out H7 _ hw7 hs7).mono ?_; rintro e w8 ⟨rfl, hb8⟩; have x8 := x7.step (hb8.mono x7.below.size) (hw7.below hb8))
            go_meet
            first
              | exact ⟨rfl, x8⟩
              | exact ⟨rfl, x7⟩
      case rest =>
        obtain ⟨rfl, x8⟩ := hcut
        have hw8 := x8.holds
        clear hML hMN hMlt hgt hx0 hplt x7 hw7
        generalize lacksA h set = L at *
        go_upto_region 10 with (first
          | (have hgd := x8; clear hgd; go_at_call 18; refine (casesOf4_any _ _ _ _ H7 _ x8.holds hh7.hs hv.hs).mono ?_; rintro e w9 ⟨v9, H9, rfl, y9, s9⟩; obtain ⟨a9, c9, rfl, _, _⟩ := s9.form; have x9 := x8.trans y9; have l9 := y9.le x8.holds; have hw9 := x9.holds; replace hc0 := lift l9 hc0; replace hc1 := lift l9 hc1; replace hc2 := lift l9 hc2; replace hc3 := lift l9 hc3; replace hc4 := lift l9 hc4; replace hc5 := lift l9 hc5; replace s7 := s7.mono l9))
        have hcm : ∀ c ∈ casesOf h.hs, I64 c := fun c hc => by have := casesOf_mem hc; have := hv.hs.m3; unfold I64; omega
        replace hcm := Lib.hid hcm
        have hs9 := hs7.mono l9
        have hh9 := hh7.mono l9
        clear x8 hw8 y9
        go_wp2
        go_loopw [14] (fun i wr => ∃ k : Nat, k ≤ (casesOf h.hs).length ∧ i = .int .i64 k ∧ Ext w H wr H9) (fun i _ => (casesOf h.hs).length - (intOf i).toNat)
        case atStart => exact ⟨0, Nat.zero_le _, rfl, x9⟩
        case round =>
          clear x9 hw9
          obtain ⟨k, hk, rfl, xr⟩ := hrel
          have hwr := xr.holds
          by_cases hlk : k < (casesOf h.hs).length
          · obtain ⟨x, hx⟩ := At.mk hlk
            have hxI := hcm.out x hx.mem
            obtain ⟨hcx, hca⟩ := hcan.out x hx.mem
            obtain ⟨D, hD⟩ : ∃ D, decide (x ∈ L) = D := ⟨_, rfl⟩
            rw [hD] at hcx
            have hcall : ∀ (S : Snap) (W : World) (vs : Value), Holds S W → Hal S vm vb vt vo ve h → Sl S vs set → Calls Try.prog 19 #[halV vm vb vt vo ve h, vs, .int .i64 x] W (PostV W (.tuple #[.bool (!D), .int .i64 0])) := fun S W vs hW hh hs => by
              have := canM_any _ _ _ _ _ _ h set x hxI S W hW hh hs
              rw [hcx, hca, hst, validHall_iff.2 hv] at this
              exact this
            have hin : ∀ (W : World), Holds H9 W → Calls Try.prog 21 #[.slice a7 L.length c7, .int .i64 x] W (PostV W (.bool D)) := fun W hW => by
              rw [← hD]; exact in_any _ L x H9 W hW s7
            obtain ⟨b, o, c', hez, ⟨hi1, hi2⟩, hrx⟩ := s9.int hx
            cases hez
            have hk0 : (0 : Int) ≤ (k : Int) := by omega
            have hk1 : (k : Int) < ((casesOf h.hs).length : Int) := by omega
            replace hcall := Lib.hid hcall
            replace hin := Lib.hid hin
            clear hcx hD hca
            go_upto_region 13 with fail
            go_cut [15, 16] (fun c e wc => c = .bool (!D) ∧ e = .int .i64 0 ∧ Ext w H wc H9)
            case first =>
              go_region_held3 (fun w' => Holds H9 w' ∧ Ext w H w' H9) (first | assumption | exact ⟨by assumption, by assumption⟩ | (go_split_ands; exact ⟨Holds.drew (by assumption), Ext.drew (by assumption)⟩) | (go_split_ands; exact ⟨Holds.alloc (by assumption) _, Ext.alloc (by assumption) _⟩) | (go_split_ands; exact ⟨Holds.drew (Holds.alloc (by assumption) _), Ext.drew (Ext.alloc (by assumption) _)⟩)) (first | ((go_split_ands; go_at_call 20; refine (copySetP_any _ set H9 _ (by assumption) hs9).mono ?_; rintro e wq ⟨vq, Hq, rfl, xq, sq⟩; obtain ⟨aq, cq, rfl, _, _⟩ := sq.form; have lq := xq.le (by assumption); have kq := xq.holds; have k1 : Holds H9 wq := xq.holds.mono lq; have k2 : Ext w H wq H9 := Ext.step (by assumption) (xq.below.mono (by assumption : Ext w H _ H9).below.size) k1)) | ((go_split_ands; go_at_call 19; refine (hcall.out Hq _ _ (by assumption) (hh9.mono lq) sq).mono ?_; rintro e wz ⟨rfl, hbz⟩; have k1 : Holds H9 wz := Holds.below (by assumption) hbz; have k2 : Ext w H wz H9 := Ext.step (by assumption) (hbz.mono (by assumption : Ext w H _ H9).below.size) k1)))
              all_goals
                go_split_ands
                go_wp2_with fail
                go_meet
                exact ⟨rfl, rfl, by assumption⟩
            case rest =>
              obtain ⟨rfl, rfl, x11⟩ := hcut
              have hw11 := x11.holds
              cases D
              all_goals
                simp only [Bool.not_true, Bool.not_false] at *
                go_wp2_with (first | (go_at_call 21; refine (hin.out _ hw11).mono ?_; rintro e w12 ⟨rfl, hb12⟩; have x12 := x11.step (hb12.mono x11.below.size) (hw11.below hb12)))
                go_roundw
                case rel => exact ⟨k + 1, by omega, by go_num, x12⟩
                case measure => simp [intOf]; omega
          · go_wp2_with (first | (go_at_call 13; refine (works9_any H9 _ hwr).mono ?_; rintro e w13 ⟨rfl, hb13⟩))
            go_ret
            exact ⟨rfl, xr.below.trans (hb13.mono xr.below.size)⟩

end Go.Proofs.Ytngdppajailpcaa

namespace Go.Proofs.Ytngdppajailpcaa
open Go.ChangeShapes Go.WideShapes Go.ChangeAt Go.RowKit

theorem machinesExtra_own : ownKnob Try.prog.godebug = none := by kernel_rfl
theorem machinesExtra_laid : laidOutB Try.prog = true := by kernel_rfl

set_option maxHeartbeats 1600000 in
set_option maxRecDepth 100000 in
theorem machinesExtra_lifted (os : Os) (started : os.Started) (H : Type) (enc : TypeId × Value → H) :
    ReturnsInHanded {} Try.checked os 3 .any (Rows.machinesExtraSpec.pre6 enc Try.prog Try.f3 Rows.machinesExtraRow.domain false) (Rows.machinesExtraSpec.post enc Try.prog Try.f3 false true false false) := by
  refine returnsInHanded_of_change_sized (C := Try.checked) machinesExtra_own started (by kernel_rfl) Try.func3
    (ChangeSpec.witness6 (enc := enc) (C := Try.checked) false ⟨#[], #[.agg #[.slice none 0 0, .slice none 0 0, .slice none 0 0, .int .i64 0, .slice none 0 0, .slice none 0 0], .slice none 0 0], []⟩ 8 (by kernel_rfl) (by kernel_rfl) (by kernel_rfl) (by kernel_rfl)) ?_
  intro W base args ds gs before hval0 hW _ hsz _
  have hval : ∀ (j : Nat) t v, Try.f3.params[j]? = some t → args[j]? = some v → Value.okWide Try.prog W .any base t v := hval0
  have hW' := hW
  obtain ⟨p, q, hA0, hV, rfl, _, _⟩ := hW
  have hA : DataW.TrodAll enc Try.prog W 0 (fun _ => true) true Try.f3.params.toList args.toList ds p := hA0
  have hS : (DataW.weightsEach Try.prog (Try.f3.params.toList ++ []) (ds ++ gs)).all (· ≤ reachBytes) = true := hsz
  rw [Try.params3] at hA hval hS
  obtain ⟨v0, v1, d0, d1, p0, p1, rfl, rfl, rfl, h0, h1⟩ := trodAll_two hA
  obtain ⟨rfl, rfl⟩ := trodVars_none hV
  clear hA0 hval0 hsz
  simp only [List.append_nil] at hW' hS
  have hlt : ∀ x ∈ p0 ++ p1, x.block < W.heap.size := fun x hx => by simpa using hW'.lt x hx
  have harg0 : ∀ W', Below W.heap.size W W' → DataW.Trod enc Try.prog W' 0 (fun b => decide (b < W.heap.size)) true 29 v0 d0 p0 := fun W' hb =>
    Below.trod machinesExtra_laid (by kernel_rfl) (of_decide_eq_true (by kernel_rfl)) h0 hb (fun x hx => hlt x (List.mem_append.2 (.inl hx)))
  have hw0 : ∀ k ∈ d0.weights Try.prog 29, k ≤ reachBytes := fun k hk => by
    simpa using List.all_eq_true.1 hS k (DataW.weights_mem_each (j := 0) rfl rfl k hk)
  have harg1 : ∀ W', Below W.heap.size W W' → DataW.Trod enc Try.prog W' 0 (fun b => decide (b < W.heap.size)) true 30 v1 d1 p1 := fun W' hb =>
    Below.trod machinesExtra_laid (by kernel_rfl) (of_decide_eq_true (by kernel_rfl)) h1 hb (fun x hx => hlt x (List.mem_append.2 (.inr hx)))
  have hw1 : ∀ k ∈ d1.weights Try.prog 30, k ≤ reachBytes := fun k hk => by
    simpa using List.all_eq_true.1 hS k (DataW.weights_mem_each (j := 1) rfl rfl k hk)
  obtain ⟨vm, vb, vt, vo, ve, hs, rfl, hh⟩ := hall_opened (hval 0 29 v0 rfl rfl) h0 hw0
  obtain ⟨a1, l1, c1, rfl⟩ := okWide_slice Try.underlying30 (hval 1 30 v1 rfl rfl)
  obtain ⟨n1, h1'⟩ := h1
  obtain ⟨xs1, hx1⟩ := plates_opened (by simpa [Value.cells] using h1') hw1
  refine (machinesExtra_any vm vb vt vo ve _ hs xs1 (snapOf W) W (snapOf_holds W) hh hx1).mono fun e W' ⟨he, hb⟩ => ?_
  subst he
  refine ⟨_, rfl, _, _, _, [], _, [], hW', ?_, trodAll_mk2 (harg0 W' hb) (harg1 W' hb), rfl, hb.frame _, fun h => by cases h⟩
  exact trodAll_mk1 (shut_bool Try.underlying4 _)

theorem machinesExtra_said : Rows.MachinesExtraSaid :=
  OpenClaim.holds_of_wide 3 Try.f3 rfl rfl rfl rfl rfl rfl rfl ⟨rfl, rfl, rfl, rfl, rfl⟩ rfl rfl rfl rfl rfl (by kernel_rfl) Try.func3 (by kernel_rfl)
    (of_decide_eq_true (by kernel_rfl)) (by unfold Func.isWrapper; first | (rw [if_pos (by decide +kernel)]; kernel_rfl) | (rw [if_neg (by decide +kernel)]; exact ⟨rfl, rfl⟩))
    (fun os started H enc _ => machinesExtra_lifted os started H enc)

end Go.Proofs.Ytngdppajailpcaa
