/- Proved here: MachinesPlanSaid: the law MachinesPlan returns true for every hall and plan, and they read afterwards as they did. Conditions: none beyond those of the given statement. -/
import Derived.Test.YtngdppajailpcaaG24
import Derived.Test.YtngdppajailpcaaRows
import Derived.ProofKit

set_option linter.all false

namespace Go.Proofs.Ytngdppajailpcaa
open Go.RowKit

attribute [local go_sem] Holds.drew Holds.alloc Holds.drewN WB.holds

set_option maxRecDepth 100000 in
set_option maxHeartbeats 8000000 in
theorem machinesPlan_any (vm vb vt vo ve vp : Value) (h : Hall) (plan : List (List Int)) (H : Snap) (w : World) (hw : Holds H w) (hh : Hal H vm vb vt vo ve h) (hp : Sl H vp plan) :
    Calls Try.prog 10 #[halV vm vb vt vo ve h, vp] w (PostV w (.bool true)) := by
  cases hr : ready9 h
  · go_enter Try.func10, Try.ntmps10
    go_wp2_with (first
      | (have hgd := x2; clear hgd; go_at_call 13; refine (works9_any H1 _ x2.holds).mono ?_; rintro e w3 ⟨rfl, hb3⟩; have x3 := x2.step (hb3.mono x2.below.size) (x2.holds.below hb3); have hw3 := x3.holds)
      | (have hgd := x1; clear hgd; go_at_call 11; refine (ready9_any _ _ _ _ _ _ H1 _ x1.holds (hh.mono hle)).mono ?_; rintro e w2 ⟨rfl, hb2⟩; rw [hr]; have x2 := x1.step (hb2.mono x1.below.size) (x1.holds.below hb2); have hw2 := x2.holds)
      | (have hgd := hw; clear hgd; refine wpList_boxF rfl _ rfl (Ext.refl hw) ?_; intro B w1 H1 hle hx hB hBw; obtain ⟨hc0, hc1, hc2, hc3, hc4, hc5⟩ := cellsHal hB; clear hB hw; have hw1 := hx.holds; have x1 := hx))
    go_ret
    exact ⟨rfl, x3.below⟩
  · have hv := ready9_valid hr
    cases g2 : long plan
    rotate_left
    · go_enter Try.func10, Try.ntmps10
      go_wp2_with (first
        | (have hgd := x3; clear hgd; go_at_call 13; refine (works9_any H1 _ x3.holds).mono ?_; rintro e w4 ⟨rfl, hb4⟩; have x4 := x3.step (hb4.mono x3.below.size) (x3.holds.below hb4); have hw4 := x4.holds)
        | (have hgd := x2; clear hgd; go_at_call 34; refine (long_any _ _ H1 _ x2.holds (hp.mono hle)).mono ?_; rintro e w3 ⟨rfl, hb3⟩; rw [g2]; have x3 := x2.step (hb3.mono x2.below.size) (x2.holds.below hb3); have hw3 := x3.holds)
        | (have hgd := x1; clear hgd; go_at_call 11; refine (ready9_any _ _ _ _ _ _ H1 _ x1.holds (hh.mono hle)).mono ?_; rintro e w2 ⟨rfl, hb2⟩; rw [hr]; have x2 := x1.step (hb2.mono x1.below.size) (x1.holds.below hb2); have hw2 := x2.holds)
        | (have hgd := hw; clear hgd; refine wpList_boxF rfl _ rfl (Ext.refl hw) ?_; intro B w1 H1 hle hx hB hBw; obtain ⟨hc0, hc1, hc2, hc3, hc4, hc5⟩ := cellsHal hB; clear hB hw; have hw1 := hx.holds; have x1 := hx))
      go_ret
      exact ⟨rfl, x4.below⟩
    · have hls : plan.length ≤ 40 ∧ ∀ l ∈ plan, l.length ≤ 40 := by
        unfold long at g2
        simp only [Bool.or_eq_false_iff, decide_eq_false_iff_not, List.any_eq_false, decide_eq_true_eq] at g2
        exact ⟨by omega, fun l hm => by have := g2.2 l hm; omega⟩
      have hfl : plan.flatten.length ≤ 1000000 := by
        have key : ∀ (p : List (List Int)), (∀ l ∈ p, l.length ≤ 40) → p.flatten.length ≤ 40 * p.length := by
          intro p
          induction p with
          | nil => intro _; simp
          | cons l p ih => intro hm; have h1 := ih (fun x hx => hm x (by simp [hx])); have h2 := hm l (by simp); simp only [List.flatten_cons, List.length_append, List.length_cons]; omega
        have := key plan hls.2
        omega
      have hpl : plan.length ≤ 1000000 := by omega
      have hps : ∀ l ∈ plan, l.length ≤ 1000000 := fun l hm => by have := hls.2 l hm; omega
      have hpl40 := hls.1
      have hps40 := hls.2
      replace hps40 := Lib.hid hps40
      obtain ⟨ap, cp, rfl, _, _⟩ := hp.form
      clear hls
      cases gp : isPlan h.hs plan
      · go_enter Try.func10, Try.ntmps10
        go_wp2_with (first
          | (have hgd := x4; clear hgd; go_at_call 13; refine (works9_any H1 _ x4.holds).mono ?_; rintro e w5 ⟨rfl, hb5⟩; have x5 := x4.step (hb5.mono x4.below.size) (x4.holds.below hb5); have hw5 := x5.holds)
          | (have hgd := x3; clear hgd; go_at_call 45; refine (isPlan4_any _ _ _ _ h.hs plan H1 _ x3.holds (hh.mono hle).hs (hp.mono hle) hfl).mono ?_; rintro e w4 ⟨rfl, hb4⟩; rw [gp]; have x4 := x3.step (hb4.mono x3.below.size) (x3.holds.below hb4); have hw4 := x4.holds)
          | (have hgd := x2; clear hgd; go_at_call 34; refine (long_any _ _ H1 _ x2.holds (hp.mono hle)).mono ?_; rintro e w3 ⟨rfl, hb3⟩; rw [g2]; have x3 := x2.step (hb3.mono x2.below.size) (x2.holds.below hb3); have hw3 := x3.holds)
          | (have hgd := x1; clear hgd; go_at_call 11; refine (ready9_any _ _ _ _ _ _ H1 _ x1.holds (hh.mono hle)).mono ?_; rintro e w2 ⟨rfl, hb2⟩; rw [hr]; have x2 := x1.step (hb2.mono x1.below.size) (x1.holds.below hb2); have hw2 := x2.holds)
          | (have hgd := hw; clear hgd; refine wpList_boxF rfl _ rfl (Ext.refl hw) ?_; intro B w1 H1 hle hx hB hBw; obtain ⟨hc0, hc1, hc2, hc3, hc4, hc5⟩ := cellsHal hB; clear hB hw; have hw1 := hx.holds; have x1 := hx))
        go_ret
        exact ⟨rfl, x5.below⟩
      · have hlen : plan.length ≤ 3 := by rw [plan_len gp]; exact hv.hs.m3
        have hok : setOk (setOf (needOf h plan)) = true := setOf_ok fun k hk => by have := needOf_bd (h := h) hlen hk; omega
        have hneed : needA h plan = setOf (needOf h plan) := by unfold needA; rw [validHall_iff.2 hv, gp]; rfl
        have hC0 : (decide (0 < (lateOf h.hs plan).length) = false) → canA h (setOf (needOf h plan)) (-1) = true := fun e => plan_can hv gp (List.eq_nil_of_length_eq_zero (by have := of_decide_eq_false e; omega)) rfl (fun i hi => by omega)
        have hCm : ∀ (m : Nat), m < plan.length → (decide (0 < (lateOf h.hs plan).length) = false) → plan.getD m [] = [] → canA h (setOf (needOf h plan)) (m : Int) = true := fun m hm e e2 =>
          plan_can hv gp (List.eq_nil_of_length_eq_zero (by have := of_decide_eq_false e; omega)) (by
            have h1 : isMachA h (m : Int) = true := within_iff.2 ⟨by omega, by rw [← plan_len gp]; omega⟩
            unfold isCaseA; rw [h1, Bool.or_true]) (fun i hi => by rw [show i = m by omega]; exact e2)
        have hFit : ∀ (m : Nat) (l : List Int) (b : Int), At plan m l → b ∈ l → (bund h.hs b).e ∈ fitA h (m : Int) (setOf (needOf h plan)) := fun m l b hl hb => plan_fit hv gp hl hb
        have hFl : ∀ n : Int, (fitA h n (setOf (needOf h plan))).length ≤ h.ed.length := fun n => by
          unfold fitA; split
          · exact fitTo_len _ _ _ _
          · simp
        have hbd : ∀ l ∈ plan, ∀ b ∈ l, 0 ≤ b ∧ b ≤ (h.hs.bs.length : Int) - 1 := fun l hl b hb => by
          have hx := plan_bd gp (List.mem_flatten.2 ⟨l, hl, hb⟩); omega
        have hmach : ∀ m : Nat, m < plan.length → isMachA h (m : Int) = true := fun m hm => within_iff.2 ⟨by omega, by rw [← plan_len gp]; omega⟩
        rw [← hneed] at hok hC0 hCm hFit hFl
        obtain ⟨D, hD⟩ : ∃ D, decide (0 < (lateOf h.hs plan).length) = D := ⟨_, rfl⟩
        rw [hD] at hC0 hCm
        have hlate := fun (S : Snap) (W : World) (hW : Holds S W) hh hp => lateOf4_any vm vb vt (.slice ap plan.length cp) h.hs plan S W hW hh hp hv.hs gp
        generalize lateOf h.hs plan = LL at *
        have hnd := fun (S : Snap) (W : World) (vp : Value) (hW : Holds S W) hh hp => needM_any vm vb vt vo ve vp h plan S W hW hh hp
        rw [validHall_iff.2 hv, gp, show askM true true = 0 from rfl] at hnd
        generalize needA h plan = set at *
        have hcan : ∀ (c : Int), I64 c → isCaseA h c = true → ∀ (S : Snap) (W : World) (vs : Value), Holds S W → Hal S vm vb vt vo ve h → Sl S vs set → Calls Try.prog 19 #[halV vm vb vt vo ve h, vs, .int .i64 c] W (PostV W (.tuple #[.bool (canA h set c), .int .i64 0])) := fun c hc hca S W vs hW hh hs => by
          have := canM_any _ _ _ _ _ _ h set c hc S W hW hh hs
          rw [hca, hok, validHall_iff.2 hv] at this
          exact this
        have hfit : ∀ (c : Int), I64 c → isMachA h c = true → ∀ (S : Snap) (W : World) (vs : Value), Holds S W → Hal S vm vb vt vo ve h → Sl S vs set → Calls Try.prog 32 #[halV vm vb vt vo ve h, .int .i64 c, vs] W (Post W S fun v H' => ∃ u, v = .tuple #[u, .int .i64 0] ∧ Sl H' u (fitA h c set)) := fun c hc hca S W vs hW hh hs => by
          have := fitM_any _ _ _ _ _ _ h c hc set S W hW hh hs
          rw [hca, hok, validHall_iff.2 hv] at this
          exact this
        have hcan0 := hcan (-1) (by unfold I64; omega) rfl
        generalize canA h set (-1) = C0 at *
        replace hcan := Lib.hid hcan
        replace hcan0 := Lib.hid hcan0
        replace hfit := Lib.hid hfit
        replace hnd := Lib.hid hnd
        replace hlate := Lib.hid hlate
        replace hC0 := Lib.hid hC0
        replace hCm := Lib.hid hCm
        replace hFit := Lib.hid hFit
        replace hFl := Lib.hid hFl
        replace hbd := Lib.hid hbd
        replace hmach := Lib.hid hmach
        obtain ⟨ab, cb, rfl, hb1, hb2'⟩ := hh.hs.b.form
        obtain ⟨ae, ce, rfl, he1, he2⟩ := hh.ed.form
        clear hneed
        go_enter Try.func10, Try.ntmps10
        go_upto_region 3 with (first
          | (have hgd := x3; clear hgd; go_at_call 45; refine (isPlan4_any _ _ _ _ h.hs plan H1 _ x3.holds (hh.mono hle).hs (hp.mono hle) hfl).mono ?_; rintro e w4 ⟨rfl, hb4⟩; rw [gp]; have x4 := x3.step (hb4.mono x3.below.size) (x3.holds.below hb4); have hw4 := x4.holds)
          | (have hgd := x2; clear hgd; go_at_call 34; refine (long_any _ _ H1 _ x2.holds (hp.mono hle)).mono ?_; rintro e w3 ⟨rfl, hb3⟩; rw [g2]; have x3 := x2.step (hb3.mono x2.below.size) (x2.holds.below hb3); have hw3 := x3.holds)
          | (have hgd := x1; clear hgd; go_at_call 11; refine (ready9_any _ _ _ _ _ _ H1 _ x1.holds (hh.mono hle)).mono ?_; rintro e w2 ⟨rfl, hb2⟩; rw [hr]; have x2 := x1.step (hb2.mono x1.below.size) (x1.holds.below hb2); have hw2 := x2.holds)
          | (have hgd := hw; clear hgd; refine wpList_boxF rfl _ rfl (Ext.refl hw) ?_; intro B w1 H1 hle hx hB hBw; obtain ⟨hc0, hc1, hc2, hc3, hc4, hc5⟩ := cellsHal hB; clear hB hw; have hw1 := hx.holds; have x1 := hx))
        have hh1 := hh.mono hle
        have hp1 := hp.mono hle
        clear x1 hx hw1 x2 hw2 x3 hw3
        go_cut [5, 6] (fun s e wc => e = .int .i64 0 ∧ ∃ a c H5, s = .slice a set.length c ∧ SLe H1 H5 ∧ Ext w H wc H5 ∧ Sl H5 (.slice a set.length c) set)
        case first =>
          go_region_held3 (fun w' => Holds H1 w' ∧ Ext w H w' H1) (first | assumption | exact ⟨by assumption, by assumption⟩ | (go_split_ands; exact ⟨Holds.drew (by assumption), Ext.drew (by assumption)⟩) | (go_split_ands; exact ⟨Holds.alloc (by assumption) _, Ext.alloc (by assumption) _⟩) | (go_split_ands; exact ⟨Holds.drew (Holds.alloc (by assumption) _), Ext.drew (Ext.alloc (by assumption) _)⟩)) (first | ((go_split_ands; go_at_call 35; refine (copyP_any _ plan H1 _ (by assumption) hp1 hpl hps).mono ?_; rintro e wq ⟨vq, Hq, rfl, xq, sq⟩; obtain ⟨aq, cq, rfl, _, _⟩ := sq.form; have lq := xq.le (by assumption); have kq := xq.holds; have xxq : Ext w H wq Hq := Ext.trans (by assumption) xq; have k1 : Holds H1 wq := xq.holds.mono lq; have k2 : Ext w H wq H1 := Ext.step (by assumption) (xq.below.mono (by assumption : Ext w H _ H1).below.size) k1)) | ((go_split_ands; go_at_call 36; refine (hnd.out Hq _ _ kq (hh1.mono lq) sq).mono ?_; rintro e wz ⟨vz, Hz, rfl, xz, uz, rfl, sz⟩; obtain ⟨az, cz, rfl, _, _⟩ := sz.form; have lz := xz.le kq; have xxz := xxq.trans xz; have k1 : Holds H1 wz := xz.holds.mono (lq.trans lz); have k2 : Ext w H wz H1 := Ext.step (by assumption) (xz.below.mono (by assumption : Ext w H _ H1).below.size) k1)))
          all_goals
            go_split_ands
            go_wp2_with fail
            go_meet
            exact ⟨rfl, _, _, Hz, rfl, lq.trans lz, by first | exact xxz | exact xxz.drew, sz⟩
        case rest =>
          obtain ⟨rfl, as', cs', H5, rfl, l5, x5, s5⟩ := hcut
          have hw5 := x5.holds
          replace hc0 := lift l5 hc0
          replace hc1 := lift l5 hc1
          replace hc2 := lift l5 hc2
          replace hc3 := lift l5 hc3
          replace hc4 := lift l5 hc4
          replace hc5 := lift l5 hc5
          go_upto_region 7 with (first
            | (have hgd := x6; clear hgd; go_at_call 46; refine (hlate.out H5 _ x6.holds (hh1.mono l5).hs (hp1.mono l5)).mono ?_; rintro e w7 ⟨v7, H7, rfl, y7, s7⟩; obtain ⟨a7, c7, rfl, _, _⟩ := s7.form; have x7 := x6.trans y7; have l7 := y7.le x6.holds; have hw7 := x7.holds; replace hc0 := lift l7 hc0; replace hc1 := lift l7 hc1; replace hc2 := lift l7 hc2; replace hc3 := lift l7 hc3; replace hc4 := lift l7 hc4; replace hc5 := lift l7 hc5)
            | (have hgd := x5; clear hgd; go_at_call 12; refine (isSetL_any _ set H5 _ x5.holds s5).mono ?_; rintro e w6 ⟨rfl, hb6⟩; rw [hok]; have x6 := x5.step (hb6.mono x5.below.size) (x5.holds.below hb6); have hw6 := x6.holds))
          try rw [hD]
          have l57 := l5.trans l7
          have hh7 := hh1.mono l57
          have hp7 := hp1.mono l57
          have ss7 := s5.mono l7
          go_cut [8, 9] (fun c e wc => c = .bool C0 ∧ e = .int .i64 0 ∧ Ext w H wc H7)
          case first =>
            go_region_held3 (fun w' => Holds H7 w' ∧ Ext w H w' H7) (first | assumption | exact ⟨by assumption, by assumption⟩ | (go_split_ands; exact ⟨Holds.drew (by assumption), Ext.drew (by assumption)⟩) | (go_split_ands; exact ⟨Holds.alloc (by assumption) _, Ext.alloc (by assumption) _⟩) | (go_split_ands; exact ⟨Holds.drew (Holds.alloc (by assumption) _), Ext.drew (Ext.alloc (by assumption) _)⟩)) (first | ((go_split_ands; go_at_call 20; refine (copySetP_any _ set H7 _ (by assumption) ss7).mono ?_; rintro e wq ⟨vq, Hq, rfl, xq, sq⟩; obtain ⟨aq, cq, rfl, _, _⟩ := sq.form; have lq := xq.le (by assumption); have kq := xq.holds; have k1 : Holds H7 wq := xq.holds.mono lq; have k2 : Ext w H wq H7 := Ext.step (by assumption) (xq.below.mono (by assumption : Ext w H _ H7).below.size) k1)) | ((go_split_ands; go_at_call 19; refine (hcan0.out Hq _ _ (by assumption) (hh7.mono lq) sq).mono ?_; rintro e wz ⟨rfl, hbz⟩; have k1 : Holds H7 wz := Holds.below (by assumption) hbz; have k2 : Ext w H wz H7 := Ext.step (by assumption) (hbz.mono (by assumption : Ext w H _ H7).below.size) k1)))
            all_goals
              go_split_ands
              go_wp2_with fail
              go_meet
              exact ⟨rfl, rfl, by assumption⟩
          case rest =>
            obtain ⟨rfl, rfl, x8⟩ := hcut
            have hw8 := x8.holds
            go_upto_region 8 with fail
            go_cut [67] (fun b wc => b = .bool false ∧ Ext w H wc H7)
            case first =>
              have hC0 := hC0.out
              cases D
              · obtain rfl := hC0 rfl
                go_wp2
                go_meet
                exact ⟨rfl, x8⟩
              · go_wp2
                go_meet
                exact ⟨rfl, x8⟩
            case rest =>
              obtain ⟨rfl, x9⟩ := hcut
              clear x8 hw8 hC0
              go_wp2
              go_loopw [10] (fun i wr => ∃ m : Nat, m ≤ plan.length ∧ i = .int .i64 m ∧ Ext w H wr H7) (fun i _ => plan.length - (intOf i).toNat)
              case atStart => exact ⟨0, Nat.zero_le _, rfl, x9⟩
              case round =>
                clear x9
                obtain ⟨m, hm, rfl, xr⟩ := hrel
                have hwr := xr.holds
                by_cases hlm : m < plan.length
                · obtain ⟨l, hl⟩ := At.mk hlm
                  have hmI : I64 (m : Int) := by unfold I64; omega
                  have hcm := hcan.out (m : Int) hmI (by unfold isCaseA; rw [hmach.out m hlm, Bool.or_true])
                  have hfm := hfit.out (m : Int) hmI (hmach.out m hlm)
                  have hCm' : D = false → (((l.length : Int) == 0) = true) → canA h set (m : Int) = true := fun e e2 => hCm.out m hlm e (by
                    rw [hl.getD]; exact List.eq_nil_of_length_eq_zero (by have := (beq_iff_eq.1 e2); omega))
                  have hFm : ∀ b ∈ l, (bund h.hs b).e ∈ fitA h (m : Int) set := fun b hb => hFit.out m l b hl hb
                  have hFlm := hFl.out (m : Int)
                  generalize canA h set (m : Int) = CM at *
                  generalize fitA h (m : Int) set = FM at *
                  obtain ⟨bp, op, cp', u, hez, hsl, hrl⟩ := hp7.list hl
                  cases hez
                  obtain ⟨al, cl, rfl, _, _⟩ := hsl.form
                  have hll : l.length ≤ 40 := hps40.out l hl.mem
                  have hlb := hbd.out l hl.mem
                  have hm0 : (0 : Int) ≤ (m : Int) := by omega
                  have hm1 : (m : Int) < (plan.length : Int) := by omega
                  have hFl2 : decide (h.ed.length < FM.length) = false := decide_eq_false (by omega)
                  replace hcm := Lib.hid hcm
                  replace hfm := Lib.hid hfm
                  replace hCm' := Lib.hid hCm'
                  replace hFm := Lib.hid hFm
                  replace hlb := Lib.hid hlb
                  clear hFlm
                  go_upto_region 13 with fail
                  go_cut [11, 12] (fun c e wc => c = .bool CM ∧ e = .int .i64 0 ∧ Ext w H wc H7)
                  case first =>
                    go_region_held3 (fun w' => Holds H7 w' ∧ Ext w H w' H7) (first | assumption | exact ⟨by assumption, by assumption⟩ | (go_split_ands; exact ⟨Holds.drew (by assumption), Ext.drew (by assumption)⟩) | (go_split_ands; exact ⟨Holds.alloc (by assumption) _, Ext.alloc (by assumption) _⟩) | (go_split_ands; exact ⟨Holds.drew (Holds.alloc (by assumption) _), Ext.drew (Ext.alloc (by assumption) _)⟩)) (first | ((go_split_ands; go_at_call 20; refine (copySetP_any _ set H7 _ (by assumption) ss7).mono ?_; rintro e wq ⟨vq, Hq, rfl, xq, sq⟩; obtain ⟨aq, cq, rfl, _, _⟩ := sq.form; have lq := xq.le (by assumption); have kq := xq.holds; have k1 : Holds H7 wq := xq.holds.mono lq; have k2 : Ext w H wq H7 := Ext.step (by assumption) (xq.below.mono (by assumption : Ext w H _ H7).below.size) k1)) | ((go_split_ands; go_at_call 19; refine (hcm.out Hq _ _ (by assumption) (hh7.mono lq) sq).mono ?_; rintro e wz ⟨rfl, hbz⟩; have k1 : Holds H7 wz := Holds.below (by assumption) hbz; have k2 : Ext w H wz H7 := Ext.step (by assumption) (hbz.mono (by assumption : Ext w H _ H7).below.size) k1)))
                    all_goals
                      go_split_ands
                      go_wp2_with fail
                      go_meet
                      exact ⟨rfl, rfl, by assumption⟩
                  case rest =>
                    obtain ⟨rfl, rfl, x11⟩ := hcut
                    have hw11 := x11.holds
                    go_upto_region 14 with fail
                    go_cut [13, 14] (fun f e wc => e = .int .i64 0 ∧ ∃ a c H9, f = .slice a FM.length c ∧ SLe H7 H9 ∧ Ext w H wc H9 ∧ Sl H9 (.slice a FM.length c) FM)
                    case first =>
                      go_region_held3 (fun w' => Holds H7 w' ∧ Ext w H w' H7) (first | assumption | exact ⟨by assumption, by assumption⟩ | (go_split_ands; exact ⟨Holds.drew (by assumption), Ext.drew (by assumption)⟩) | (go_split_ands; exact ⟨Holds.alloc (by assumption) _, Ext.alloc (by assumption) _⟩) | (go_split_ands; exact ⟨Holds.drew (Holds.alloc (by assumption) _), Ext.drew (Ext.alloc (by assumption) _)⟩)) (first | ((go_split_ands; go_at_call 20; refine (copySetP_any _ set H7 _ (by assumption) ss7).mono ?_; rintro e wq ⟨vq, Hq, rfl, xq, sq⟩; obtain ⟨aq, cq, rfl, _, _⟩ := sq.form; have lq := xq.le (by assumption); have kq := xq.holds; have xxq : Ext w H wq Hq := Ext.trans (by assumption) xq; have k1 : Holds H7 wq := xq.holds.mono lq; have k2 : Ext w H wq H7 := Ext.step (by assumption) (xq.below.mono (by assumption : Ext w H _ H7).below.size) k1)) | ((go_split_ands; go_at_call 32; refine (hfm.out Hq _ _ (by assumption) (hh7.mono lq) sq).mono ?_; rintro e wz ⟨vz, Hz, rfl, xz, uz, rfl, sz⟩; obtain ⟨az, cz, rfl, _, _⟩ := sz.form; have lz := xz.le kq; have xxz := xxq.trans xz; have k1 : Holds H7 wz := xz.holds.mono (lq.trans lz); have k2 : Ext w H wz H7 := Ext.step (by assumption) (xz.below.mono (by assumption : Ext w H _ H7).below.size) k1)))
                      all_goals
                        go_split_ands
                        go_wp2_with fail
                        go_meet
                        exact ⟨rfl, _, _, Hz, rfl, lq.trans lz, by first | exact xxz | exact xxz.drew, sz⟩
                    case rest =>
                      obtain ⟨rfl, af, cf, H9, rfl, l9, x12, s12⟩ := hcut
                      have hw12 := x12.holds
                      replace hc0 := lift l9 hc0
                      replace hc1 := lift l9 hc1
                      replace hc2 := lift l9 hc2
                      replace hc3 := lift l9 hc3
                      replace hc4 := lift l9 hc4
                      replace hc5 := lift l9 hc5
                      replace hrl := lift l9 hrl
                      go_upto_region 15 with fail
                      go_cut [119] (fun b wc => b = .bool false ∧ Ext w H wc H9)
                      case first =>
                        have hCm := hCm'.out
                        cases D
                        · cases hz : ((l.length : Int) == 0)
                          · go_wp2
                            go_meet
                            exact ⟨rfl, x12⟩
                          · obtain rfl := hCm rfl hz
                            go_wp2
                            go_meet
                            exact ⟨rfl, x12⟩
                        · go_wp2
                          go_meet
                          exact ⟨rfl, x12⟩
                      case rest =>
                        obtain ⟨rfl, x13⟩ := hcut
                        have hbs9 := ((hh7.hs).mono l9).b
                        have hsl9 := hsl.mono l9
                        clear x12 hw12 hCm'
                        go_wp2
                        go_loopw [15] (fun i wr => ∃ k : Nat, k ≤ l.length ∧ i = .int .i64 k ∧ Ext w H wr H9) (fun i _ => l.length - (intOf i).toNat)
                        case atStart => exact ⟨0, Nat.zero_le _, rfl, x13⟩
                        case round =>
                          clear x13
                          obtain ⟨k, hk, rfl, xk⟩ := hrel
                          have hwk := xk.holds
                          by_cases hlk : k < l.length
                          · obtain ⟨b, hb⟩ := At.mk hlk
                            obtain ⟨bl, ol, cl', hez, hib, hrb⟩ := hsl9.int hb
                            cases hez
                            obtain ⟨hb0, hb9⟩ := hlb.out b hb.mem
                            have hin := hFm.out b hb.mem
                            obtain ⟨j, rfl⟩ : ∃ j : Nat, b = (j : Int) := ⟨b.toNat, by omega⟩
                            have hj : j < h.hs.bs.length := by omega
                            obtain ⟨x, hx⟩ := At.mk hj
                            obtain ⟨bb, ob, cb', hez, ⟨hx1, hx2, hx3⟩, q1, q2, q3⟩ := hbs9.bund hx
                            cases hez
                            rw [hx.bund] at hin
                            have hdin : decide (x.e ∈ FM) = true := decide_eq_true hin
                            have hcin : ∀ (W : World), Holds H9 W → Calls Try.prog 21 #[.slice af FM.length cf, .int .i64 x.e] W (PostV W (.bool true)) := fun W hW => by
                              rw [← hdin]; exact in_any _ FM x.e H9 W hW s12
                            have hj0 : (0 : Int) ≤ (j : Int) := by omega
                            have hj1 : (j : Int) < (h.hs.bs.length : Int) := by omega
                            have hk0 : (0 : Int) ≤ (k : Int) := by omega
                            have hk1 : (k : Int) < (l.length : Int) := by omega
                            replace hcin := Lib.hid hcin
                            clear hdin hin
                            go_upto_region 20 with fail
                            refine wp_region_quietB H9 (by kernel_rfl) (by kernel_rfl) hwk (fun hne => ?_)
                            repeat go_big_quiet_step ((first | (go_at_call 21; exact Calls.quietB (hcin.out _ (WB.holds _)))))
                            refine wpQuiet_nil ?_
                            rintro ⟨w2, hw2, hb2⟩
                            clear hne
                            have xk2 := xk.step (hb2.mono xk.below.size) hw2
                            go_wp2
                            go_roundw
                            case rel => exact ⟨k + 1, by omega, by go_num, xk2⟩
                            case measure => simp [intOf]; omega
                          · go_wp2
                            go_roundw
                            case rel => exact ⟨m + 1, by omega, by go_num, xk.back xr l9⟩
                            case measure => simp [intOf]; omega
                · go_wp2_with (first | (go_at_call 13; refine (works9_any H7 _ hwr).mono ?_; rintro e w13 ⟨rfl, hb13⟩))
                  go_ret
                  exact ⟨rfl, xr.below.trans (hb13.mono xr.below.size)⟩

end Go.Proofs.Ytngdppajailpcaa

namespace Go.Proofs.Ytngdppajailpcaa
open Go.ChangeShapes Go.WideShapes Go.ChangeAt Go.RowKit

theorem machinesPlan_own : ownKnob Try.prog.godebug = none := by kernel_rfl
theorem machinesPlan_laid : laidOutB Try.prog = true := by kernel_rfl

set_option maxHeartbeats 1600000 in
set_option maxRecDepth 100000 in
theorem machinesPlan_lifted (os : Os) (started : os.Started) (H : Type) (enc : TypeId × Value → H) :
    ReturnsInHanded {} Try.checked os 10 .any (Rows.machinesPlanSpec.pre6 enc Try.prog Try.f10 Rows.machinesPlanRow.domain false) (Rows.machinesPlanSpec.post enc Try.prog Try.f10 false true false false) := by
  refine returnsInHanded_of_change_sized (C := Try.checked) machinesPlan_own started (by kernel_rfl) Try.func10
    (ChangeSpec.witness6 (enc := enc) (C := Try.checked) false ⟨#[], #[.agg #[.slice none 0 0, .slice none 0 0, .slice none 0 0, .int .i64 0, .slice none 0 0, .slice none 0 0], .slice none 0 0], []⟩ 8 (by kernel_rfl) (by kernel_rfl) (by kernel_rfl) (by kernel_rfl)) ?_
  intro W base args ds gs before hval0 hW _ hsz _
  have hval : ∀ (j : Nat) t v, Try.f10.params[j]? = some t → args[j]? = some v → Value.okWide Try.prog W .any base t v := hval0
  have hW' := hW
  obtain ⟨p, q, hA0, hV, rfl, _, _⟩ := hW
  have hA : DataW.TrodAll enc Try.prog W 0 (fun _ => true) true Try.f10.params.toList args.toList ds p := hA0
  have hS : (DataW.weightsEach Try.prog (Try.f10.params.toList ++ []) (ds ++ gs)).all (· ≤ reachBytes) = true := hsz
  rw [Try.params10] at hA hval hS
  obtain ⟨v0, v1, d0, d1, p0, p1, rfl, rfl, rfl, h0, h1⟩ := trodAll_two hA
  obtain ⟨rfl, rfl⟩ := trodVars_none hV
  clear hA0 hval0 hsz
  simp only [List.append_nil] at hW' hS
  have hlt : ∀ x ∈ p0 ++ p1, x.block < W.heap.size := fun x hx => by simpa using hW'.lt x hx
  have harg0 : ∀ W', Below W.heap.size W W' → DataW.Trod enc Try.prog W' 0 (fun b => decide (b < W.heap.size)) true 29 v0 d0 p0 := fun W' hb =>
    Below.trod machinesPlan_laid (by kernel_rfl) (of_decide_eq_true (by kernel_rfl)) h0 hb (fun x hx => hlt x (List.mem_append.2 (.inl hx)))
  have hw0 : ∀ k ∈ d0.weights Try.prog 29, k ≤ reachBytes := fun k hk => by
    simpa using List.all_eq_true.1 hS k (DataW.weights_mem_each (j := 0) rfl rfl k hk)
  have harg1 : ∀ W', Below W.heap.size W W' → DataW.Trod enc Try.prog W' 0 (fun b => decide (b < W.heap.size)) true 27 v1 d1 p1 := fun W' hb =>
    Below.trod machinesPlan_laid (by kernel_rfl) (of_decide_eq_true (by kernel_rfl)) h1 hb (fun x hx => hlt x (List.mem_append.2 (.inr hx)))
  have hw1 : ∀ k ∈ d1.weights Try.prog 27, k ≤ reachBytes := fun k hk => by
    simpa using List.all_eq_true.1 hS k (DataW.weights_mem_each (j := 1) rfl rfl k hk)
  obtain ⟨vm, vb, vt, vo, ve, hs, rfl, hh⟩ := hall_opened (hval 0 29 v0 rfl rfl) h0 hw0
  obtain ⟨a1, l1, c1, rfl⟩ := okWide_slice Try.underlying27 (hval 1 27 v1 rfl rfl)
  obtain ⟨n1, h1'⟩ := h1
  obtain ⟨xs1, hx1⟩ := lists_opened (by simpa [Value.cells] using h1') hw1
  refine (machinesPlan_any vm vb vt vo ve _ hs xs1 (snapOf W) W (snapOf_holds W) hh hx1).mono fun e W' ⟨he, hb⟩ => ?_
  subst he
  refine ⟨_, rfl, _, _, _, [], _, [], hW', ?_, trodAll_mk2 (harg0 W' hb) (harg1 W' hb), rfl, hb.frame _, fun h => by cases h⟩
  exact trodAll_mk1 (shut_bool Try.underlying4 _)

theorem machinesPlan_said : Rows.MachinesPlanSaid :=
  OpenClaim.holds_of_wide 10 Try.f10 rfl rfl rfl rfl rfl rfl rfl ⟨rfl, rfl, rfl, rfl, rfl⟩ rfl rfl rfl rfl rfl (by kernel_rfl) Try.func10 (by kernel_rfl)
    (of_decide_eq_true (by kernel_rfl)) (by unfold Func.isWrapper; first | (rw [if_pos (by decide +kernel)]; kernel_rfl) | (rw [if_neg (by decide +kernel)]; exact ⟨rfl, rfl⟩))
    (fun os started H enc _ => machinesPlan_lifted os started H enc)

end Go.Proofs.Ytngdppajailpcaa
