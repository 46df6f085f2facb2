/- Proved here: MachinesIdleSaid: the law MachinesIdle returns true for every hall and set, and they read afterwards as they did. Conditions: none beyond those of the given statement. -/
import Derived.Test.YtngdppajailpcaaGreatG24
import Derived.Test.YtngdppajailpcaaGreatG25
import Derived.Test.YtngdppajailpcaaGreatG26
import Derived.Test.YtngdppajailpcaaGreatG27
import Derived.Test.YtngdppajailpcaaGreatG28
import Derived.Test.YtngdppajailpcaaGreatRows
import Derived.ProofKit

set_option linter.all false

namespace Go.Proofs.YtngdppajailpcaaGreat
open Go.RowKit

attribute [local go_sem] Holds.drew Holds.alloc Holds.drewN WB.holds Oper.semAt_some FW_fn FW_dep FW_round

theorem sureA_hall {h : Hall} (hv : ValidH h) : (joinsH h = [] → sureA h.hs = false) ∧ (joinsH h ≠ [] → sureA h.hs = true) := by
  have e : sureA h.hs = sureB h.hs [] := by rw [← sureT_eq]; unfold sureT; rw [valid_iff.2 hv.hs]; rfl
  have k := joinsH_sure hv
  rw [e]
  constructor
  · intro hj
    cases hb : sureB h.hs [] with
    | false => rfl
    | true => exact absurd hj (k.2 hb)
  · exact k.1
theorem enough_ne {h : Hall} (hv : ValidH h) {set : List Plate} (hs : setOk set = true) (hd : doAllC (countsOf set) (allA h) = true) : joinsH h ≠ [] := fun e => by
  obtain ⟨y, hy, _⟩ := (doAll_joins hv (countsOf_cn hs)).1 hd
  rw [e] at hy; cases hy
structure BestC (h : Hall) (c : Cnt) : Prop where
  set : setA h = setOf c
  cn : Cn c
  nine : ∀ k, k < 12 → gT c k ≤ 9
  num : cntSum c = numC h zero12
  does : doAllC c (allA h) = true
  least : ∀ x, Cn x → doAllC x (allA h) = true → cntLt x c = false ∧ cntSum c ≤ cntSum x
theorem bestC_of {h : Hall} (hv : ValidH h) (hj : joinsH h ≠ []) : ∃ c, BestC h c := by
  cases e : leastA h zero12 with
  | none => exact absurd ((leastA_none hv Cn.zero).1 e) hj
  | some c =>
    obtain ⟨⟨y, hy, hcy⟩, hmin⟩ := leastA_some hv Cn.zero e
    have hyc := joinsH_cn3 hv y hy
    have hz : ∀ z ∈ joinsH h, cntMax zero12 z = z := fun z hz => by
      have h3 := joinsH_cn3 hv z hz
      refine gt_ext (by rw [cntMax_len (by rw [Cn.zero.len, h3.len])]; exact Cn.zero.len) h3.len fun k hk => ?_
      rw [cntMax_at Cn.zero.len h3.len hk, gt_zero hk]
      have := h3.bd k hk
      omega
    rw [hz y hy] at hcy
    subst hcy
    have hcc := hyc.cn
    refine ⟨c, ?_, hcc, fun k hk => by have := hyc.bd k hk; omega, ?_, ?_, ?_⟩
    · unfold setA; rw [validHall_iff.2 hv, if_pos rfl, e]
    · unfold numC; rw [e]
      show cntSum c = cntSum c - cntSum zero12
      rw [show cntSum zero12 = 0 by decide]; omega
    · exact (doAll_joins hv hcc).2 ⟨c, hy, cntLe_refl c⟩
    · intro x hx hd
      obtain ⟨z, hzj, hzx⟩ := (doAll_joins hv hx).1 hd
      have h1 := hmin z hzj
      rw [hz z hzj] at h1
      have hzl : z.length = x.length := by rw [(joinsH_cn3 hv z hzj).len, hx.len]
      have hcl : c.length = x.length := by rw [hyc.len, hx.len]
      have hs := cntLe_sum hzl hzx
      constructor
      · rcases cntLe_lt hzl hzx with e2 | e2
        · rw [← e2]; exact h1
        · cases h2 : cntLt x c with
          | false => rfl
          | true => rw [cntLt_trans e2 h2] at h1; cases h1
      · rcases Int.lt_or_le (cntSum z) (cntSum c) with h2 | h2
        · rw [cntLt_iff.2 (.inl h2)] at h1; cases h1
        · omega

set_option maxRecDepth 100000 in
set_option maxHeartbeats 8000000 in
theorem machinesEnough_any (vm vb vt vo ve vs : Value) (h : Hall) (set : List Plate) (H : Snap) (w : World) (hw : Holds H w) (hh : Hal H vm vb vt vo ve h) (hs : Sl H vs set) : Calls Tryz.prog 7 #[halV vm vb vt vo ve h, vs] w (PostV w (.bool true)) := by
  cases hr : ready9 h
  · go_enter Tryz.func7, Tryz.ntmps7
    go_wp2_with (first
      | (have hgd := x2; clear hgd; go_at_call 9; refine (works9_any H1 _ x2.holds).mono ?_; rintro e w3 ⟨rfl, hb3⟩; have x3 := x2.step (hb3.mono x2.below.size) (x2.holds.below hb3); have hw3 := x3.holds)
      | (have hgd := x1; clear hgd; go_at_call 31; refine (ready9_any _ _ _ _ _ _ H1 _ x1.holds (hh.mono hle)).mono ?_; rintro e w2 ⟨rfl, hb2⟩; rw [hr]; have x2 := x1.step (hb2.mono x1.below.size) (x1.holds.below hb2); have hw2 := x2.holds)
      | (have hgd := hw; clear hgd; refine wpList_boxF rfl _ rfl (Ext.refl hw) ?_; intro B w1 H1 hle hx hB hBw; obtain ⟨hc0, hc1, hc2, hc3, hc4, hc5⟩ := cellsHal hB; clear hB hw; have hw1 := hx.holds; have x1 := hx))
    go_ret
    exact ⟨rfl, x3.below⟩
  · have hv := ready9_valid hr
    have hvh := validHall_iff.2 hv
    have hfw := fun (S : Snap) (W : World) (hW : Holds S W) hh => fewestL9_any vm vb vt vo ve h hv S W hW hh
    have hse := fun (S : Snap) (W : World) (hW : Holds S W) hh => setM_any vm vb vt vo ve h S W hW hh
    have hsu := fun (S : Snap) (W : World) (hW : Holds S W) (hh : Hal S vm vb vt vo ve h) => sureP_any vm vb vt h.hs S W hW hh.hs
    have heT : errT (valid h.hs) = 0 := by rw [valid_iff.2 hv.hs]; rfl
    rw [heT] at hsu
    have hso : setOk (setA h) = true := setA_ok
    obtain ⟨ss, cs, rfl, _, _⟩ := hs.form
    rcases fewest_num hv with ⟨n1, n2, n3, n4⟩ | ⟨n1, n2, n3, n4, n5⟩
    · rw [n4] at hfw
      rw [n2] at hse
      rw [(sureA_hall hv).1 n1] at hsu
      have hno : setOk set = true → doAllC (countsOf set) (allA h) = false := fun hst => by
        cases hd : doAllC (countsOf set) (allA h) with
        | false => rfl
        | true => exact absurd n1 (enough_ne hv hst hd)
      clear n1 n2 n3 n4 heT hso
      replace hfw := Lib.hid hfw
      replace hse := Lib.hid hse
      replace hsu := Lib.hid hsu
      cases hst : setOk set
      · clear hno
        go_enter Tryz.func7, Tryz.ntmps7
        go_wp2_with (first
          | (have hgd := x7; clear hgd; go_at_call 9; refine (works9_any H4 _ x7.holds).mono ?_; rintro e w8 ⟨rfl, hb8⟩; have x8 := x7.step (hb8.mono x7.below.size) (x7.holds.below hb8); have hw8 := x8.holds)
          | (have hgd := x6; clear hgd; go_at_call 32; refine (isSetL_any _ set H4 _ x6.holds ((hs.mono hle).mono l4)).mono ?_; rintro e w7 ⟨rfl, hb7⟩; have x7 := x6.step (hb7.mono x6.below.size) (x6.holds.below hb7); have hw7 := x7.holds)
          | (have hgd := x5; clear hgd; go_at_call 35; refine (isKnown_any 3 _).mono ?_; rintro e w6 ⟨rfl, hb6⟩; have x6 := x5.step (hb6.mono x5.below.size) (x5.holds.below hb6); have hw6 := x6.holds)
          | (have hgd := x4; clear hgd; go_at_call 40; refine (hsu.out H4 _ x4.holds ((hh.mono hle).mono l4)).mono ?_; rintro e w5 ⟨rfl, hb5⟩; have x5 := x4.step (hb5.mono x4.below.size) (x4.holds.below hb5); have hw5 := x5.holds)
          | (have hgd := x3; clear hgd; go_at_call 16; refine (hse.out H1 _ x3.holds (hh.mono hle)).mono ?_; rintro e w4 ⟨v4, H4, rfl, y4, u4, rfl, s4⟩; obtain ⟨a4, c4, rfl, _, _⟩ := s4.form; have x4 := x3.trans y4; have l4 := y4.le x3.holds; have hw4 := x4.holds; replace hc0 := lift l4 hc0; replace hc1 := lift l4 hc1; replace hc2 := lift l4 hc2; replace hc3 := lift l4 hc3; replace hc4 := lift l4 hc4; replace hc5 := lift l4 hc5)
          | (have hgd := x2; clear hgd; go_at_call 33; refine (hfw.out H1 _ x2.holds (hh.mono hle)).mono ?_; rintro e w3 ⟨rfl, hb3⟩; have x3 := x2.step (hb3.mono x2.below.size) (x2.holds.below hb3); have hw3 := x3.holds)
          | (have hgd := x1; clear hgd; go_at_call 31; refine (ready9_any _ _ _ _ _ _ H1 _ x1.holds (hh.mono hle)).mono ?_; rintro e w2 ⟨rfl, hb2⟩; rw [hr]; have x2 := x1.step (hb2.mono x1.below.size) (x1.holds.below hb2); have hw2 := x2.holds)
          | (have hgd := hw; clear hgd; refine wpList_boxF rfl _ rfl (Ext.refl hw) ?_; intro B w1 H1 hle hx hB hBw; obtain ⟨hc0, hc1, hc2, hc3, hc4, hc5⟩ := cellsHal hB; clear hB hw; have hw1 := hx.holds; have x1 := hx))
        go_ret
        exact ⟨rfl, x8.below⟩
      · have hen := fun (S : Snap) (W : World) (hW : Holds S W) hh hs => isEnough9_any vm vb vt vo ve (.slice ss set.length cs) h hv set hst S W hW hh hs
        rw [hno hst] at hen
        replace hen := Lib.hid hen
        clear hno
        go_enter Tryz.func7, Tryz.ntmps7
        go_wp2_with (first
          | (have hgd := x8; clear hgd; go_at_call 9; refine (works9_any H4 _ x8.holds).mono ?_; rintro e w9 ⟨rfl, hb9⟩; have x9 := x8.step (hb9.mono x8.below.size) (x8.holds.below hb9); have hw9 := x9.holds)
          | (have hgd := x7; clear hgd; go_at_call 34; refine (hen.out H4 _ x7.holds ((hh.mono hle).mono l4) ((hs.mono hle).mono l4)).mono ?_; rintro e w8 ⟨rfl, hb8⟩; have x8 := x7.step (hb8.mono x7.below.size) (x7.holds.below hb8); have hw8 := x8.holds)
          | (have hgd := x6; clear hgd; go_at_call 32; refine (isSetL_any _ set H4 _ x6.holds ((hs.mono hle).mono l4)).mono ?_; rintro e w7 ⟨rfl, hb7⟩; have x7 := x6.step (hb7.mono x6.below.size) (x6.holds.below hb7); have hw7 := x7.holds)
          | (have hgd := x5; clear hgd; go_at_call 35; refine (isKnown_any 3 _).mono ?_; rintro e w6 ⟨rfl, hb6⟩; have x6 := x5.step (hb6.mono x5.below.size) (x5.holds.below hb6); have hw6 := x6.holds)
          | (have hgd := x4; clear hgd; go_at_call 40; refine (hsu.out H4 _ x4.holds ((hh.mono hle).mono l4)).mono ?_; rintro e w5 ⟨rfl, hb5⟩; have x5 := x4.step (hb5.mono x4.below.size) (x4.holds.below hb5); have hw5 := x5.holds)
          | (have hgd := x3; clear hgd; go_at_call 16; refine (hse.out H1 _ x3.holds (hh.mono hle)).mono ?_; rintro e w4 ⟨v4, H4, rfl, y4, u4, rfl, s4⟩; obtain ⟨a4, c4, rfl, _, _⟩ := s4.form; have x4 := x3.trans y4; have l4 := y4.le x3.holds; have hw4 := x4.holds; replace hc0 := lift l4 hc0; replace hc1 := lift l4 hc1; replace hc2 := lift l4 hc2; replace hc3 := lift l4 hc3; replace hc4 := lift l4 hc4; replace hc5 := lift l4 hc5)
          | (have hgd := x2; clear hgd; go_at_call 33; refine (hfw.out H1 _ x2.holds (hh.mono hle)).mono ?_; rintro e w3 ⟨rfl, hb3⟩; have x3 := x2.step (hb3.mono x2.below.size) (x2.holds.below hb3); have hw3 := x3.holds)
          | (have hgd := x1; clear hgd; go_at_call 31; refine (ready9_any _ _ _ _ _ _ H1 _ x1.holds (hh.mono hle)).mono ?_; rintro e w2 ⟨rfl, hb2⟩; rw [hr]; have x2 := x1.step (hb2.mono x1.below.size) (x1.holds.below hb2); have hw2 := x2.holds)
          | (have hgd := hw; clear hgd; refine wpList_boxF rfl _ rfl (Ext.refl hw) ?_; intro B w1 H1 hle hx hB hBw; obtain ⟨hc0, hc1, hc2, hc3, hc4, hc5⟩ := cellsHal hB; clear hB hw; have hw1 := hx.holds; have x1 := hx))
        go_ret
        exact ⟨rfl, x9.below⟩
    · obtain ⟨c, B⟩ := bestC_of hv n1
      rw [n2] at hse
      rw [(sureA_hall hv).2 n1] at hsu
      have hsp : platesOf (setA h) = numC h zero12 := by rw [plates_setA, n3]
      have hsd : doAllC (countsOf (setA h)) (allA h) = true := by rw [B.set, countsOf_setOf B.cn]; exact B.does
      have hcs : countsOf (setA h) = c := by rw [B.set, countsOf_setOf B.cn]
      have hPs := fun (a : Value) (S : Snap) (W : World) (hW : Holds S W) hs => platesOf9_any a (setA h) S W hW hs hso
      have hEs := fun (a : Value) (S : Snap) (W : World) (hW : Holds S W) hh hs => isEnough9_any vm vb vt vo ve a h hv (setA h) hso S W hW hh hs
      have hCs := fun (a : Value) (S : Snap) (W : World) (hW : Holds S W) hs => countsOf9_any a (setA h) S W hW hs hso
      have hIs := fun (a : Value) (S : Snap) (W : World) (hW : Holds S W) hs => isSetL_any a (setA h) S W hW hs
      rw [hsp] at hPs
      rw [hsd] at hEs
      rw [hcs] at hCs
      rw [hso] at hIs
      have hnum := B.num
      have hlst := B.least
      have hccn := B.cn
      clear hsp hsd hcs B heT
      generalize setA h = ST at *
      generalize numC h zero12 = NV at *
      have hd1 : decide (NV < 10000) = true := decide_eq_true (by omega)
      replace hfw := Lib.hid hfw
      replace hse := Lib.hid hse
      replace hsu := Lib.hid hsu
      replace hPs := Lib.hid hPs
      replace hEs := Lib.hid hEs
      replace hCs := Lib.hid hCs
      replace hIs := Lib.hid hIs
      clear hso n1 n2 n3
      cases hst : setOk set
      · go_enter Tryz.func7, Tryz.ntmps7
        go_wp2_with (first
          | (have hgd := x10; clear hgd; go_at_call 9; refine (works9_any H4 _ x10.holds).mono ?_; rintro e w11 ⟨rfl, hb11⟩; have x11 := x10.step (hb11.mono x10.below.size) (x10.holds.below hb11); have hw11 := x11.holds)
          | (have hgd := x9; clear hgd; go_at_call 32; refine (isSetL_any _ set H4 _ x9.holds ((hs.mono hle).mono l4)).mono ?_; rintro e w10 ⟨rfl, hb10⟩; have x10 := x9.step (hb10.mono x9.below.size) (x9.holds.below hb10); have hw10 := x10.holds)
          | (have hgd := x8; clear hgd; go_at_call 34; refine (hEs.out _ H4 _ x8.holds ((hh.mono hle).mono l4) s4).mono ?_; rintro e w9 ⟨rfl, hb9⟩; have x9 := x8.step (hb9.mono x8.below.size) (x8.holds.below hb9); have hw9 := x9.holds)
          | (have hgd := x7; clear hgd; go_at_call 37; refine (hPs.out _ H4 _ x7.holds s4).mono ?_; rintro e w8 ⟨rfl, hb8⟩; have x8 := x7.step (hb8.mono x7.below.size) (x7.holds.below hb8); have hw8 := x8.holds)
          | (have hgd := x6; clear hgd; go_at_call 32; refine (hIs.out _ H4 _ x6.holds s4).mono ?_; rintro e w7 ⟨rfl, hb7⟩; have x7 := x6.step (hb7.mono x6.below.size) (x6.holds.below hb7); have hw7 := x7.holds)
          | (have hgd := x5; clear hgd; go_at_call 35; refine (isKnown_any 0 _).mono ?_; rintro e w6 ⟨rfl, hb6⟩; have x6 := x5.step (hb6.mono x5.below.size) (x5.holds.below hb6); have hw6 := x6.holds)
          | (have hgd := x4; clear hgd; go_at_call 40; refine (hsu.out H4 _ x4.holds ((hh.mono hle).mono l4)).mono ?_; rintro e w5 ⟨rfl, hb5⟩; have x5 := x4.step (hb5.mono x4.below.size) (x4.holds.below hb5); have hw5 := x5.holds)
          | (have hgd := x3; clear hgd; go_at_call 16; refine (hse.out H1 _ x3.holds (hh.mono hle)).mono ?_; rintro e w4 ⟨v4, H4, rfl, y4, u4, rfl, s4⟩; obtain ⟨a4, c4, rfl, _, _⟩ := s4.form; have x4 := x3.trans y4; have l4 := y4.le x3.holds; have hw4 := x4.holds; replace hc0 := lift l4 hc0; replace hc1 := lift l4 hc1; replace hc2 := lift l4 hc2; replace hc3 := lift l4 hc3; replace hc4 := lift l4 hc4; replace hc5 := lift l4 hc5)
          | (have hgd := x2; clear hgd; go_at_call 33; refine (hfw.out H1 _ x2.holds (hh.mono hle)).mono ?_; rintro e w3 ⟨rfl, hb3⟩; have x3 := x2.step (hb3.mono x2.below.size) (x2.holds.below hb3); have hw3 := x3.holds)
          | (have hgd := x1; clear hgd; go_at_call 31; refine (ready9_any _ _ _ _ _ _ H1 _ x1.holds (hh.mono hle)).mono ?_; rintro e w2 ⟨rfl, hb2⟩; rw [hr]; have x2 := x1.step (hb2.mono x1.below.size) (x1.holds.below hb2); have hw2 := x2.holds)
          | (have hgd := hw; clear hgd; refine wpList_boxF rfl _ rfl (Ext.refl hw) ?_; intro B w1 H1 hle hx hB hBw; obtain ⟨hc0, hc1, hc2, hc3, hc4, hc5⟩ := cellsHal hB; clear hB hw; have hw1 := hx.holds; have x1 := hx))
        go_ret
        exact ⟨rfl, x11.below⟩
      · have hen := fun (S : Snap) (W : World) (hW : Holds S W) hh hs => isEnough9_any vm vb vt vo ve (.slice ss set.length cs) h hv set hst S W hW hh hs
        have hpl := fun (S : Snap) (W : World) (hW : Holds S W) hs => platesOf9_any (.slice ss set.length cs) set S W hW hs hst
        have hcn2 := fun (S : Snap) (W : World) (hW : Holds S W) hs => countsOf9_any (.slice ss set.length cs) set S W hW hs hst
        have hps := platesOf_sum set (setOk_iff.1 hst).1
        have hcc := countsOf_cn hst
        cases hd : doAllC (countsOf set) (allA h)
        · rw [hd] at hen
          replace hen := Lib.hid hen
          clear hd hpl hcn2
          go_enter Tryz.func7, Tryz.ntmps7
          go_wp2_with (first
            | (have hgd := x11; clear hgd; go_at_call 9; refine (works9_any H4 _ x11.holds).mono ?_; rintro e w12 ⟨rfl, hb12⟩; have x12 := x11.step (hb12.mono x11.below.size) (x11.holds.below hb12); have hw12 := x12.holds)
            | (have hgd := x10; clear hgd; go_at_call 34; refine (hen.out H4 _ x10.holds ((hh.mono hle).mono l4) ((hs.mono hle).mono l4)).mono ?_; rintro e w11 ⟨rfl, hb11⟩; have x11 := x10.step (hb11.mono x10.below.size) (x10.holds.below hb11); have hw11 := x11.holds)
            | (have hgd := x9; clear hgd; go_at_call 32; refine (isSetL_any _ set H4 _ x9.holds ((hs.mono hle).mono l4)).mono ?_; rintro e w10 ⟨rfl, hb10⟩; have x10 := x9.step (hb10.mono x9.below.size) (x9.holds.below hb10); have hw10 := x10.holds)
            | (have hgd := x8; clear hgd; go_at_call 34; refine (hEs.out _ H4 _ x8.holds ((hh.mono hle).mono l4) s4).mono ?_; rintro e w9 ⟨rfl, hb9⟩; have x9 := x8.step (hb9.mono x8.below.size) (x8.holds.below hb9); have hw9 := x9.holds)
            | (have hgd := x7; clear hgd; go_at_call 37; refine (hPs.out _ H4 _ x7.holds s4).mono ?_; rintro e w8 ⟨rfl, hb8⟩; have x8 := x7.step (hb8.mono x7.below.size) (x7.holds.below hb8); have hw8 := x8.holds)
            | (have hgd := x6; clear hgd; go_at_call 32; refine (hIs.out _ H4 _ x6.holds s4).mono ?_; rintro e w7 ⟨rfl, hb7⟩; have x7 := x6.step (hb7.mono x6.below.size) (x6.holds.below hb7); have hw7 := x7.holds)
            | (have hgd := x5; clear hgd; go_at_call 35; refine (isKnown_any 0 _).mono ?_; rintro e w6 ⟨rfl, hb6⟩; have x6 := x5.step (hb6.mono x5.below.size) (x5.holds.below hb6); have hw6 := x6.holds)
            | (have hgd := x4; clear hgd; go_at_call 40; refine (hsu.out H4 _ x4.holds ((hh.mono hle).mono l4)).mono ?_; rintro e w5 ⟨rfl, hb5⟩; have x5 := x4.step (hb5.mono x4.below.size) (x4.holds.below hb5); have hw5 := x5.holds)
            | (have hgd := x3; clear hgd; go_at_call 16; refine (hse.out H1 _ x3.holds (hh.mono hle)).mono ?_; rintro e w4 ⟨v4, H4, rfl, y4, u4, rfl, s4⟩; obtain ⟨a4, c4, rfl, _, _⟩ := s4.form; have x4 := x3.trans y4; have l4 := y4.le x3.holds; have hw4 := x4.holds; replace hc0 := lift l4 hc0; replace hc1 := lift l4 hc1; replace hc2 := lift l4 hc2; replace hc3 := lift l4 hc3; replace hc4 := lift l4 hc4; replace hc5 := lift l4 hc5)
            | (have hgd := x2; clear hgd; go_at_call 33; refine (hfw.out H1 _ x2.holds (hh.mono hle)).mono ?_; rintro e w3 ⟨rfl, hb3⟩; have x3 := x2.step (hb3.mono x2.below.size) (x2.holds.below hb3); have hw3 := x3.holds)
            | (have hgd := x1; clear hgd; go_at_call 31; refine (ready9_any _ _ _ _ _ _ H1 _ x1.holds (hh.mono hle)).mono ?_; rintro e w2 ⟨rfl, hb2⟩; rw [hr]; have x2 := x1.step (hb2.mono x1.below.size) (x1.holds.below hb2); have hw2 := x2.holds)
            | (have hgd := hw; clear hgd; refine wpList_boxF rfl _ rfl (Ext.refl hw) ?_; intro B w1 H1 hle hx hB hBw; obtain ⟨hc0, hc1, hc2, hc3, hc4, hc5⟩ := cellsHal hB; clear hB hw; have hw1 := hx.holds; have x1 := hx))
          go_ret
          exact ⟨rfl, x12.below⟩
        · rw [hd] at hen
          obtain ⟨k1, k2⟩ := hlst (countsOf set) hcc hd
          have hEa := fun (a b : Value) (S : Snap) (W : World) (hW : Holds S W) (ha : Sl S a c) (hb : Sl S b (countsOf set)) => earlier_any a b c (countsOf set) S W hW ha hb
          have hge : decide (platesOf set ≥ NV) = true := decide_eq_true (by omega)
          have hge2 : NV ≤ platesOf set := by omega
          have hfe : platesOf set = NV → earlier c (countsOf set) = false := fun e => by
            cases he : earlier c (countsOf set) with
            | false => rfl
            | true => rw [cntLt_iff.2 (.inr ⟨by omega, he⟩)] at k1; cases k1
          generalize platesOf set = P at *
          generalize countsOf set = cc at *
          replace hen := Lib.hid hen
          replace hpl := Lib.hid hpl
          replace hcn2 := Lib.hid hcn2
          clear hd hlst k1 k2 hps hcc hnum hccn
          rcases Int.lt_or_eq_of_le hge2 with g | g
          · have hg1 : decide (NV < P) = true := decide_eq_true g
            clear hfe hEa
            go_enter Tryz.func7, Tryz.ntmps7
            go_wp2_with (first
              | (have hgd := x12; clear hgd; go_at_call 9; refine (works9_any H4 _ x12.holds).mono ?_; rintro e w13 ⟨rfl, hb13⟩; have x13 := x12.step (hb13.mono x12.below.size) (x12.holds.below hb13); have hw13 := x13.holds)
                | (have hgd := x11; clear hgd; go_at_call 37; refine (hpl.out H4 _ x11.holds ((hs.mono hle).mono l4)).mono ?_; rintro e w12 ⟨rfl, hb12⟩; have x12 := x11.step (hb12.mono x11.below.size) (x11.holds.below hb12); have hw12 := x12.holds)
                | (have hgd := x10; clear hgd; go_at_call 34; refine (hen.out H4 _ x10.holds ((hh.mono hle).mono l4) ((hs.mono hle).mono l4)).mono ?_; rintro e w11 ⟨rfl, hb11⟩; have x11 := x10.step (hb11.mono x10.below.size) (x10.holds.below hb11); have hw11 := x11.holds)
                | (have hgd := x9; clear hgd; go_at_call 32; refine (isSetL_any _ set H4 _ x9.holds ((hs.mono hle).mono l4)).mono ?_; rintro e w10 ⟨rfl, hb10⟩; have x10 := x9.step (hb10.mono x9.below.size) (x9.holds.below hb10); have hw10 := x10.holds)
                | (have hgd := x8; clear hgd; go_at_call 34; refine (hEs.out _ H4 _ x8.holds ((hh.mono hle).mono l4) s4).mono ?_; rintro e w9 ⟨rfl, hb9⟩; have x9 := x8.step (hb9.mono x8.below.size) (x8.holds.below hb9); have hw9 := x9.holds)
                | (have hgd := x7; clear hgd; go_at_call 37; refine (hPs.out _ H4 _ x7.holds s4).mono ?_; rintro e w8 ⟨rfl, hb8⟩; have x8 := x7.step (hb8.mono x7.below.size) (x7.holds.below hb8); have hw8 := x8.holds)
                | (have hgd := x6; clear hgd; go_at_call 32; refine (hIs.out _ H4 _ x6.holds s4).mono ?_; rintro e w7 ⟨rfl, hb7⟩; have x7 := x6.step (hb7.mono x6.below.size) (x6.holds.below hb7); have hw7 := x7.holds)
                | (have hgd := x5; clear hgd; go_at_call 35; refine (isKnown_any 0 _).mono ?_; rintro e w6 ⟨rfl, hb6⟩; have x6 := x5.step (hb6.mono x5.below.size) (x5.holds.below hb6); have hw6 := x6.holds)
                | (have hgd := x4; clear hgd; go_at_call 40; refine (hsu.out H4 _ x4.holds ((hh.mono hle).mono l4)).mono ?_; rintro e w5 ⟨rfl, hb5⟩; have x5 := x4.step (hb5.mono x4.below.size) (x4.holds.below hb5); have hw5 := x5.holds)
                | (have hgd := x3; clear hgd; go_at_call 16; refine (hse.out H1 _ x3.holds (hh.mono hle)).mono ?_; rintro e w4 ⟨v4, H4, rfl, y4, u4, rfl, s4⟩; obtain ⟨a4, c4, rfl, _, _⟩ := s4.form; have x4 := x3.trans y4; have l4 := y4.le x3.holds; have hw4 := x4.holds; replace hc0 := lift l4 hc0; replace hc1 := lift l4 hc1; replace hc2 := lift l4 hc2; replace hc3 := lift l4 hc3; replace hc4 := lift l4 hc4; replace hc5 := lift l4 hc5)
                | (have hgd := x2; clear hgd; go_at_call 33; refine (hfw.out H1 _ x2.holds (hh.mono hle)).mono ?_; rintro e w3 ⟨rfl, hb3⟩; have x3 := x2.step (hb3.mono x2.below.size) (x2.holds.below hb3); have hw3 := x3.holds)
                | (have hgd := x1; clear hgd; go_at_call 31; refine (ready9_any _ _ _ _ _ _ H1 _ x1.holds (hh.mono hle)).mono ?_; rintro e w2 ⟨rfl, hb2⟩; rw [hr]; have x2 := x1.step (hb2.mono x1.below.size) (x1.holds.below hb2); have hw2 := x2.holds)
                | (have hgd := hw; clear hgd; refine wpList_boxF rfl _ rfl (Ext.refl hw) ?_; intro B w1 H1 hle hx hB hBw; obtain ⟨hc0, hc1, hc2, hc3, hc4, hc5⟩ := cellsHal hB; clear hB hw; have hw1 := hx.holds; have x1 := hx))
            go_ret
            exact ⟨rfl, x13.below⟩
          · subst g
            rw [hfe rfl] at hEa
            replace hEa := Lib.hid hEa
            clear hfe
            go_enter Tryz.func7, Tryz.ntmps7
            go_wp2_with (first
              | (have hgd := x15; clear hgd; go_at_call 9; refine (works9_any H14 _ x15.holds).mono ?_; rintro e w16 ⟨rfl, hb16⟩; have x16 := x15.step (hb16.mono x15.below.size) (x15.holds.below hb16); have hw16 := x16.holds)
                | (have hgd := x14; clear hgd; go_at_call 41; refine (hEa.out _ _ H14 _ x14.holds (s13.mono l14) s14).mono ?_; rintro e w15 ⟨rfl, hb15⟩; have x15 := x14.step (hb15.mono x14.below.size) (x14.holds.below hb15); have hw15 := x15.holds)
                | (have hgd := x13; clear hgd; go_at_call 36; refine (hcn2.out H13 _ x13.holds (((hs.mono hle).mono l4).mono l13)).mono ?_; rintro e w14 ⟨v14, Hz14, rfl, z14, o14⟩; obtain ⟨H14, y14, _, s14, _⟩ := o14.close z14; obtain ⟨a14, c14, rfl, _, _⟩ := s14.form; have x14 := x13.trans y14; have l14 := y14.le x13.holds; have hw14 := x14.holds)
                | (have hgd := x12; clear hgd; go_at_call 36; refine (hCs.out _ H4 _ x12.holds s4).mono ?_; rintro e w13 ⟨v13, Hz13, rfl, z13, o13⟩; obtain ⟨H13, y13, _, s13, _⟩ := o13.close z13; obtain ⟨a13, c13, rfl, _, _⟩ := s13.form; have x13 := x12.trans y13; have l13 := y13.le x12.holds; have hw13 := x13.holds)
                | (have hgd := x11; clear hgd; go_at_call 37; refine (hpl.out H4 _ x11.holds ((hs.mono hle).mono l4)).mono ?_; rintro e w12 ⟨rfl, hb12⟩; have x12 := x11.step (hb12.mono x11.below.size) (x11.holds.below hb12); have hw12 := x12.holds)
                | (have hgd := x10; clear hgd; go_at_call 34; refine (hen.out H4 _ x10.holds ((hh.mono hle).mono l4) ((hs.mono hle).mono l4)).mono ?_; rintro e w11 ⟨rfl, hb11⟩; have x11 := x10.step (hb11.mono x10.below.size) (x10.holds.below hb11); have hw11 := x11.holds)
                | (have hgd := x9; clear hgd; go_at_call 32; refine (isSetL_any _ set H4 _ x9.holds ((hs.mono hle).mono l4)).mono ?_; rintro e w10 ⟨rfl, hb10⟩; have x10 := x9.step (hb10.mono x9.below.size) (x9.holds.below hb10); have hw10 := x10.holds)
                | (have hgd := x8; clear hgd; go_at_call 34; refine (hEs.out _ H4 _ x8.holds ((hh.mono hle).mono l4) s4).mono ?_; rintro e w9 ⟨rfl, hb9⟩; have x9 := x8.step (hb9.mono x8.below.size) (x8.holds.below hb9); have hw9 := x9.holds)
                | (have hgd := x7; clear hgd; go_at_call 37; refine (hPs.out _ H4 _ x7.holds s4).mono ?_; rintro e w8 ⟨rfl, hb8⟩; have x8 := x7.step (hb8.mono x7.below.size) (x7.holds.below hb8); have hw8 := x8.holds)
                | (have hgd := x6; clear hgd; go_at_call 32; refine (hIs.out _ H4 _ x6.holds s4).mono ?_; rintro e w7 ⟨rfl, hb7⟩; have x7 := x6.step (hb7.mono x6.below.size) (x6.holds.below hb7); have hw7 := x7.holds)
                | (have hgd := x5; clear hgd; go_at_call 35; refine (isKnown_any 0 _).mono ?_; rintro e w6 ⟨rfl, hb6⟩; have x6 := x5.step (hb6.mono x5.below.size) (x5.holds.below hb6); have hw6 := x6.holds)
                | (have hgd := x4; clear hgd; go_at_call 40; refine (hsu.out H4 _ x4.holds ((hh.mono hle).mono l4)).mono ?_; rintro e w5 ⟨rfl, hb5⟩; have x5 := x4.step (hb5.mono x4.below.size) (x4.holds.below hb5); have hw5 := x5.holds)
                | (have hgd := x3; clear hgd; go_at_call 16; refine (hse.out H1 _ x3.holds (hh.mono hle)).mono ?_; rintro e w4 ⟨v4, H4, rfl, y4, u4, rfl, s4⟩; obtain ⟨a4, c4, rfl, _, _⟩ := s4.form; have x4 := x3.trans y4; have l4 := y4.le x3.holds; have hw4 := x4.holds; replace hc0 := lift l4 hc0; replace hc1 := lift l4 hc1; replace hc2 := lift l4 hc2; replace hc3 := lift l4 hc3; replace hc4 := lift l4 hc4; replace hc5 := lift l4 hc5)
                | (have hgd := x2; clear hgd; go_at_call 33; refine (hfw.out H1 _ x2.holds (hh.mono hle)).mono ?_; rintro e w3 ⟨rfl, hb3⟩; have x3 := x2.step (hb3.mono x2.below.size) (x2.holds.below hb3); have hw3 := x3.holds)
                | (have hgd := x1; clear hgd; go_at_call 31; refine (ready9_any _ _ _ _ _ _ H1 _ x1.holds (hh.mono hle)).mono ?_; rintro e w2 ⟨rfl, hb2⟩; rw [hr]; have x2 := x1.step (hb2.mono x1.below.size) (x1.holds.below hb2); have hw2 := x2.holds)
                | (have hgd := hw; clear hgd; refine wpList_boxF rfl _ rfl (Ext.refl hw) ?_; intro B w1 H1 hle hx hB hBw; obtain ⟨hc0, hc1, hc2, hc3, hc4, hc5⟩ := cellsHal hB; clear hB hw; have hw1 := hx.holds; have x1 := hx))
            go_ret
            exact ⟨rfl, x16.below⟩

end Go.Proofs.YtngdppajailpcaaGreat

namespace Go.Proofs.YtngdppajailpcaaGreat

theorem countsOf_cons {q : Plate} {l : List Plate} (h : setOk (q :: l) = true) : countsOf (q :: l) = (countsOf l).set (plc q).toNat q.mn ∧ gT (countsOf l) (plc q).toNat = 0 ∧ setOk l = true := by
  obtain ⟨h1, h2⟩ := setOk_iff.1 h
  rw [List.map_cons, List.pairwise_cons] at h2
  have hl : setOk l = true := setOk_iff.2 ⟨fun p hp => h1 p (by simp [hp]), h2.2⟩
  have hq := okPlate_plc (h1 q (by simp))
  have hz : gT (countsOf l) (plc q).toNat = 0 := (countsOf_spec l hl).1 _ (by omega) fun p hp => by
    have := h2.1 _ (List.mem_map.2 ⟨p, hp, rfl⟩)
    have hb := okPlate_plc (h1 p (by simp [hp]))
    omega
  refine ⟨gt_ext (countsOf_len _) (by rw [List.length_set, countsOf_len]) fun k hk => ?_, hz, hl⟩
  rw [gt_set (by rw [countsOf_len]; omega)]
  obtain ⟨s1, s2, _⟩ := countsOf_spec _ h
  obtain ⟨t1, t2, _⟩ := countsOf_spec _ hl
  by_cases e : k = (plc q).toNat
  · rw [if_pos e, e]; exact s2 q (by simp)
  · rw [if_neg e]
    by_cases e2 : ∀ p ∈ l, (plc p).toNat ≠ k
    · rw [t1 k hk e2]
      refine s1 k hk fun p hp => ?_
      rcases List.mem_cons.1 hp with rfl | hp
      · exact fun h => e h.symm
      · exact e2 p hp
    · obtain ⟨p, hp, ep⟩ : ∃ p ∈ l, (plc p).toNat = k := Classical.byContradiction fun hn => e2 fun p hp hh => hn ⟨p, hp, hh⟩
      rw [← ep, s2 p (by simp [hp]), t2 p hp]
/-- The counts of what is idle of the plates that are not yet struck. -/
def restL (h : Hall) (set : List Plate) (i : Nat) : List Plate := (set.drop i).filterMap (idleQ h set)
def restC (h : Hall) (set : List Plate) (i : Nat) : Cnt := countsOf (restL h set i)
theorem restL_ok {h : Hall} {set : List Plate} (hs : setOk set = true) (i : Nat) : setOk (restL h set i) = true := by
  obtain ⟨h1, h2⟩ := setOk_iff.1 hs
  exact idle_ok h set (fun p hp => h1 p (List.mem_of_mem_drop hp)) (by rw [List.map_drop]; exact h2.sublist (List.drop_sublist _ _))
theorem restC_zero (h : Hall) (set : List Plate) : restC h set 0 = countsOf (idleL h set) := rfl
theorem restC_end (h : Hall) (set : List Plate) : restC h set set.length = zero12 := by unfold restC restL; rw [List.drop_length]; rfl
theorem restC_len (h : Hall) (set : List Plate) (i : Nat) : (restC h set i).length = 12 := countsOf_len _
theorem restC_bd {h : Hall} {set : List Plate} (hs : setOk set = true) (i : Nat) {k : Nat} (hk : k < 12) : 0 ≤ gT (restC h set i) k ∧ gT (restC h set i) k ≤ 9 := countsOf_bd (restL_ok hs i) hk
theorem restC_step {h : Hall} {set : List Plate} (hs : setOk set = true) {i : Nat} {p : Plate} (hp : At set i p) : gT (restC h set i) (plc p).toNat = (idleP h set p : Int) ∧ (restC h set i).set (plc p).toNat 0 = restC h set (i + 1) := by
  have hpo := (setOk_iff.1 hs).1 p hp.mem
  have hb := okPlate_plc hpo
  have hd : set.drop i = p :: set.drop (i + 1) := by
    rw [List.drop_eq_getElem_cons hp.lt]
    congr 1
    have := hp; unfold At at this; rw [List.getElem?_eq_getElem hp.lt] at this; exact Option.some.inj this
  have hok := restL_ok (h := h) hs i
  have hrs : setOk (set.drop i) = true := by
    obtain ⟨h1, h2⟩ := setOk_iff.1 hs
    exact setOk_iff.2 ⟨fun q hq => h1 q (List.mem_of_mem_drop hq), by rw [List.map_drop]; exact h2.sublist (List.drop_sublist _ _)⟩
  have hz : gT (restC h set (i + 1)) (plc p).toNat = 0 := by
    rw [hd] at hrs
    have h2 := (setOk_iff.1 hrs).2
    rw [List.map_cons, List.pairwise_cons] at h2
    refine (countsOf_spec _ (restL_ok hs (i + 1))).1 _ (by omega) fun q hq => ?_
    unfold restL at hq
    obtain ⟨r, hr, e⟩ := List.mem_filterMap.1 hq
    obtain ⟨rfl, _⟩ := idleQ_some e
    have := h2.1 _ (List.mem_map.2 ⟨r, hr, rfl⟩)
    show (plc r).toNat ≠ _
    omega
  by_cases h0 : 0 < idleP h set p
  · have hL : restL h set i = { p with mn := (idleP h set p : Int) } :: restL h set (i + 1) := by
      unfold restL; rw [hd, List.filterMap_cons]; unfold idleQ; rw [if_pos h0]
    rw [hL] at hok
    obtain ⟨e1, e2, _⟩ := countsOf_cons hok
    have e3 : restC h set i = (restC h set (i + 1)).set (plc p).toNat (idleP h set p : Int) := by unfold restC; rw [hL]; exact e1
    rw [e3]
    constructor
    · rw [gt_set (by rw [restC_len]; omega), if_pos rfl]
    · rw [List.set_set]; exact set_zero (by rw [restC_len]; omega) hz
  · have hL : restL h set i = restL h set (i + 1) := by
      unfold restL; rw [hd, List.filterMap_cons]; unfold idleQ; rw [if_neg h0]
    have e3 : restC h set i = restC h set (i + 1) := by unfold restC; rw [hL]
    rw [e3, hz, show idleP h set p = 0 by omega]
    exact ⟨rfl, set_zero (by rw [restC_len]; omega) hz⟩
theorem one_at {p : Plate} (hp : okPlate p = true) : countsOf [{ p with mn := 1 }] = zero12.set (plc p).toNat 1 ∧ setOk [{ p with mn := 1 }] = true := by
  have ho := okPlate_iff.1 hp
  have h1 : okPlate { p with mn := 1 } = true := by rw [okPlate_iff]; simp only; omega
  have hs : setOk [{ p with mn := 1 }] = true := setOk_iff.2 ⟨fun q hq => by rw [List.mem_singleton.1 hq]; exact h1, by simp⟩
  exact ⟨(countsOf_cons hs).1, hs⟩
/-- The number struck, and the counts left, behind k places. -/
def mT (n : Nat) (v : Int) (k : Nat) : Int := if n < k then v else 0
def rT (R : Cnt) (n k : Nat) : Cnt := if n < k then R.set n 0 else R
def aT (n k : Nat) : Int := if k = n then 1 else 0
theorem at_aT {n k : Nat} (hn : n < 12) (hk : k < 12) : gT (zero12.set n 1) k = aT n k := by
  rw [gt_set (by rw [Cn.zero.len]; exact hn)]; unfold aT
  split
  · rfl
  · exact gt_zero hk
theorem rT_len {R : Cnt} (h : R.length = 12) (n k : Nat) : (rT R n k).length = 12 := by unfold rT; split <;> simp [h]
theorem rT_same {R : Cnt} {n k : Nat} : gT (rT R n k) k = gT R k ∨ (n < k ∧ gT (rT R n k) k = gT R k) := by
  unfold rT
  split
  · rename_i h
    refine .inl ?_
    unfold gT; rw [List.getD_eq_getElem?_getD, List.getD_eq_getElem?_getD, List.getElem?_set_ne (by omega)]
  · exact .inl rfl
theorem strike {R : Cnt} (hR : R.length = 12) {n k : Nat} (_hn : n < 12) (hk : k < 12) {v : Int} (hv : gT R n = v) :
    gT (rT R n k) k = gT R k ∧ mT n v k + aT n k * gT R k = mT n v (k + 1) ∧ (rT R n k).set k (gT R k - aT n k * gT R k) = rT R n (k + 1) ∧ (aT n k * gT R k = 0 ∨ aT n k * gT R k = gT R k) := by
  have e0 : gT (rT R n k) k = gT R k := by rcases rT_same (R := R) (n := n) (k := k) with h | h; · exact h
                                           · exact h.2
  by_cases e : k = n
  · subst e
    have ea : aT k k = 1 := by unfold aT; rw [if_pos rfl]
    have m0 : mT k v k = 0 := if_neg (by omega)
    have m1 : mT k v (k + 1) = v := if_pos (by omega)
    have r0 : rT R k k = R := if_neg (by omega)
    have r1 : rT R k (k + 1) = R.set k 0 := if_pos (by omega)
    rw [ea, Int.one_mul, m0, m1, r0, r1, hv, Int.sub_self]
    exact ⟨rfl, by omega, rfl, .inr rfl⟩
  · have ea : aT n k = 0 := by unfold aT; rw [if_neg e]
    rw [ea, Int.zero_mul, Int.sub_zero, e0]
    have hset : (rT R n k).set k (gT R k) = rT R n k := by
      rw [← e0]; unfold gT
      rw [List.getD_eq_getElem?_getD, List.getElem?_eq_getElem (by rw [rT_len hR]; exact hk)]
      exact List.set_getElem_self _
    rw [hset]
    by_cases e2 : n < k
    · have m0 : mT n v k = v := if_pos e2
      have m1 : mT n v (k + 1) = v := if_pos (by omega)
      have r0 : rT R n k = R.set n 0 := if_pos e2
      have r1 : rT R n (k + 1) = R.set n 0 := if_pos (by omega)
      rw [m0, m1, r0, r1]
      exact ⟨rfl, by omega, rfl, .inl rfl⟩
    · have m0 : mT n v k = 0 := if_neg e2
      have m1 : mT n v (k + 1) = 0 := if_neg (by omega)
      have r0 : rT R n k = R := if_neg e2
      have r1 : rT R n (k + 1) = R := if_neg (by omega)
      rw [m0, m1, r0, r1]
      exact ⟨rfl, by omega, rfl, .inl rfl⟩
theorem idle_fewest {h : Hall} (hv : ValidH h) {set : List Plate} (hs : setOk set = true) (hd : doAllC (countsOf set) (allA h) = true) (e : platesOf set = numC h zero12) : idleL h set = [] := by
  obtain ⟨c, B⟩ := bestC_of hv (enough_ne hv hs hd)
  rw [List.eq_nil_iff_forall_not_mem]
  intro q hq
  unfold idleL at hq
  obtain ⟨p, hp, eq⟩ := List.mem_filterMap.1 hq
  obtain ⟨_, h0⟩ := idleQ_some eq
  have ho : idleOk h set p 0 = true := idleN_pre (show 0 < idleN (idleOk h set p) p.mn.toNat from h0)
  have hpo := (setOk_iff.1 hs).1 p hp
  have hb := okPlate_plc hpo
  have hb2 := okPlate_iff.1 hpo
  have hcn := lessC_cn hs hp (m := 1) (by omega) (by omega)
  have h2 := (B.least (lessC (countsOf set) p 1) hcn ho).2
  have hps := platesOf_sum set (setOk_iff.1 hs).1
  have hsum : cntSum (lessC (countsOf set) p 1) = cntSum (countsOf set) - 1 := by
    unfold lessC
    rw [cntSum_set (by rw [countsOf_len]; omega)]
    omega
  rw [B.num] at h2
  omega
theorem idle_enough {h : Hall} {set : List Plate} (hs : setOk set = true) (hd : doAllC (countsOf set) (allA h) = true) {p : Plate} (hp : p ∈ set) :
    doAllC (lessC (countsOf set) p (idleP h set p : Int)) (allA h) = true ∧ (idleP h set p : Int) ≤ p.mn ∧ ((idleP h set p : Int) < p.mn → doAllC (lessC (countsOf set) p ((idleP h set p : Int) + 1)) (allA h) = false) := by
  have hpo := (setOk_iff.1 hs).1 p hp
  have hb := okPlate_plc hpo
  have hb2 := okPlate_iff.1 hpo
  have hle : idleP h set p ≤ p.mn.toNat := idleN_le _ _
  refine ⟨?_, by omega, fun hlt => ?_⟩
  · cases hk : idleP h set p with
    | zero =>
      have e : lessC (countsOf set) p ((0 : Nat) : Int) = countsOf set := by
        unfold lessC
        rw [show gT (countsOf set) (plc p).toNat - ((0 : Nat) : Int) = gT (countsOf set) (plc p).toNat by simp]
        unfold gT
        rw [List.getD_eq_getElem?_getD, List.getElem?_eq_getElem (by rw [countsOf_len]; omega)]
        exact List.set_getElem_self _
      rw [e]; exact hd
    | succ k =>
      have := idleN_pre (ok := idleOk h set p) (mn := p.mn.toNat) (j := k) (by show k < idleP h set p; omega)
      exact this
  · rcases idleN_end (ok := idleOk h set p) (mn := p.mn.toNat) with h1 | h1
    · exfalso
      have : idleP h set p = p.mn.toNat := h1
      omega
    · exact h1

end Go.Proofs.YtngdppajailpcaaGreat

namespace Go.Proofs.YtngdppajailpcaaGreat
open Go.RowKit

attribute [local go_sem] Holds.drew Holds.alloc Holds.drewN WB.holds Oper.semAt_some FW_fn FW_dep FW_round

theorem doesSetOf {c : Cnt} {l : List Plate} (hl : setOk l = true) (e : countsOf l = c) (vm vb vt vo ve v : Value) (h : Hall) (hv : ValidH h) (H : Snap) (w : World) (hw : Holds H w) (hh : Hal H vm vb vt vo ve h) (hs : Sl H v l) :
    Calls Tryz.prog 34 #[halV vm vb vt vo ve h, v] w (PostV w (.bool (doAllC c (allA h)))) := by
  rw [← e]; exact isEnough9_any vm vb vt vo ve v h hv l hl H w hw hh hs

set_option maxRecDepth 100000 in
set_option maxHeartbeats 16000000 in
theorem machinesIdle_any (vm vb vt vo ve vs : Value) (h : Hall) (set : List Plate) (H : Snap) (w : World) (hw : Holds H w) (hh : Hal H vm vb vt vo ve h) (hs : Sl H vs set) : Calls Tryz.prog 6 #[halV vm vb vt vo ve h, vs] w (PostV w (.bool true)) := by
  obtain ⟨ss, cs, rfl, _, _⟩ := hs.form
  cases hr : ready9 h
  · go_enter Tryz.func6, Tryz.ntmps6
    go_wp2_with (first
      | (have hgd := x2; clear hgd; go_at_call 9; refine (works9_any H1 _ x2.holds).mono ?_; rintro e w3 ⟨rfl, hb3⟩; have x3 := x2.step (hb3.mono x2.below.size) (x2.holds.below hb3); have hw3 := x3.holds)
      | (have hgd := x1; clear hgd; go_at_call 31; refine (ready9_any _ _ _ _ _ _ H1 _ x1.holds (hh.mono hle)).mono ?_; rintro e w2 ⟨rfl, hb2⟩; rw [hr]; have x2 := x1.step (hb2.mono x1.below.size) (x1.holds.below hb2); have hw2 := x2.holds)
      | (have hgd := hw; clear hgd; refine wpList_boxF rfl _ rfl (Ext.refl hw) ?_; intro B w1 H1 hle hx hB hBw; obtain ⟨hc0, hc1, hc2, hc3, hc4, hc5⟩ := cellsHal hB; clear hB hw; have hw1 := hx.holds; have x1 := hx))
    go_ret
    exact ⟨rfl, x3.below⟩
  · have hv := ready9_valid hr
    cases hst : setOk set
    · go_enter Tryz.func6, Tryz.ntmps6
      go_wp2_with (first
        | (have hgd := x3; clear hgd; go_at_call 9; refine (works9_any H1 _ x3.holds).mono ?_; rintro e w4 ⟨rfl, hb4⟩; have x4 := x3.step (hb4.mono x3.below.size) (x3.holds.below hb4); have hw4 := x4.holds)
        | (have hgd := x2; clear hgd; go_at_call 32; refine (isSetL_any _ set H1 _ x2.holds (hs.mono hle)).mono ?_; rintro e w3 ⟨rfl, hb3⟩; have x3 := x2.step (hb3.mono x2.below.size) (x2.holds.below hb3); have hw3 := x3.holds; rw [hst])
        | (have hgd := x1; clear hgd; go_at_call 31; refine (ready9_any _ _ _ _ _ _ H1 _ x1.holds (hh.mono hle)).mono ?_; rintro e w2 ⟨rfl, hb2⟩; rw [hr]; have x2 := x1.step (hb2.mono x1.below.size) (x1.holds.below hb2); have hw2 := x2.holds)
        | (have hgd := hw; clear hgd; refine wpList_boxF rfl _ rfl (Ext.refl hw) ?_; intro B w1 H1 hle hx hB hBw; obtain ⟨hc0, hc1, hc2, hc3, hc4, hc5⟩ := cellsHal hB; clear hB hw; have hw1 := hx.holds; have x1 := hx))
      go_ret
      exact ⟨rfl, x4.below⟩
    · have hvh := validHall_iff.2 hv
      have hfw := fun (S : Snap) (W : World) (hW : Holds S W) hh => fewestL9_any vm vb vt vo ve h hv S W hW hh
      have hcI := fun (H' : Snap) (w : World) (vs : Value) (hw : Holds H' w) (k : SLe H H') (hs : Sl H' vs set) => idleM_any vm vb vt vo ve vs h set H' w hw (hh.mono k) hs
      have hen := fun (S : Snap) (W : World) (hW : Holds S W) hh hs => isEnough9_any vm vb vt vo ve (.slice ss set.length cs) h hv set hst S W hW hh hs
      have hA1 : idleA h set = if doAllC (countsOf set) (allA h) then idleL h set else [] := by unfold idleA; rw [hvh, hst]; rfl
      have hA2 : idleE h set = if doAllC (countsOf set) (allA h) then 0 else 3 := by unfold idleE; rw [hvh, hst]; rfl
      rw [hA1, hA2] at hcI
      clear hA1 hA2
      cases hD : doAllC (countsOf set) (allA h)
      · rw [hD] at hcI hen
        rw [if_neg (by decide), if_neg (by decide)] at hcI
        have hIs := fun (a : Value) (S : Snap) (W : World) (hW : Holds S W) hs => isSetL_any a [] S W hW hs
        rw [setOk_nil] at hIs
        replace hIs := Lib.hid hIs
        replace hcI := Lib.hid hcI
        replace hen := Lib.hid hen
        replace hfw := Lib.hid hfw
        clear hD
        go_enter Tryz.func6, Tryz.ntmps6
        go_upto_region 3 with (first
          | (have hgd := x2; clear hgd; go_at_call 32; refine (isSetL_any _ set H1 _ x2.holds (hs.mono hle)).mono ?_; rintro e w3 ⟨rfl, hb3⟩; have x3 := x2.step (hb3.mono x2.below.size) (x2.holds.below hb3); have hw3 := x3.holds; rw [hst])
          | (have hgd := x1; clear hgd; go_at_call 31; refine (ready9_any _ _ _ _ _ _ H1 _ x1.holds (hh.mono hle)).mono ?_; rintro e w2 ⟨rfl, hb2⟩; rw [hr]; have x2 := x1.step (hb2.mono x1.below.size) (x1.holds.below hb2); have hw2 := x2.holds)
          | (have hgd := hw; clear hgd; refine wpList_boxF rfl _ rfl (Ext.refl hw) ?_; intro B w1 H1 hle hx hB hBw; obtain ⟨hc0, hc1, hc2, hc3, hc4, hc5⟩ := cellsHal hB; clear hB hw; have hw1 := hx.holds; have x1 := hx))
        have hsc := hs.mono hle
        clear hx hw1 x1
        have hx := x3
        have hw1 := x3.holds
        clear x3 x2 hw2 hw3
        go_cut [5, 6] (fun m e wc => e = .int .i64 3 ∧ ∃ a c H4, m = .slice a ([] : List Plate).length c ∧ SLe H1 H4 ∧ Ext w H wc H4 ∧ Sl H4 (.slice a ([] : List Plate).length c) ([] : List Plate))
        case first =>
          go_region_held3 (fun w' => Holds H1 w' ∧ Ext w H w' H1) (first | assumption | exact ⟨by assumption, by assumption⟩ | (go_split_ands; exact ⟨Holds.drew (by assumption), Ext.drew (by assumption)⟩) | (go_split_ands; exact ⟨Holds.alloc (by assumption) _, Ext.alloc (by assumption) _⟩) | (go_split_ands; exact ⟨Holds.drew (Holds.alloc (by assumption) _), Ext.drew (Ext.alloc (by assumption) _)⟩)) (first | ((go_split_ands; go_at_call 21; refine (copySetP_any _ set H1 _ (by assumption) hsc).mono ?_; rintro e w3 ⟨v3, H3, rfl, x3, s3⟩; obtain ⟨a3, c3, rfl, _, _⟩ := s3.form; have l3 := x3.le (by assumption); have k3 := x3.holds; have k1 : Holds H1 w3 := x3.holds.mono l3; have k2 : Ext w H w3 H1 := Ext.step (by assumption) (x3.below.mono (by assumption : Ext w H _ H1).below.size) k1; have xx3 : Ext w H w3 H3 := Ext.trans (by assumption) x3)) | ((go_split_ands; go_at_call 29; refine (hcI.out H3 _ _ (by assumption) (hle.trans l3) s3).mono ?_; rintro e w4 ⟨v4, H4, rfl, x4, u4, rfl, s4⟩; obtain ⟨a4, c4, rfl, _, _⟩ := s4.form; have l4 := x4.le k3; have xx4 := xx3.trans x4; have k1 : Holds H1 w4 := x4.holds.mono (l3.trans l4); have k2 : Ext w H w4 H1 := Ext.step (by assumption) (x4.below.mono (by assumption : Ext w H _ H1).below.size) k1)))
          all_goals
            go_split_ands
            go_wp2_with fail
            go_meet
            exact ⟨rfl, _, _, H4, rfl, l3.trans l4, by first | exact xx4 | exact xx4.drew, s4⟩
        case rest =>
          obtain ⟨rfl, a3, c3, H3, rfl, l13, x3, s3⟩ := hcut
          have hw3 := x3.holds
          have hh3 := (hh.mono hle).mono l13
          have hs3 := hsc.mono l13
          replace hc0 := lift l13 hc0
          replace hc1 := lift l13 hc1
          replace hc2 := lift l13 hc2
          replace hc3 := lift l13 hc3
          replace hc4 := lift l13 hc4
          replace hc5 := lift l13 hc5
          go_wp2_with (first
            | (have hgd := x7; clear hgd; go_at_call 9; refine (works9_any H3 _ x7.holds).mono ?_; rintro e w8 ⟨rfl, hb8⟩; have x8 := x7.step (hb8.mono x7.below.size) (x7.holds.below hb8); have hw8 := x8.holds)
            | (have hgd := x6; clear hgd; go_at_call 32; refine (hIs.out _ H3 _ x6.holds s3).mono ?_; rintro e w7 ⟨rfl, hb7⟩; have x7 := x6.step (hb7.mono x6.below.size) (x6.holds.below hb7); have hw7 := x7.holds)
            | (have hgd := x5; clear hgd; go_at_call 35; refine (isKnown_any 3 _).mono ?_; rintro e w6 ⟨rfl, hb6⟩; have x6 := x5.step (hb6.mono x5.below.size) (x5.holds.below hb6); have hw6 := x6.holds)
            | (have hgd := x4; clear hgd; go_at_call 34; refine (hen.out H3 _ x4.holds hh3 hs3).mono ?_; rintro e w5 ⟨rfl, hb5⟩; have x5 := x4.step (hb5.mono x4.below.size) (x4.holds.below hb5); have hw5 := x5.holds)
            | (have hgd := x3; clear hgd; go_at_call 33; refine (hfw.out H3 _ x3.holds hh3).mono ?_; rintro e w4 ⟨rfl, hb4⟩; have x4 := x3.step (hb4.mono x3.below.size) (x3.holds.below hb4); have hw4 := x4.holds))
          go_ret
          exact ⟨rfl, x8.below⟩
      · rw [hD] at hcI hen
        rw [if_pos rfl, if_pos rfl] at hcI
        have hIs := fun (a : Value) (S : Snap) (W : World) (hW : Holds S W) hs => isSetL_any a (idleL h set) S W hW hs
        rw [idleL_ok hst] at hIs
        have hif := idle_fewest hv hst hD
        have hpp := fun (p : Plate) (hp : p ∈ set) => idle_enough (h := h) hst hD hp
        have hPl := fun (S : Snap) (W : World) (hW : Holds S W) hs => platesOf9_any (.slice ss set.length cs) set S W hW hs hst
        generalize numC h zero12 = NV at *
        generalize platesOf set = PV at *
        have hILn : PV = NV → (idleL h set).length = 0 := fun e => by rw [hif e]; rfl
        replace hILn := Lib.hid hILn
        replace hIs := Lib.hid hIs
        replace hcI := Lib.hid hcI
        replace hen := Lib.hid hen
        replace hfw := Lib.hid hfw
        replace hPl := Lib.hid hPl
        replace hpp := Lib.hid hpp
        clear hD hif
        have hCo := fun (a : Value) (S : Snap) (W : World) (hW : Holds S W) hs => countsOf9_any a (idleL h set) S W hW hs (idleL_ok hst)
        rw [← restC_zero] at hCo
        replace hCo := Lib.hid hCo
        have hl12 := setOk_len hst
        replace hst := Lib.hid hst
        go_enter Tryz.func6, Tryz.ntmps6
        go_upto_region 3 with (first
          | (have hgd := x2; clear hgd; go_at_call 32; refine (isSetL_any _ set H1 _ x2.holds (hs.mono hle)).mono ?_; rintro e w3 ⟨rfl, hb3⟩; have x3 := x2.step (hb3.mono x2.below.size) (x2.holds.below hb3); have hw3 := x3.holds; rw [hst.out])
          | (have hgd := x1; clear hgd; go_at_call 31; refine (ready9_any _ _ _ _ _ _ H1 _ x1.holds (hh.mono hle)).mono ?_; rintro e w2 ⟨rfl, hb2⟩; rw [hr]; have x2 := x1.step (hb2.mono x1.below.size) (x1.holds.below hb2); have hw2 := x2.holds)
          | (have hgd := hw; clear hgd; refine wpList_boxF rfl _ rfl (Ext.refl hw) ?_; intro B w1 H1 hle hx hB hBw; obtain ⟨hc0, hc1, hc2, hc3, hc4, hc5⟩ := cellsHal hB; clear hB hw; have hw1 := hx.holds; have x1 := hx))
        have hsc := hs.mono hle
        clear hx hw1 x1
        have hx := x3
        have hw1 := x3.holds
        clear x3 x2 hw2 hw3
        go_cut [5, 6] (fun m e wc => e = .int .i64 0 ∧ ∃ a c H4, m = .slice a (idleL h set).length c ∧ SLe H1 H4 ∧ Ext w H wc H4 ∧ Sl H4 (.slice a (idleL h set).length c) (idleL h set))
        case first =>
          go_region_held3 (fun w' => Holds H1 w' ∧ Ext w H w' H1) (first | assumption | exact ⟨by assumption, by assumption⟩ | (go_split_ands; exact ⟨Holds.drew (by assumption), Ext.drew (by assumption)⟩) | (go_split_ands; exact ⟨Holds.alloc (by assumption) _, Ext.alloc (by assumption) _⟩) | (go_split_ands; exact ⟨Holds.drew (Holds.alloc (by assumption) _), Ext.drew (Ext.alloc (by assumption) _)⟩)) (first | ((go_split_ands; go_at_call 21; refine (copySetP_any _ set H1 _ (by assumption) hsc).mono ?_; rintro e w3 ⟨v3, H3, rfl, x3, s3⟩; obtain ⟨a3, c3, rfl, _, _⟩ := s3.form; have l3 := x3.le (by assumption); have k3 := x3.holds; have k1 : Holds H1 w3 := x3.holds.mono l3; have k2 : Ext w H w3 H1 := Ext.step (by assumption) (x3.below.mono (by assumption : Ext w H _ H1).below.size) k1; have xx3 : Ext w H w3 H3 := Ext.trans (by assumption) x3)) | ((go_split_ands; go_at_call 29; refine (hcI.out H3 _ _ (by assumption) (hle.trans l3) s3).mono ?_; rintro e w4 ⟨v4, H4, rfl, x4, u4, rfl, s4⟩; obtain ⟨a4, c4, rfl, _, _⟩ := s4.form; have l4 := x4.le k3; have xx4 := xx3.trans x4; have k1 : Holds H1 w4 := x4.holds.mono (l3.trans l4); have k2 : Ext w H w4 H1 := Ext.step (by assumption) (x4.below.mono (by assumption : Ext w H _ H1).below.size) k1)))
          all_goals
            go_split_ands
            go_wp2_with fail
            go_meet
            exact ⟨rfl, _, _, H4, rfl, l3.trans l4, by first | exact xx4 | exact xx4.drew, s4⟩
        case rest =>
          obtain ⟨rfl, a3, c3, H3, rfl, l13, x3, s3⟩ := hcut
          have hw3 := x3.holds
          have hh3 := (hh.mono hle).mono l13
          have hs3 := hsc.mono l13
          replace hc0 := lift l13 hc0
          replace hc1 := lift l13 hc1
          replace hc2 := lift l13 hc2
          replace hc3 := lift l13 hc3
          replace hc4 := lift l13 hc4
          replace hc5 := lift l13 hc5
          go_upto_region 11 with (first
            | (have hgd := x7; clear hgd; go_at_call 36; refine (hCo.out _ H3 _ x7.holds s3).mono ?_; rintro e w8 ⟨v8, H8, rfl, y8, o8⟩; have x8 := x7.trans y8; have l8 := y8.le x7.holds; have hw8 := x8.holds)
            | (have hgd := x6; clear hgd; go_at_call 32; refine (hIs.out _ H3 _ x6.holds s3).mono ?_; rintro e w7 ⟨rfl, hb7⟩; have x7 := x6.step (hb7.mono x6.below.size) (x6.holds.below hb7); have hw7 := x7.holds)
            | (have hgd := x5; clear hgd; go_at_call 35; refine (isKnown_any 0 _).mono ?_; rintro e w6 ⟨rfl, hb6⟩; have x6 := x5.step (hb6.mono x5.below.size) (x5.holds.below hb6); have hw6 := x6.holds)
            | (have hgd := x4; clear hgd; go_at_call 34; refine (hen.out H3 _ x4.holds hh3 hs3).mono ?_; rintro e w5 ⟨rfl, hb5⟩; have x5 := x4.step (hb5.mono x4.below.size) (x4.holds.below hb5); have hw5 := x5.holds)
            | (have hgd := x3; clear hgd; go_at_call 33; refine (hfw.out H3 _ x3.holds hh3).mono ?_; rintro e w4 ⟨rfl, hb4⟩; have x4 := x3.step (hb4.mono x3.below.size) (x3.holds.below hb4); have hw4 := x4.holds))
          have own8 := o8.weaken x7.below.size
          have hwr8 := x8.holds
          have hs8 := hs3.mono l8
          have hh8 := hh3.mono l8
          have s38 := s3.mono l8
          replace hc0 := lift l8 hc0
          replace hc1 := lift l8 hc1
          replace hc2 := lift l8 hc2
          replace hc3 := lift l8 hc3
          replace hc4 := lift l8 hc4
          replace hc5 := lift l8 hc5
          obtain ⟨ag, cg, eg, _, _⟩ := own8.form
          rw [restC_len] at eg
          subst eg
          generalize hnI : (idleL h set).length = nI at *
          clear hnI
          go_cut [71] (fun t wx => t = .bool false ∧ Ext w H wx H8 ∧ Own H8 w.heap.size wx 3 (.slice ag 12 cg) (restC h set 0))
          case first =>
            cases hpn : (PV == NV)
            · go_wp2_with (first
                | (have hgd := x8; clear hgd; go_at_call 37; refine (hPl.out H8 _ x8.holds hs8).mono ?_; rintro e w9 ⟨rfl, hb9⟩; have x9 := x8.step (hb9.mono x8.below.size) (x8.holds.below hb9); have hw9 := x9.holds))
              go_meet
              exact ⟨rfl, x9, own8.ext hwr8 ⟨hb9, x9.holds, fun _ _ => rfl⟩⟩
            · have hz := hILn.out (eq_of_beq hpn)
              have hgt1 : decide (0 < nI) = false := by rw [hz]; rfl
              have hgt2 : decide ((0 : Int) < (nI : Int)) = false := by rw [hz]; rfl
              clear hz
              go_wp2_with (first
                | (have hgd := x8; clear hgd; go_at_call 37; refine (hPl.out H8 _ x8.holds hs8).mono ?_; rintro e w9 ⟨rfl, hb9⟩; have x9 := x8.step (hb9.mono x8.below.size) (x8.holds.below hb9); have hw9 := x9.holds))
              go_meet
              exact ⟨rfl, x9, own8.ext hwr8 ⟨hb9, x9.holds, fun _ _ => rfl⟩⟩
          case rest =>
            obtain ⟨rfl, x9, own9⟩ := hcut
            clear own8 x8 o8 hwr8 x7 x6 x5 x4 x3 hw3 hw4 hw5 hw6 hw7
            go_wp2_with fail
            go_loopw [11] (fun i wr => ∃ k : Nat, k ≤ set.length ∧ i = .int .i64 k ∧ Ext w H wr H8 ∧ Own H8 w.heap.size wr 3 (.slice ag 12 cg) (restC h set k)) (fun i _ => set.length - (intOf i).toNat)
            case atStart => exact ⟨0, Nat.zero_le _, rfl, x9, own9⟩
            case round =>
              clear x9 own9
              obtain ⟨k, hk, rfl, xr, own⟩ := hrel
              have hwr := xr.holds
              by_cases hlk : k < set.length
              · obtain ⟨p, hp⟩ := At.mk hlk
                obtain ⟨b, o, c', he, ⟨i1, i2, i3⟩, hr1, hr2, hr3⟩ := hs8.plate hp
                cases he
                have hpo := (setOk_iff.1 hst.out).1 p hp.mem
                obtain ⟨⟨p1, p2⟩, ⟨p3, p4⟩, p5, p6⟩ := okPlate_iff.1 hpo
                obtain ⟨h1at, h1ok⟩ := one_at hpo
                obtain ⟨n, hn, hn1, hn2⟩ := plc_of hpo
                obtain ⟨hrv, hrs⟩ := restC_step (h := h) hst.out hp
                obtain ⟨q2, q1, q3⟩ := hpp.out p hp.mem
                have hLs := fun (m : Int) (h0 : 0 ≤ m) (h1 : m ≤ p.mn) (vv : Value) (S : Snap) (W : World) (hW : Holds S W) (hs : Sl S vv set) => less9_any vv set hst.out k p hp m h0 h1 S W hW hs
                have hCs := fun (m : Int) (h0 : 0 ≤ m) (h1 : m ≤ p.mn) => lessC_cn hst.out hp.mem h0 h1
                have hNs := fun (m : Int) (h0 : 0 ≤ m) (h1 : m ≤ p.mn) => lessC_nine hst.out hp.mem h0 h1
                rw [hn1] at hrv hrs h1at
                have hRl := restC_len h set k
                have hRb := fun j (hj : j < 12) => restC_bd (h := h) hst.out k hj
                have hk0 : (0 : Int) ≤ (k : Int) := by omega
                have hk1 : (k : Int) < (set.length : Int) := by omega
                have hCo1 := fun (a : Value) (S : Snap) (W : World) (hW : Holds S W) hs => countsOf9_any a [{ p with mn := 1 }] S W hW hs h1ok
                rw [h1at] at hCo1
                generalize restC h set k = R at *
                obtain ⟨V, hV⟩ : ∃ V : Nat, idleP h set p = V := ⟨_, rfl⟩
                rw [hV] at hrv q1 q2 q3
                replace hCo1 := Lib.hid hCo1
                replace hRl := Lib.hid hRl
                replace hRb := Lib.hid hRb
                replace hrv := Lib.hid hrv
                replace hrs := Lib.hid hrs
                replace q1 := Lib.hid q1
                replace q3 := Lib.hid q3
                replace hLs := Lib.hid hLs
                replace hCs := Lib.hid hCs
                replace hNs := Lib.hid hNs
                replace hn1 := Lib.hid hn1
                clear hpo h1ok h1at hV
                have ii1 := Lib.hid i1
                have ii2 := Lib.hid i2
                go_upto_region 18 with fail
                have hn_ : H8 (World.heap wr).size = none := ((Ext.refl hwr)).holds.none_of_ge (Nat.le_refl _)
                have xf := (((Ext.refl hwr)).alloc (.cells #[.int .i64 p.pg, .int .i64 p.br, .int .i64 1] 62)).freeze ((Ext.refl hwr)).below.size (heap_alloc_new wr _)
                have lf0 := Snap.le_put hn_ (.cells #[.int .i64 p.pg, .int .i64 p.br, .int .i64 1] 62 (0, 0))
                have hput := Snap.put_same H8 (World.heap wr).size (.cells #[.int .i64 p.pg, .int .i64 p.br, .int .i64 1] 62 (0, 0))
                clear hn_
                generalize Snap.put H8 (World.heap wr).size (.cells #[.int .i64 p.pg, .int .i64 p.br, .int .i64 1] 62 (0, 0)) = HO at *
                generalize World.alloc wr (.cells #[.int .i64 p.pg, .int .i64 p.br, .int .i64 1] 62) = wo at *
                generalize (World.heap wr).size = O at *
                have hwo := xf.holds
                have hI1 : I64 (1 : Int) := by constructor <;> decide
                have hv0 : ∀ w, Holds HO w → w.cell? ⟨O, 0, none⟩ = some (.int .i64 p.pg) := fun w hw => cellH hput hw 0
                have hv1 : ∀ w, Holds HO w → w.cell? ⟨O, 1, none⟩ = some (.int .i64 p.br) := fun w hw => cellH hput hw 1
                have hv2 : ∀ w, Holds HO w → w.cell? ⟨O, 2, none⟩ = some (.int .i64 1) := fun w hw => cellH hput hw 2
                have hwrH := Lib.hid hwr
                clear hput hwr lf0
                go_upto_region 19 with (obtain ⟨Hg, lg, xg, sg⟩ := plate_lit xf ⟨p.pg, p.br, 1⟩ ii1.out ii2.out hI1; go_at_call 36; go_must (refine (hCo1.out _ Hg _ xg.holds sg).mono ?_); rintro e wA ⟨vA, HA0, rfl, xA0, oA⟩; obtain ⟨HA, xA, _, sA, _⟩ := oA.close xA0; have yA := xg.trans xA)
                have hwr := hwrH.out
                have lA := yA.le hwr
                have ownA := own.ext hwr yA
                have xwA := xr.trans yA
                obtain ⟨aA, cA, eA, _, _⟩ := sA.form
                rw [List.length_set, Cn.zero.len] at eA
                subst eA
                have hsA := hs8.mono lA
                have hhA := hh8.mono lA
                have hr3A := lift lA hr3
                have hcA0 := lift lA hc0
                have hcA1 := lift lA hc1
                have hcA2 := lift lA hc2
                have hcA3 := lift lA hc3
                have hcA4 := lift lA hc4
                have hcA5 := lift lA hc5
                have hwA := xwA.holds
                clear xg xA sg oA xA0 lg xf hwo hv0 hv1 hv2 own yA hwrH hwr
                go_wp2_with fail
                go_loopw [14, 15] (fun m i wz => ∃ j : Nat, j ≤ 12 ∧ i = .int .i64 j ∧ m = .int .i64 (mT n V j) ∧ Own HA w.heap.size wz 3 (.slice ag 12 cg) (rT R n j) ∧ Ext w H wz HA) (fun _ i _ => 12 - (intOf i).toNat)
                case atStart => exact ⟨0, by omega, rfl, by simp [mT], by simpa [rT] using ownA, xwA⟩
                case round =>
                  clear ownA xwA hwA
                  obtain ⟨j, hj, rfl, rfl, ownz, xz⟩ := hrel
                  have hwz := xz.holds
                  by_cases hjm : j < 12
                  · obtain ⟨e0, e1, e2, e3⟩ := strike hRl.out hn hjm hrv.out
                    have hyb := hRb.out j hjm
                    have hlenj := rT_len hRl.out n j
                    have hatI : At (rT R n j) j (gT (rT R n j) j) := by
                      show _ = _
                      unfold gT; rw [List.getD_eq_getElem?_getD, List.getElem?_eq_getElem (by rw [hlenj]; exact hjm)]; rfl
                    rw [e0] at hatI
                    obtain ⟨g, cg', hev, _, hcl, hfz, hgb, hgH, hgl, hset⟩ := ownz.int_at hatI
                    rw [hlenj] at hev
                    cases hev
                    have hatA : At (zero12.set n 1) j (aT n j) := by
                      rw [← at_aT hn hjm]
                      show _ = _
                      unfold gT; rw [List.getD_eq_getElem?_getD, List.getElem?_eq_getElem (by rw [List.length_set, Cn.zero.len]; exact hjm)]; rfl
                    obtain ⟨bA, oA, cA', he, hiA, hrA⟩ := sA.int hatA
                    rw [List.length_set, Cn.zero.len] at he
                    cases he
                    have hmb : 0 ≤ mT n V j ∧ mT n V j ≤ 9 := by have := q1.out; unfold mT; split <;> omega
                    have hset2 : ∀ (wq : World), Own HA w.heap.size wq 3 (.slice (some ⟨g, 0, none⟩) 12 cg) (rT R n j) → Own HA w.heap.size (wq.setCell ⟨g, j, none⟩ (.int .i64 (gT R j - aT n j * gT R j))) 3 (.slice (some ⟨g, 0, none⟩) 12 cg) (rT R n (j + 1)) := fun wq hq => by
                      rw [← e2]; exact Own.set_int hq hjm hlenj _ (by unfold I64; rcases e3 with e | e <;> rw [e] <;> omega)
                    have hpr : 0 ≤ aT n j * gT R j ∧ aT n j * gT R j ≤ 9 := by rcases e3 with e | e <;> rw [e] <;> omega
                    have hwA1 : IntKind.i64.wrap (aT n j * gT R j) = aT n j * gT R j := IntWalk.i64_in _ (by omega)
                    have hwA2 : IntKind.i64.wrap (mT n V j + aT n j * gT R j) = mT n V j + aT n j * gT R j := IntWalk.i64_in _ (by omega)
                    have hwA3 : IntKind.i64.wrap (gT R j - aT n j * gT R j) = gT R j - aT n j * gT R j := IntWalk.i64_in _ (by omega)
                    replace hset2 := Lib.hid hset2
                    replace e1 := Lib.hid e1
                    clear e0 e2 e3 hset hatI hatA hlenj
                    generalize gT R j = y at *
                    generalize aT n j = aj at *
                    generalize mT n V j = mj at *
                    have hj0 : (0 : Int) ≤ (j : Int) := by omega
                    have hj1 : (j : Int) < 12 := by omega
                    have hcw : ∀ x : WB HA wr, x.w.cell? ⟨g, j, none⟩ = some (.int .i64 y) := fun x => (x.old g j hgl).trans hcl
                    go_upto_region 23 with fail
                    refine wp_region_quietB HA (by kernel_rfl) (by kernel_rfl) hwz (fun hne => ?_)
                    repeat go_big_quiet_step ((first | fail))
                    refine wpQuiet_nil ?_
                    rintro ⟨w2, hw2, hb2⟩
                    clear hne
                    have hwB := hw2
                    have ownB := ownz.ext hwz ⟨hb2, hw2, fun _ _ => rfl⟩
                    have xB := xz.step (hb2.mono xz.below.size) hw2
                    have hclB := (hb2.cell (p := ⟨g, j, none⟩) hgl).trans hcl
                    have hglB : g < w2.heap.size := Nat.lt_of_lt_of_le hgl hb2.size
                    have hcwB : ∀ x : WB HA w2, x.w.cell? ⟨g, j, none⟩ = some (.int .i64 y) := fun x => (x.old g j hglB).trans hclB
                    go_upto_region 24 with fail
                    clear hcw hcl hfz ownz xz hwz hw2 hb2
                    refine (wpIn_wide (n := 3)).1 ?_
                    show Code.wpIn (FW none) 3 _ _ _ _ _
                    have hnq : Nonempty (WB HA w2) := ⟨⟨w2, hwB, Below.refl _ _⟩⟩
                    refine wpIn_region_qtail (C := fun w' => ∃ x : WB HA w2, w' = x.w) 14 (by kernel_rfl) (by kernel_rfl) (by kernel_rfl) ⟨⟨World.drew w2, Holds.drew hwB, (Below.refl _ _).drew⟩, rfl⟩ ?_
                    simp only [List.take_succ_cons, List.take_zero, List.drop_succ_cons, List.drop_zero]
                    repeat go_big_quiet_step ((first | (fail)))
                    refine wpQuiet_nil ?_
                    clear hnq
                    rintro w2 ⟨⟨_, hw2, hb2⟩, rfl⟩
                    have ownC := ownB.ext hwB ⟨hb2, hw2, fun _ _ => rfl⟩
                    have xC := xB.step (hb2.mono xB.below.size) hw2
                    have hclC := (hb2.cell (p := ⟨g, j, none⟩) hglB).trans hclB
                    have hfzC : w2.frozen? ⟨g, j, none⟩ = false := by
                      obtain ⟨cur, hcur⟩ := ownC.row_type rfl
                      simp [World.frozen?, hcur]
                    have ownD := hset2.out _ ownC
                    have xD := xC.setCell (a := ⟨g, j, none⟩) hgb hgH (.int .i64 (y - aj * y))
                    gi_wp2
                    go_wp2
                    go_roundw
                    case rel => exact ⟨j + 1, by omega, by go_num, by rw [e1.out], ownD, xD⟩
                    case measure => simp [intOf]; omega
                  · have hj12 : j = 12 := by omega
                    subst hj12
                    rw [show mT n V 12 = (V : Int) by unfold mT; rw [if_pos hn]]
                    rw [show rT R n 12 = restC h set (k + 1) by unfold rT; rw [if_pos hn]; exact hrs.out] at ownz
                    have hV0 : (0 : Int) ≤ (V : Int) := by omega
                    have hL1 := hLs.out (V : Int) hV0 q1.out
                    have hD1 := fun (a : Value) (S : Snap) (W : World) (hW : Holds S W) hh hs => doesSetOf (setOf_ok fun q hq => (hNs.out (V : Int) hV0 q1.out q hq).2) (countsOf_setOf (hCs.out (V : Int) hV0 q1.out)) vm vb vt vo ve a h hv S W hW hh hs
                    rw [q2] at hD1
                    replace hL1 := Lib.hid hL1
                    replace hD1 := Lib.hid hD1
                    have hg1 : decide (p.mn < (V : Int)) = false := decide_eq_false (by have := q1.out; omega)
                    have hVw : IntKind.i64.wrap ((V : Int) + 1) = (V : Int) + 1 := IntWalk.i64_in _ (by have := q1.out; omega)
                    go_upto_region 25 with fail
                    go_cut [151] (fun t wx => t = .bool false ∧ Ext w H wx HA ∧ Own HA w.heap.size wx 3 (.slice ag 12 cg) (restC h set (k + 1)))
                    case first =>
                      by_cases hlt : (V : Int) < p.mn
                      · have hL2 := hLs.out ((V : Int) + 1) (by omega) (by omega)
                        have hD2 := fun (a : Value) (S : Snap) (W : World) (hW : Holds S W) hh hs => doesSetOf (setOf_ok fun q hq => (hNs.out ((V : Int) + 1) (by omega) (by omega) q hq).2) (countsOf_setOf (hCs.out ((V : Int) + 1) (by omega) (by omega))) vm vb vt vo ve a h hv S W hW hh hs
                        rw [q3.out hlt] at hD2
                        replace hL2 := Lib.hid hL2
                        replace hD2 := Lib.hid hD2
                        have hg2 : decide ((V : Int) < p.mn) = true := decide_eq_true hlt
                        refine wp_region_held_drew (S := (fun w' => Holds HA w' ∧ Ext w H w' HA ∧ Own HA w.heap.size w' 3 (.slice ag 12 cg) (restC h set (k + 1)))) (by kernel_rfl) ?_ (fun hHeld0 => ?_)
                        · (try dsimp only)
                          (first | exact ⟨by assumption, by assumption, by assumption⟩ | exact ⟨Holds.drew (by assumption), Ext.drew (by assumption), Own.drew (by assumption)⟩)
                        refine wpAnyH_take (i := 0) (oi := ?oi1) (v := ?v1) ?hi1 (by kernel_rfl) (by kernel_rfl) (by kernel_rfl) ?hq1 ?hy1 (by assumption) ?rest1
                        case hi1 => simp only [List.getElem?_toArray, List.getElem?_cons_zero] <;> rfl
                        case hq1 => exact fun _ _ _ h => h
                        case hy1 =>
                          refine Or.inl ⟨by rfl, ?_⟩
                          intro w hSw
                          (try dsimp only at hSw)
                          go_simp
                          (try simp only [hg1, hg2])
                          (try (with_reducible rfl))
                        (try simp only [Act.put, List.setIfInBounds_toArray, List.set_cons_zero, List.set_cons_succ])
                        refine wpAnyH_take (i := 1) (oi := ?oi2) (v := ?v2) ?hi2 (by kernel_rfl) (by kernel_rfl) (by kernel_rfl) ?hq2 ?hy2 (by assumption) ?rest2
                        case hi2 => simp only [List.getElem?_toArray, List.getElem?_cons_succ, List.getElem?_cons_zero] <;> rfl
                        case hq2 => exact fun _ _ _ h => h
                        case hy2 =>
                          refine Or.inl ⟨by rfl, ?_⟩
                          intro w hSw
                          (try dsimp only at hSw)
                          go_simp
                          (try simp only [hg1, hg2])
                          (try (with_reducible rfl))
                        (try simp only [Act.put, List.setIfInBounds_toArray, List.set_cons_zero, List.set_cons_succ])
                        refine wpAnyH_take (i := 2) (oi := ?oi3) (v := ?v3) ?hi3 (by kernel_rfl) (by kernel_rfl) (by kernel_rfl) ?hq3 ?hy3 (by assumption) ?rest3
                        case hi3 => simp only [List.getElem?_toArray, List.getElem?_cons_succ, List.getElem?_cons_zero] <;> rfl
                        case hq3 => exact fun _ _ _ h => h
                        case hy3 =>
                          refine Or.inl ⟨by rfl, ?_⟩
                          intro w hSw
                          (try dsimp only at hSw)
                          go_simp
                          (try simp only [hg1, hg2])
                          (try (with_reducible rfl))
                        (try simp only [Act.put, List.setIfInBounds_toArray, List.set_cons_zero, List.set_cons_succ])
                        refine wpAnyH_take (i := 3) (oi := ?oi4) (v := ?v4) ?hi4 (by kernel_rfl) (by kernel_rfl) (by kernel_rfl) ?hq4 ?hy4 (by assumption) ?rest4
                        case hi4 => simp only [List.getElem?_toArray, List.getElem?_cons_succ, List.getElem?_cons_zero] <;> rfl
                        case hq4 => exact fun _ _ _ h => h
                        case hy4 =>
                          refine Or.inl ⟨by rfl, ?_⟩
                          intro w hSw
                          (try dsimp only at hSw)
                          go_simp
                          (try simp only [hg1, hg2])
                          (try (with_reducible rfl))
                        (try simp only [Act.put, List.setIfInBounds_toArray, List.set_cons_zero, List.set_cons_succ])
                        refine wpAnyH_take (i := 4) (oi := ?oi5) (v := ?v5) ?hi5 (by kernel_rfl) (by kernel_rfl) (by kernel_rfl) ?hq5 ?hy5 (by assumption) ?rest5
                        case hi5 => simp only [List.getElem?_toArray, List.getElem?_cons_succ, List.getElem?_cons_zero] <;> rfl
                        case hq5 => exact fun _ _ _ h => h
                        case hy5 =>
                          refine Or.inl ⟨by rfl, ?_⟩
                          intro w hSw
                          (try dsimp only at hSw)
                          go_simp
                          (try simp only [hg1, hg2])
                          (try (with_reducible rfl))
                        (try simp only [Act.put, List.setIfInBounds_toArray, List.set_cons_zero, List.set_cons_succ])
                        refine wpAnyH_take (i := 5) (oi := ?oi6) (v := ?v6) ?hi6 (by kernel_rfl) (by kernel_rfl) (by kernel_rfl) ?hq6 ?hy6 (by assumption) ?rest6
                        case hi6 => simp only [List.getElem?_toArray, List.getElem?_cons_succ, List.getElem?_cons_zero] <;> rfl
                        case hq6 => exact fun _ _ _ h => h
                        case hy6 =>
                          refine Or.inl ⟨by rfl, ?_⟩
                          intro w hSw
                          (try dsimp only at hSw)
                          go_simp
                          (try simp only [hg1, hg2])
                          (try (with_reducible rfl))
                        (try simp only [Act.put, List.setIfInBounds_toArray, List.set_cons_zero, List.set_cons_succ])
                        refine wpAnyH_take (i := 6) (oi := ?oi7) (v := ?v7) ?hi7 (by kernel_rfl) (by kernel_rfl) (by kernel_rfl) ?hq7 ?hy7 (by assumption) ?rest7
                        case hi7 => simp only [List.getElem?_toArray, List.getElem?_cons_succ, List.getElem?_cons_zero] <;> rfl
                        case hq7 => exact fun _ _ _ h => h
                        case hy7 =>
                          refine Or.inl ⟨by rfl, ?_⟩
                          intro w hSw
                          (try dsimp only at hSw)
                          go_simp
                          (try simp only [hg1, hg2])
                          (try (with_reducible rfl))
                        (try simp only [Act.put, List.setIfInBounds_toArray, List.set_cons_zero, List.set_cons_succ])
                        refine wpAnyH_take (i := 7) (oi := ?oi8) (v := ?v8) ?hi8 (by kernel_rfl) (by kernel_rfl) (by kernel_rfl) ?hq8 ?hy8 (by assumption) ?rest8
                        case hi8 => simp only [List.getElem?_toArray, List.getElem?_cons_succ, List.getElem?_cons_zero] <;> rfl
                        case hq8 => exact fun _ _ _ h => h
                        case hy8 =>
                          refine Or.inl ⟨by rfl, ?_⟩
                          intro w hSw
                          (try dsimp only at hSw)
                          go_simp
                          (try simp only [hg1, hg2])
                          (try (with_reducible rfl))
                        (try simp only [Act.put, List.setIfInBounds_toArray, List.set_cons_zero, List.set_cons_succ])
                        refine wpAnyH_take (i := 8) (oi := ?oi9) (v := ?v9) ?hi9 (by kernel_rfl) (by kernel_rfl) (by kernel_rfl) ?hq9 ?hy9 (by assumption) ?rest9
                        case hi9 => simp only [List.getElem?_toArray, List.getElem?_cons_succ, List.getElem?_cons_zero] <;> rfl
                        case hq9 => exact fun _ _ _ h => h
                        case hy9 =>
                          refine Or.inl ⟨by rfl, ?_⟩
                          intro w hSw
                          (try dsimp only at hSw)
                          go_simp
                          (try simp only [hg1, hg2])
                          (try (with_reducible rfl))
                        (try simp only [Act.put, List.setIfInBounds_toArray, List.set_cons_zero, List.set_cons_succ])
                        refine wpAnyH_take (i := 9) (oi := ?oi10) (v := ?v10) ?hi10 (by kernel_rfl) (by kernel_rfl) (by kernel_rfl) ?hq10 ?hy10 (by assumption) ?rest10
                        case hi10 => simp only [List.getElem?_toArray, List.getElem?_cons_succ, List.getElem?_cons_zero] <;> rfl
                        case hq10 => exact fun _ _ _ h => h
                        case hy10 =>
                          refine Or.inl ⟨by rfl, ?_⟩
                          intro w hSw
                          (try dsimp only at hSw)
                          go_simp
                          (try simp only [hg1, hg2])
                          (try (with_reducible rfl))
                        (try simp only [Act.put, List.setIfInBounds_toArray, List.set_cons_zero, List.set_cons_succ])
                        refine wpAnyH_take (i := 10) (oi := ?oi11) (v := ?v11) ?hi11 (by kernel_rfl) (by kernel_rfl) (by kernel_rfl) ?hq11 ?hy11 (by assumption) ?rest11
                        case hi11 => simp only [List.getElem?_toArray, List.getElem?_cons_succ, List.getElem?_cons_zero] <;> rfl
                        case hq11 => exact fun _ _ _ h => h
                        case hy11 =>
                          refine Or.inl ⟨by rfl, ?_⟩
                          intro w hSw
                          (try dsimp only at hSw)
                          go_simp
                          (try simp only [hg1, hg2])
                          (try (with_reducible rfl))
                        (try simp only [Act.put, List.setIfInBounds_toArray, List.set_cons_zero, List.set_cons_succ])
                        refine wpAnyH_take (i := 11) (oi := ?oi12) (v := ?v12) ?hi12 (by kernel_rfl) (by kernel_rfl) (by kernel_rfl) ?hq12 ?hy12 (by assumption) ?rest12
                        case hi12 => simp only [List.getElem?_toArray, List.getElem?_cons_succ, List.getElem?_cons_zero] <;> rfl
                        case hq12 => exact fun _ _ _ h => h
                        case hy12 =>
                          refine Or.inl ⟨by rfl, ?_⟩
                          intro w hSw
                          (try dsimp only at hSw)
                          go_simp
                          (try simp only [hg1, hg2])
                          (try (with_reducible rfl))
                        (try simp only [Act.put, List.setIfInBounds_toArray, List.set_cons_zero, List.set_cons_succ])
                        refine wpAnyH_ready (rs := [12]) (by kernel_rfl) (by simp) ?_
                        refine AllReadyH.cons (o := ?o13) ?ho13 (fun K hK => ?step13) ?more13
                        case ho13 => simp only [List.getElem?_toArray, List.getElem?_cons_succ, List.getElem?_cons_zero] <;> rfl
                        case step13 =>
                          go_simp
                          (go_split_ands; go_at_call 38; refine (hL1.out _ HA _ (by assumption) hsA).mono ?_; rintro e wD ⟨vD, HD0, rfl, xD0, oD⟩; obtain ⟨HD, xD, _, sD, _⟩ := oD.close xD0; obtain ⟨aD, cD, rfl, _, _⟩ := sD.form; have lD := xD.le (by assumption); have k1 : Holds HA wD := xD.holds.mono lD; have k2 : Ext w H wD HA := Ext.step (by assumption) (xD.below.mono (by assumption : Ext w H _ HA).below.size) k1; have k3 : Own HA w.heap.size wD 3 (.slice ag 12 cg) (restC h set (k + 1)) := Own.ext (by assumption) (by assumption) (xD.back (Ext.refl (by assumption)) lD))
                          (try (go_wp2_with fail))
                          refine hK.out _ _ ?_ (fun hHeld1 => ?_)
                          · (try dsimp only)
                            (first | exact ⟨by assumption, by assumption, by assumption⟩ | exact ⟨Holds.drew (by assumption), Ext.drew (by assumption), Own.drew (by assumption)⟩)
                          clear hK K
                          (try clear hHeld0)
                          (try simp only [Act.put, List.setIfInBounds_toArray, List.set_cons_zero, List.set_cons_succ])
                          refine wpAnyH_ready (rs := [13]) (by kernel_rfl) (by simp) ?_
                          refine AllReadyH.cons (o := ?o14) ?ho14 (fun K hK => ?step14) ?more14
                          case ho14 => simp only [List.getElem?_toArray, List.getElem?_cons_succ, List.getElem?_cons_zero] <;> rfl
                          case step14 =>
                            go_simp
                            (go_split_ands; go_at_call 34; refine (hD1.out _ HD _ xD.holds (hhA.mono lD) sD).mono ?_; rintro e wE ⟨rfl, hbE⟩; have k1 : Holds HA wE := Holds.below (by assumption) hbE; have k2 : Ext w H wE HA := Ext.step (by assumption) (hbE.mono (by assumption : Ext w H _ HA).below.size) k1; have k3 : Own HA w.heap.size wE 3 (.slice ag 12 cg) (restC h set (k + 1)) := Own.ext (by assumption) (by assumption) ⟨hbE, k1, fun _ _ => rfl⟩)
                            (try (go_wp2_with fail))
                            refine hK.out _ _ ?_ (fun hHeld2 => ?_)
                            · (try dsimp only)
                              (first | exact ⟨by assumption, by assumption, by assumption⟩ | exact ⟨Holds.drew (by assumption), Ext.drew (by assumption), Own.drew (by assumption)⟩)
                            clear hK K
                            (try clear hHeld1)
                            (try simp only [Act.put, List.setIfInBounds_toArray, List.set_cons_zero, List.set_cons_succ])
                            refine wpAnyH_take (i := 14) (oi := ?oi15) (v := ?v15) ?hi15 (by kernel_rfl) (by kernel_rfl) (by kernel_rfl) ?hq15 ?hy15 (by assumption) ?rest15
                            case hi15 => simp only [List.getElem?_toArray, List.getElem?_cons_succ, List.getElem?_cons_zero] <;> rfl
                            case hq15 => exact fun _ _ _ h => h
                            case hy15 =>
                              refine Or.inl ⟨by rfl, ?_⟩
                              intro w hSw
                              (try dsimp only at hSw)
                              go_simp
                              (try simp only [hg1, hg2])
                              (try (with_reducible rfl))
                            (try simp only [Act.put, List.setIfInBounds_toArray, List.set_cons_zero, List.set_cons_succ])
                            refine wpAnyH_take (i := 15) (oi := ?oi16) (v := ?v16) ?hi16 (by kernel_rfl) (by kernel_rfl) (by kernel_rfl) ?hq16 ?hy16 (by assumption) ?rest16
                            case hi16 => simp only [List.getElem?_toArray, List.getElem?_cons_succ, List.getElem?_cons_zero] <;> rfl
                            case hq16 => exact fun _ _ _ h => h
                            case hy16 =>
                              refine Or.inl ⟨by rfl, ?_⟩
                              intro w hSw
                              (try dsimp only at hSw)
                              go_simp
                              (try simp only [hg1, hg2])
                              (try (with_reducible rfl))
                            (try simp only [Act.put, List.setIfInBounds_toArray, List.set_cons_zero, List.set_cons_succ])
                            refine wpAnyH_take (i := 16) (oi := ?oi17) (v := ?v17) ?hi17 (by kernel_rfl) (by kernel_rfl) (by kernel_rfl) ?hq17 ?hy17 (by assumption) ?rest17
                            case hi17 => simp only [List.getElem?_toArray, List.getElem?_cons_succ, List.getElem?_cons_zero] <;> rfl
                            case hq17 => exact fun _ _ _ h => h
                            case hy17 =>
                              refine Or.inl ⟨by rfl, ?_⟩
                              intro w hSw
                              (try dsimp only at hSw)
                              go_simp
                              (try simp only [hg1, hg2])
                              (try (with_reducible rfl))
                            (try simp only [Act.put, List.setIfInBounds_toArray, List.set_cons_zero, List.set_cons_succ])
                            refine wpAnyH_take (i := 17) (oi := ?oi18) (v := ?v18) ?hi18 (by kernel_rfl) (by kernel_rfl) (by kernel_rfl) ?hq18 ?hy18 (by assumption) ?rest18
                            case hi18 => simp only [List.getElem?_toArray, List.getElem?_cons_succ, List.getElem?_cons_zero] <;> rfl
                            case hq18 => exact fun _ _ _ h => h
                            case hy18 =>
                              refine Or.inl ⟨by rfl, ?_⟩
                              intro w hSw
                              (try dsimp only at hSw)
                              go_simp
                              (try simp only [hg1, hg2])
                              (try (with_reducible rfl))
                            (try simp only [Act.put, List.setIfInBounds_toArray, List.set_cons_zero, List.set_cons_succ])
                            refine wpAnyH_take (i := 18) (oi := ?oi19) (v := ?v19) ?hi19 (by kernel_rfl) (by kernel_rfl) (by kernel_rfl) ?hq19 ?hy19 (by assumption) ?rest19
                            case hi19 => simp only [List.getElem?_toArray, List.getElem?_cons_succ, List.getElem?_cons_zero] <;> rfl
                            case hq19 => exact fun _ _ _ h => h
                            case hy19 =>
                              refine Or.inl ⟨by rfl, ?_⟩
                              intro w hSw
                              (try dsimp only at hSw)
                              go_simp
                              (try simp only [hg1, hg2])
                              (try (with_reducible rfl))
                            (try simp only [Act.put, List.setIfInBounds_toArray, List.set_cons_zero, List.set_cons_succ])
                            refine wpAnyH_take (i := 19) (oi := ?oi20) (v := ?v20) ?hi20 (by kernel_rfl) (by kernel_rfl) (by kernel_rfl) ?hq20 ?hy20 (by assumption) ?rest20
                            case hi20 => simp only [List.getElem?_toArray, List.getElem?_cons_succ, List.getElem?_cons_zero] <;> rfl
                            case hq20 => exact fun _ _ _ h => h
                            case hy20 =>
                              refine Or.inl ⟨by rfl, ?_⟩
                              intro w hSw
                              (try dsimp only at hSw)
                              go_simp
                              (try simp only [hg1, hg2])
                              (try (with_reducible rfl))
                            (try simp only [Act.put, List.setIfInBounds_toArray, List.set_cons_zero, List.set_cons_succ])
                            refine wpAnyH_take (i := 20) (oi := ?oi21) (v := ?v21) ?hi21 (by kernel_rfl) (by kernel_rfl) (by kernel_rfl) ?hq21 ?hy21 (by assumption) ?rest21
                            case hi21 => simp only [List.getElem?_toArray, List.getElem?_cons_succ, List.getElem?_cons_zero] <;> rfl
                            case hq21 => exact fun _ _ _ h => h
                            case hy21 =>
                              refine Or.inl ⟨by rfl, ?_⟩
                              intro w hSw
                              (try dsimp only at hSw)
                              go_simp
                              (try simp only [hg1, hg2])
                              (try (with_reducible rfl))
                            (try simp only [Act.put, List.setIfInBounds_toArray, List.set_cons_zero, List.set_cons_succ])
                            refine wpAnyH_take (i := 21) (oi := ?oi22) (v := ?v22) ?hi22 (by kernel_rfl) (by kernel_rfl) (by kernel_rfl) ?hq22 ?hy22 (by assumption) ?rest22
                            case hi22 => simp only [List.getElem?_toArray, List.getElem?_cons_succ, List.getElem?_cons_zero] <;> rfl
                            case hq22 => exact fun _ _ _ h => h
                            case hy22 =>
                              refine Or.inl ⟨by rfl, ?_⟩
                              intro w hSw
                              (try dsimp only at hSw)
                              go_simp
                              (try simp only [hg1, hg2])
                              (try (with_reducible rfl))
                            (try simp only [Act.put, List.setIfInBounds_toArray, List.set_cons_zero, List.set_cons_succ])
                            refine wpAnyH_take (i := 22) (oi := ?oi23) (v := ?v23) ?hi23 (by kernel_rfl) (by kernel_rfl) (by kernel_rfl) ?hq23 ?hy23 (by assumption) ?rest23
                            case hi23 => simp only [List.getElem?_toArray, List.getElem?_cons_succ, List.getElem?_cons_zero] <;> rfl
                            case hq23 => exact fun _ _ _ h => h
                            case hy23 =>
                              refine Or.inl ⟨by rfl, ?_⟩
                              intro w hSw
                              (try dsimp only at hSw)
                              go_simp
                              (try simp only [hg1, hg2])
                              (try (with_reducible rfl))
                            (try simp only [Act.put, List.setIfInBounds_toArray, List.set_cons_zero, List.set_cons_succ])
                            refine wpAnyH_take (i := 23) (oi := ?oi24) (v := ?v24) ?hi24 (by kernel_rfl) (by kernel_rfl) (by kernel_rfl) ?hq24 ?hy24 (by assumption) ?rest24
                            case hi24 => simp only [List.getElem?_toArray, List.getElem?_cons_succ, List.getElem?_cons_zero] <;> rfl
                            case hq24 => exact fun _ _ _ h => h
                            case hy24 =>
                              refine Or.inl ⟨by rfl, ?_⟩
                              intro w hSw
                              (try dsimp only at hSw)
                              go_simp
                              (try simp only [hg1, hg2])
                              (try (with_reducible rfl))
                            (try simp only [Act.put, List.setIfInBounds_toArray, List.set_cons_zero, List.set_cons_succ])
                            refine wpAnyH_take (i := 24) (oi := ?oi25) (v := ?v25) ?hi25 (by kernel_rfl) (by kernel_rfl) (by kernel_rfl) ?hq25 ?hy25 (by assumption) ?rest25
                            case hi25 => simp only [List.getElem?_toArray, List.getElem?_cons_succ, List.getElem?_cons_zero] <;> rfl
                            case hq25 => exact fun _ _ _ h => h
                            case hy25 =>
                              refine Or.inl ⟨by rfl, ?_⟩
                              intro w hSw
                              (try dsimp only at hSw)
                              go_simp
                              (try simp only [hg1, hg2])
                              (try (with_reducible rfl))
                            (try simp only [Act.put, List.setIfInBounds_toArray, List.set_cons_zero, List.set_cons_succ])
                            refine wpAnyH_take (i := 25) (oi := ?oi26) (v := ?v26) ?hi26 (by kernel_rfl) (by kernel_rfl) (by kernel_rfl) ?hq26 ?hy26 (by assumption) ?rest26
                            case hi26 => simp only [List.getElem?_toArray, List.getElem?_cons_succ, List.getElem?_cons_zero] <;> rfl
                            case hq26 => exact fun _ _ _ h => h
                            case hy26 =>
                              refine Or.inl ⟨by rfl, ?_⟩
                              intro w hSw
                              (try dsimp only at hSw)
                              go_simp
                              (try simp only [hg1, hg2])
                              (try (with_reducible rfl))
                            (try simp only [Act.put, List.setIfInBounds_toArray, List.set_cons_zero, List.set_cons_succ])
                            refine wpAnyH_take (i := 26) (oi := ?oi27) (v := ?v27) ?hi27 (by kernel_rfl) (by kernel_rfl) (by kernel_rfl) ?hq27 ?hy27 (by assumption) ?rest27
                            case hi27 => simp only [List.getElem?_toArray, List.getElem?_cons_succ, List.getElem?_cons_zero] <;> rfl
                            case hq27 => exact fun _ _ _ h => h
                            case hy27 =>
                              refine Or.inl ⟨by rfl, ?_⟩
                              intro w hSw
                              (try dsimp only at hSw)
                              go_simp
                              (try simp only [hg1, hg2])
                              (try (with_reducible rfl))
                            (try simp only [Act.put, List.setIfInBounds_toArray, List.set_cons_zero, List.set_cons_succ])
                            refine wpAnyH_take (i := 27) (oi := ?oi28) (v := ?v28) ?hi28 (by kernel_rfl) (by kernel_rfl) (by kernel_rfl) ?hq28 ?hy28 (by assumption) ?rest28
                            case hi28 => simp only [List.getElem?_toArray, List.getElem?_cons_succ, List.getElem?_cons_zero] <;> rfl
                            case hq28 => exact fun _ _ _ h => h
                            case hy28 =>
                              refine Or.inl ⟨by rfl, ?_⟩
                              intro w hSw
                              (try dsimp only at hSw)
                              go_simp
                              (try simp only [hg1, hg2])
                              (try (with_reducible rfl))
                            (try simp only [Act.put, List.setIfInBounds_toArray, List.set_cons_zero, List.set_cons_succ])
                            refine wpAnyH_take (i := 28) (oi := ?oi29) (v := ?v29) ?hi29 (by kernel_rfl) (by kernel_rfl) (by kernel_rfl) ?hq29 ?hy29 (by assumption) ?rest29
                            case hi29 => simp only [List.getElem?_toArray, List.getElem?_cons_succ, List.getElem?_cons_zero] <;> rfl
                            case hq29 => exact fun _ _ _ h => h
                            case hy29 =>
                              refine Or.inl ⟨by rfl, ?_⟩
                              intro w hSw
                              (try dsimp only at hSw)
                              go_simp
                              (try simp only [hg1, hg2])
                              (try (with_reducible rfl))
                            (try simp only [Act.put, List.setIfInBounds_toArray, List.set_cons_zero, List.set_cons_succ])
                            refine wpAnyH_take (i := 29) (oi := ?oi30) (v := ?v30) ?hi30 (by kernel_rfl) (by kernel_rfl) (by kernel_rfl) ?hq30 ?hy30 (by assumption) ?rest30
                            case hi30 => simp only [List.getElem?_toArray, List.getElem?_cons_succ, List.getElem?_cons_zero] <;> rfl
                            case hq30 => exact fun _ _ _ h => h
                            case hy30 =>
                              refine Or.inl ⟨by rfl, ?_⟩
                              intro w hSw
                              (try dsimp only at hSw)
                              go_simp
                              (try simp only [hg1, hg2])
                              (try (with_reducible rfl))
                            (try simp only [Act.put, List.setIfInBounds_toArray, List.set_cons_zero, List.set_cons_succ])
                            refine wpAnyH_ready (rs := [30]) (by kernel_rfl) (by simp) ?_
                            refine AllReadyH.cons (o := ?o31) ?ho31 (fun K hK => ?step31) ?more31
                            case ho31 => simp only [List.getElem?_toArray, List.getElem?_cons_succ, List.getElem?_cons_zero] <;> rfl
                            case step31 =>
                              go_simp
                              (go_split_ands; go_at_call 38; refine (hL2.out _ HA _ (by assumption) hsA).mono ?_; rintro e wF ⟨vF, HF0, rfl, xF0, oF⟩; obtain ⟨HF, xF, _, sF, _⟩ := oF.close xF0; obtain ⟨aF, cF, rfl, _, _⟩ := sF.form; have lF := xF.le (by assumption); have k1 : Holds HA wF := xF.holds.mono lF; have k2 : Ext w H wF HA := Ext.step (by assumption) (xF.below.mono (by assumption : Ext w H _ HA).below.size) k1; have k3 : Own HA w.heap.size wF 3 (.slice ag 12 cg) (restC h set (k + 1)) := Own.ext (by assumption) (by assumption) (xF.back (Ext.refl (by assumption)) lF))
                              (try (go_wp2_with fail))
                              refine hK.out _ _ ?_ (fun hHeld3 => ?_)
                              · (try dsimp only)
                                (first | exact ⟨by assumption, by assumption, by assumption⟩ | exact ⟨Holds.drew (by assumption), Ext.drew (by assumption), Own.drew (by assumption)⟩)
                              clear hK K
                              (try clear hHeld2)
                              (try simp only [Act.put, List.setIfInBounds_toArray, List.set_cons_zero, List.set_cons_succ])
                              refine wpAnyH_ready (rs := [31]) (by kernel_rfl) (by simp) ?_
                              refine AllReadyH.cons (o := ?o32) ?ho32 (fun K hK => ?step32) ?more32
                              case ho32 => simp only [List.getElem?_toArray, List.getElem?_cons_succ, List.getElem?_cons_zero] <;> rfl
                              case step32 =>
                                go_simp
                                (go_split_ands; go_at_call 34; refine (hD2.out _ HF _ xF.holds (hhA.mono lF) sF).mono ?_; rintro e wG ⟨rfl, hbG⟩; have k1 : Holds HA wG := Holds.below (by assumption) hbG; have k2 : Ext w H wG HA := Ext.step (by assumption) (hbG.mono (by assumption : Ext w H _ HA).below.size) k1; have k3 : Own HA w.heap.size wG 3 (.slice ag 12 cg) (restC h set (k + 1)) := Own.ext (by assumption) (by assumption) ⟨hbG, k1, fun _ _ => rfl⟩)
                                (try (go_wp2_with fail))
                                refine hK.out _ _ ?_ (fun hHeld4 => ?_)
                                · (try dsimp only)
                                  (first | exact ⟨by assumption, by assumption, by assumption⟩ | exact ⟨Holds.drew (by assumption), Ext.drew (by assumption), Own.drew (by assumption)⟩)
                                clear hK K
                                (try clear hHeld3)
                                (try simp only [Act.put, List.setIfInBounds_toArray, List.set_cons_zero, List.set_cons_succ])
                                refine wpAnyH_take (i := 32) (oi := ?oi33) (v := ?v33) ?hi33 (by kernel_rfl) (by kernel_rfl) (by kernel_rfl) ?hq33 ?hy33 (by assumption) ?rest33
                                case hi33 => simp only [List.getElem?_toArray, List.getElem?_cons_succ, List.getElem?_cons_zero] <;> rfl
                                case hq33 => exact fun _ _ _ h => h
                                case hy33 =>
                                  refine Or.inl ⟨by rfl, ?_⟩
                                  intro w hSw
                                  (try dsimp only at hSw)
                                  go_simp
                                  (try simp only [hg1, hg2])
                                  (try (with_reducible rfl))
                                (try simp only [Act.put, List.setIfInBounds_toArray, List.set_cons_zero, List.set_cons_succ])
                                refine wpAnyH_take (i := 33) (oi := ?oi34) (v := ?v34) ?hi34 (by kernel_rfl) (by kernel_rfl) (by kernel_rfl) ?hq34 ?hy34 (by assumption) ?rest34
                                case hi34 => simp only [List.getElem?_toArray, List.getElem?_cons_succ, List.getElem?_cons_zero] <;> rfl
                                case hq34 => exact fun _ _ _ h => h
                                case hy34 =>
                                  refine Or.inl ⟨by rfl, ?_⟩
                                  intro w hSw
                                  (try dsimp only at hSw)
                                  go_simp
                                  (try simp only [hg1, hg2])
                                  (try (with_reducible rfl))
                                (try simp only [Act.put, List.setIfInBounds_toArray, List.set_cons_zero, List.set_cons_succ])
                                refine wpAnyH_done (by kernel_rfl) ?_ _
                                go_wp2_with fail
                                go_meet
                                exact ⟨rfl, by assumption, by assumption⟩
                              exact AllReadyH.nil
                            exact AllReadyH.nil
                          exact AllReadyH.nil
                        exact AllReadyH.nil
                      · have hg2 : decide ((V : Int) < p.mn) = false := decide_eq_false hlt
                        refine wp_region_held_drew (S := (fun w' => Holds HA w' ∧ Ext w H w' HA ∧ Own HA w.heap.size w' 3 (.slice ag 12 cg) (restC h set (k + 1)))) (by kernel_rfl) ?_ (fun hHeld0 => ?_)
                        · (try dsimp only)
                          (first | exact ⟨by assumption, by assumption, by assumption⟩ | exact ⟨Holds.drew (by assumption), Ext.drew (by assumption), Own.drew (by assumption)⟩)
                        refine wpAnyH_take (i := 0) (oi := ?oi1b) (v := ?v1b) ?hi1b (by kernel_rfl) (by kernel_rfl) (by kernel_rfl) ?hq1b ?hy1b (by assumption) ?rest1b
                        case hi1b => simp only [List.getElem?_toArray, List.getElem?_cons_zero] <;> rfl
                        case hq1b => exact fun _ _ _ h => h
                        case hy1b =>
                          refine Or.inl ⟨by rfl, ?_⟩
                          intro w hSw
                          (try dsimp only at hSw)
                          go_simp
                          (try simp only [hg1, hg2])
                          (try (with_reducible rfl))
                        (try simp only [Act.put, List.setIfInBounds_toArray, List.set_cons_zero, List.set_cons_succ])
                        refine wpAnyH_take (i := 1) (oi := ?oi2b) (v := ?v2b) ?hi2b (by kernel_rfl) (by kernel_rfl) (by kernel_rfl) ?hq2b ?hy2b (by assumption) ?rest2b
                        case hi2b => simp only [List.getElem?_toArray, List.getElem?_cons_succ, List.getElem?_cons_zero] <;> rfl
                        case hq2b => exact fun _ _ _ h => h
                        case hy2b =>
                          refine Or.inl ⟨by rfl, ?_⟩
                          intro w hSw
                          (try dsimp only at hSw)
                          go_simp
                          (try simp only [hg1, hg2])
                          (try (with_reducible rfl))
                        (try simp only [Act.put, List.setIfInBounds_toArray, List.set_cons_zero, List.set_cons_succ])
                        refine wpAnyH_take (i := 2) (oi := ?oi3b) (v := ?v3b) ?hi3b (by kernel_rfl) (by kernel_rfl) (by kernel_rfl) ?hq3b ?hy3b (by assumption) ?rest3b
                        case hi3b => simp only [List.getElem?_toArray, List.getElem?_cons_succ, List.getElem?_cons_zero] <;> rfl
                        case hq3b => exact fun _ _ _ h => h
                        case hy3b =>
                          refine Or.inl ⟨by rfl, ?_⟩
                          intro w hSw
                          (try dsimp only at hSw)
                          go_simp
                          (try simp only [hg1, hg2])
                          (try (with_reducible rfl))
                        (try simp only [Act.put, List.setIfInBounds_toArray, List.set_cons_zero, List.set_cons_succ])
                        refine wpAnyH_take (i := 3) (oi := ?oi4b) (v := ?v4b) ?hi4b (by kernel_rfl) (by kernel_rfl) (by kernel_rfl) ?hq4b ?hy4b (by assumption) ?rest4b
                        case hi4b => simp only [List.getElem?_toArray, List.getElem?_cons_succ, List.getElem?_cons_zero] <;> rfl
                        case hq4b => exact fun _ _ _ h => h
                        case hy4b =>
                          refine Or.inl ⟨by rfl, ?_⟩
                          intro w hSw
                          (try dsimp only at hSw)
                          go_simp
                          (try simp only [hg1, hg2])
                          (try (with_reducible rfl))
                        (try simp only [Act.put, List.setIfInBounds_toArray, List.set_cons_zero, List.set_cons_succ])
                        refine wpAnyH_take (i := 4) (oi := ?oi5b) (v := ?v5b) ?hi5b (by kernel_rfl) (by kernel_rfl) (by kernel_rfl) ?hq5b ?hy5b (by assumption) ?rest5b
                        case hi5b => simp only [List.getElem?_toArray, List.getElem?_cons_succ, List.getElem?_cons_zero] <;> rfl
                        case hq5b => exact fun _ _ _ h => h
                        case hy5b =>
                          refine Or.inl ⟨by rfl, ?_⟩
                          intro w hSw
                          (try dsimp only at hSw)
                          go_simp
                          (try simp only [hg1, hg2])
                          (try (with_reducible rfl))
                        (try simp only [Act.put, List.setIfInBounds_toArray, List.set_cons_zero, List.set_cons_succ])
                        refine wpAnyH_take (i := 5) (oi := ?oi6b) (v := ?v6b) ?hi6b (by kernel_rfl) (by kernel_rfl) (by kernel_rfl) ?hq6b ?hy6b (by assumption) ?rest6b
                        case hi6b => simp only [List.getElem?_toArray, List.getElem?_cons_succ, List.getElem?_cons_zero] <;> rfl
                        case hq6b => exact fun _ _ _ h => h
                        case hy6b =>
                          refine Or.inl ⟨by rfl, ?_⟩
                          intro w hSw
                          (try dsimp only at hSw)
                          go_simp
                          (try simp only [hg1, hg2])
                          (try (with_reducible rfl))
                        (try simp only [Act.put, List.setIfInBounds_toArray, List.set_cons_zero, List.set_cons_succ])
                        refine wpAnyH_take (i := 6) (oi := ?oi7b) (v := ?v7b) ?hi7b (by kernel_rfl) (by kernel_rfl) (by kernel_rfl) ?hq7b ?hy7b (by assumption) ?rest7b
                        case hi7b => simp only [List.getElem?_toArray, List.getElem?_cons_succ, List.getElem?_cons_zero] <;> rfl
                        case hq7b => exact fun _ _ _ h => h
                        case hy7b =>
                          refine Or.inl ⟨by rfl, ?_⟩
                          intro w hSw
                          (try dsimp only at hSw)
                          go_simp
                          (try simp only [hg1, hg2])
                          (try (with_reducible rfl))
                        (try simp only [Act.put, List.setIfInBounds_toArray, List.set_cons_zero, List.set_cons_succ])
                        refine wpAnyH_take (i := 7) (oi := ?oi8b) (v := ?v8b) ?hi8b (by kernel_rfl) (by kernel_rfl) (by kernel_rfl) ?hq8b ?hy8b (by assumption) ?rest8b
                        case hi8b => simp only [List.getElem?_toArray, List.getElem?_cons_succ, List.getElem?_cons_zero] <;> rfl
                        case hq8b => exact fun _ _ _ h => h
                        case hy8b =>
                          refine Or.inl ⟨by rfl, ?_⟩
                          intro w hSw
                          (try dsimp only at hSw)
                          go_simp
                          (try simp only [hg1, hg2])
                          (try (with_reducible rfl))
                        (try simp only [Act.put, List.setIfInBounds_toArray, List.set_cons_zero, List.set_cons_succ])
                        refine wpAnyH_take (i := 8) (oi := ?oi9b) (v := ?v9b) ?hi9b (by kernel_rfl) (by kernel_rfl) (by kernel_rfl) ?hq9b ?hy9b (by assumption) ?rest9b
                        case hi9b => simp only [List.getElem?_toArray, List.getElem?_cons_succ, List.getElem?_cons_zero] <;> rfl
                        case hq9b => exact fun _ _ _ h => h
                        case hy9b =>
                          refine Or.inl ⟨by rfl, ?_⟩
                          intro w hSw
                          (try dsimp only at hSw)
                          go_simp
                          (try simp only [hg1, hg2])
                          (try (with_reducible rfl))
                        (try simp only [Act.put, List.setIfInBounds_toArray, List.set_cons_zero, List.set_cons_succ])
                        refine wpAnyH_take (i := 9) (oi := ?oi10b) (v := ?v10b) ?hi10b (by kernel_rfl) (by kernel_rfl) (by kernel_rfl) ?hq10b ?hy10b (by assumption) ?rest10b
                        case hi10b => simp only [List.getElem?_toArray, List.getElem?_cons_succ, List.getElem?_cons_zero] <;> rfl
                        case hq10b => exact fun _ _ _ h => h
                        case hy10b =>
                          refine Or.inl ⟨by rfl, ?_⟩
                          intro w hSw
                          (try dsimp only at hSw)
                          go_simp
                          (try simp only [hg1, hg2])
                          (try (with_reducible rfl))
                        (try simp only [Act.put, List.setIfInBounds_toArray, List.set_cons_zero, List.set_cons_succ])
                        refine wpAnyH_take (i := 10) (oi := ?oi11b) (v := ?v11b) ?hi11b (by kernel_rfl) (by kernel_rfl) (by kernel_rfl) ?hq11b ?hy11b (by assumption) ?rest11b
                        case hi11b => simp only [List.getElem?_toArray, List.getElem?_cons_succ, List.getElem?_cons_zero] <;> rfl
                        case hq11b => exact fun _ _ _ h => h
                        case hy11b =>
                          refine Or.inl ⟨by rfl, ?_⟩
                          intro w hSw
                          (try dsimp only at hSw)
                          go_simp
                          (try simp only [hg1, hg2])
                          (try (with_reducible rfl))
                        (try simp only [Act.put, List.setIfInBounds_toArray, List.set_cons_zero, List.set_cons_succ])
                        refine wpAnyH_take (i := 11) (oi := ?oi12b) (v := ?v12b) ?hi12b (by kernel_rfl) (by kernel_rfl) (by kernel_rfl) ?hq12b ?hy12b (by assumption) ?rest12b
                        case hi12b => simp only [List.getElem?_toArray, List.getElem?_cons_succ, List.getElem?_cons_zero] <;> rfl
                        case hq12b => exact fun _ _ _ h => h
                        case hy12b =>
                          refine Or.inl ⟨by rfl, ?_⟩
                          intro w hSw
                          (try dsimp only at hSw)
                          go_simp
                          (try simp only [hg1, hg2])
                          (try (with_reducible rfl))
                        (try simp only [Act.put, List.setIfInBounds_toArray, List.set_cons_zero, List.set_cons_succ])
                        refine wpAnyH_ready (rs := [12]) (by kernel_rfl) (by simp) ?_
                        refine AllReadyH.cons (o := ?o13b) ?ho13b (fun K hK => ?step13b) ?more13b
                        case ho13b => simp only [List.getElem?_toArray, List.getElem?_cons_succ, List.getElem?_cons_zero] <;> rfl
                        case step13b =>
                          go_simp
                          (go_split_ands; go_at_call 38; refine (hL1.out _ HA _ (by assumption) hsA).mono ?_; rintro e wD ⟨vD, HD0, rfl, xD0, oD⟩; obtain ⟨HD, xD, _, sD, _⟩ := oD.close xD0; obtain ⟨aD, cD, rfl, _, _⟩ := sD.form; have lD := xD.le (by assumption); have k1 : Holds HA wD := xD.holds.mono lD; have k2 : Ext w H wD HA := Ext.step (by assumption) (xD.below.mono (by assumption : Ext w H _ HA).below.size) k1; have k3 : Own HA w.heap.size wD 3 (.slice ag 12 cg) (restC h set (k + 1)) := Own.ext (by assumption) (by assumption) (xD.back (Ext.refl (by assumption)) lD))
                          (try (go_wp2_with fail))
                          refine hK.out _ _ ?_ (fun hHeld1 => ?_)
                          · (try dsimp only)
                            (first | exact ⟨by assumption, by assumption, by assumption⟩ | exact ⟨Holds.drew (by assumption), Ext.drew (by assumption), Own.drew (by assumption)⟩)
                          clear hK K
                          (try clear hHeld0)
                          (try simp only [Act.put, List.setIfInBounds_toArray, List.set_cons_zero, List.set_cons_succ])
                          refine wpAnyH_ready (rs := [13]) (by kernel_rfl) (by simp) ?_
                          refine AllReadyH.cons (o := ?o14b) ?ho14b (fun K hK => ?step14b) ?more14b
                          case ho14b => simp only [List.getElem?_toArray, List.getElem?_cons_succ, List.getElem?_cons_zero] <;> rfl
                          case step14b =>
                            go_simp
                            (go_split_ands; go_at_call 34; refine (hD1.out _ HD _ xD.holds (hhA.mono lD) sD).mono ?_; rintro e wE ⟨rfl, hbE⟩; have k1 : Holds HA wE := Holds.below (by assumption) hbE; have k2 : Ext w H wE HA := Ext.step (by assumption) (hbE.mono (by assumption : Ext w H _ HA).below.size) k1; have k3 : Own HA w.heap.size wE 3 (.slice ag 12 cg) (restC h set (k + 1)) := Own.ext (by assumption) (by assumption) ⟨hbE, k1, fun _ _ => rfl⟩)
                            (try (go_wp2_with fail))
                            refine hK.out _ _ ?_ (fun hHeld2 => ?_)
                            · (try dsimp only)
                              (first | exact ⟨by assumption, by assumption, by assumption⟩ | exact ⟨Holds.drew (by assumption), Ext.drew (by assumption), Own.drew (by assumption)⟩)
                            clear hK K
                            (try clear hHeld1)
                            (try simp only [Act.put, List.setIfInBounds_toArray, List.set_cons_zero, List.set_cons_succ])
                            refine wpAnyH_take (i := 14) (oi := ?oi15b) (v := ?v15b) ?hi15b (by kernel_rfl) (by kernel_rfl) (by kernel_rfl) ?hq15b ?hy15b (by assumption) ?rest15b
                            case hi15b => simp only [List.getElem?_toArray, List.getElem?_cons_succ, List.getElem?_cons_zero] <;> rfl
                            case hq15b => exact fun _ _ _ h => h
                            case hy15b =>
                              refine Or.inl ⟨by rfl, ?_⟩
                              intro w hSw
                              (try dsimp only at hSw)
                              go_simp
                              (try simp only [hg1, hg2])
                              (try (with_reducible rfl))
                            (try simp only [Act.put, List.setIfInBounds_toArray, List.set_cons_zero, List.set_cons_succ])
                            refine wpAnyH_take (i := 15) (oi := ?oi16b) (v := ?v16b) ?hi16b (by kernel_rfl) (by kernel_rfl) (by kernel_rfl) ?hq16b ?hy16b (by assumption) ?rest16b
                            case hi16b => simp only [List.getElem?_toArray, List.getElem?_cons_succ, List.getElem?_cons_zero] <;> rfl
                            case hq16b => exact fun _ _ _ h => h
                            case hy16b =>
                              refine Or.inl ⟨by rfl, ?_⟩
                              intro w hSw
                              (try dsimp only at hSw)
                              go_simp
                              (try simp only [hg1, hg2])
                              (try (with_reducible rfl))
                            (try simp only [Act.put, List.setIfInBounds_toArray, List.set_cons_zero, List.set_cons_succ])
                            refine wpAnyH_take (i := 16) (oi := ?oi17b) (v := ?v17b) ?hi17b (by kernel_rfl) (by kernel_rfl) (by kernel_rfl) ?hq17b ?hy17b (by assumption) ?rest17b
                            case hi17b => simp only [List.getElem?_toArray, List.getElem?_cons_succ, List.getElem?_cons_zero] <;> rfl
                            case hq17b => exact fun _ _ _ h => h
                            case hy17b =>
                              refine Or.inl ⟨by rfl, ?_⟩
                              intro w hSw
                              (try dsimp only at hSw)
                              go_simp
                              (try simp only [hg1, hg2])
                              (try (with_reducible rfl))
                            (try simp only [Act.put, List.setIfInBounds_toArray, List.set_cons_zero, List.set_cons_succ])
                            refine wpAnyH_take (i := 17) (oi := ?oi18b) (v := ?v18b) ?hi18b (by kernel_rfl) (by kernel_rfl) (by kernel_rfl) ?hq18b ?hy18b (by assumption) ?rest18b
                            case hi18b => simp only [List.getElem?_toArray, List.getElem?_cons_succ, List.getElem?_cons_zero] <;> rfl
                            case hq18b => exact fun _ _ _ h => h
                            case hy18b =>
                              refine Or.inl ⟨by rfl, ?_⟩
                              intro w hSw
                              (try dsimp only at hSw)
                              go_simp
                              (try simp only [hg1, hg2])
                              (try (with_reducible rfl))
                            (try simp only [Act.put, List.setIfInBounds_toArray, List.set_cons_zero, List.set_cons_succ])
                            refine wpAnyH_take (i := 18) (oi := ?oi19b) (v := ?v19b) ?hi19b (by kernel_rfl) (by kernel_rfl) (by kernel_rfl) ?hq19b ?hy19b (by assumption) ?rest19b
                            case hi19b => simp only [List.getElem?_toArray, List.getElem?_cons_succ, List.getElem?_cons_zero] <;> rfl
                            case hq19b => exact fun _ _ _ h => h
                            case hy19b =>
                              refine Or.inl ⟨by rfl, ?_⟩
                              intro w hSw
                              (try dsimp only at hSw)
                              go_simp
                              (try simp only [hg1, hg2])
                              (try (with_reducible rfl))
                            (try simp only [Act.put, List.setIfInBounds_toArray, List.set_cons_zero, List.set_cons_succ])
                            refine wpAnyH_take (i := 19) (oi := ?oi20b) (v := ?v20b) ?hi20b (by kernel_rfl) (by kernel_rfl) (by kernel_rfl) ?hq20b ?hy20b (by assumption) ?rest20b
                            case hi20b => simp only [List.getElem?_toArray, List.getElem?_cons_succ, List.getElem?_cons_zero] <;> rfl
                            case hq20b => exact fun _ _ _ h => h
                            case hy20b =>
                              refine Or.inl ⟨by rfl, ?_⟩
                              intro w hSw
                              (try dsimp only at hSw)
                              go_simp
                              (try simp only [hg1, hg2])
                              (try (with_reducible rfl))
                            (try simp only [Act.put, List.setIfInBounds_toArray, List.set_cons_zero, List.set_cons_succ])
                            refine wpAnyH_take (i := 20) (oi := ?oi21b) (v := ?v21b) ?hi21b (by kernel_rfl) (by kernel_rfl) (by kernel_rfl) ?hq21b ?hy21b (by assumption) ?rest21b
                            case hi21b => simp only [List.getElem?_toArray, List.getElem?_cons_succ, List.getElem?_cons_zero] <;> rfl
                            case hq21b => exact fun _ _ _ h => h
                            case hy21b =>
                              refine Or.inl ⟨by rfl, ?_⟩
                              intro w hSw
                              (try dsimp only at hSw)
                              go_simp
                              (try simp only [hg1, hg2])
                              (try (with_reducible rfl))
                            (try simp only [Act.put, List.setIfInBounds_toArray, List.set_cons_zero, List.set_cons_succ])
                            refine wpAnyH_take (i := 21) (oi := ?oi22b) (v := ?v22b) ?hi22b (by kernel_rfl) (by kernel_rfl) (by kernel_rfl) ?hq22b ?hy22b (by assumption) ?rest22b
                            case hi22b => simp only [List.getElem?_toArray, List.getElem?_cons_succ, List.getElem?_cons_zero] <;> rfl
                            case hq22b => exact fun _ _ _ h => h
                            case hy22b =>
                              refine Or.inl ⟨by rfl, ?_⟩
                              intro w hSw
                              (try dsimp only at hSw)
                              go_simp
                              (try simp only [hg1, hg2])
                              (try (with_reducible rfl))
                            (try simp only [Act.put, List.setIfInBounds_toArray, List.set_cons_zero, List.set_cons_succ])
                            refine wpAnyH_take (i := 22) (oi := ?oi23b) (v := ?v23b) ?hi23b (by kernel_rfl) (by kernel_rfl) (by kernel_rfl) ?hq23b ?hy23b (by assumption) ?rest23b
                            case hi23b => simp only [List.getElem?_toArray, List.getElem?_cons_succ, List.getElem?_cons_zero] <;> rfl
                            case hq23b => exact fun _ _ _ h => h
                            case hy23b =>
                              refine Or.inl ⟨by rfl, ?_⟩
                              intro w hSw
                              (try dsimp only at hSw)
                              go_simp
                              (try simp only [hg1, hg2])
                              (try (with_reducible rfl))
                            (try simp only [Act.put, List.setIfInBounds_toArray, List.set_cons_zero, List.set_cons_succ])
                            refine wpAnyH_take (i := 23) (oi := ?oi24b) (v := ?v24b) ?hi24b (by kernel_rfl) (by kernel_rfl) (by kernel_rfl) ?hq24b ?hy24b (by assumption) ?rest24b
                            case hi24b => simp only [List.getElem?_toArray, List.getElem?_cons_succ, List.getElem?_cons_zero] <;> rfl
                            case hq24b => exact fun _ _ _ h => h
                            case hy24b =>
                              refine Or.inl ⟨by rfl, ?_⟩
                              intro w hSw
                              (try dsimp only at hSw)
                              go_simp
                              (try simp only [hg1, hg2])
                              (try (with_reducible rfl))
                            (try simp only [Act.put, List.setIfInBounds_toArray, List.set_cons_zero, List.set_cons_succ])
                            refine wpAnyH_take (i := 24) (oi := ?oi25b) (v := ?v25b) ?hi25b (by kernel_rfl) (by kernel_rfl) (by kernel_rfl) ?hq25b ?hy25b (by assumption) ?rest25b
                            case hi25b => simp only [List.getElem?_toArray, List.getElem?_cons_succ, List.getElem?_cons_zero] <;> rfl
                            case hq25b => exact fun _ _ _ h => h
                            case hy25b =>
                              refine Or.inl ⟨by rfl, ?_⟩
                              intro w hSw
                              (try dsimp only at hSw)
                              go_simp
                              (try simp only [hg1, hg2])
                              (try (with_reducible rfl))
                            (try simp only [Act.put, List.setIfInBounds_toArray, List.set_cons_zero, List.set_cons_succ])
                            refine wpAnyH_take (i := 25) (oi := ?oi26b) (v := undef) ?hi26b (by kernel_rfl) (by kernel_rfl) (by kernel_rfl) ?hq26b ?hy26b (by assumption) ?rest26b
                            case hi26b => simp only [List.getElem?_toArray, List.getElem?_cons_succ, List.getElem?_cons_zero] <;> rfl
                            case hq26b => exact fun _ _ _ h => h
                            case hy26b => exact Or.inr ⟨by rfl, rfl⟩
                            (try simp only [Act.put, List.setIfInBounds_toArray, List.set_cons_zero, List.set_cons_succ])
                            refine wpAnyH_take (i := 26) (oi := ?oi27b) (v := undef) ?hi27b (by kernel_rfl) (by kernel_rfl) (by kernel_rfl) ?hq27b ?hy27b (by assumption) ?rest27b
                            case hi27b => simp only [List.getElem?_toArray, List.getElem?_cons_succ, List.getElem?_cons_zero] <;> rfl
                            case hq27b => exact fun _ _ _ h => h
                            case hy27b => exact Or.inr ⟨by rfl, rfl⟩
                            (try simp only [Act.put, List.setIfInBounds_toArray, List.set_cons_zero, List.set_cons_succ])
                            refine wpAnyH_take (i := 27) (oi := ?oi28b) (v := undef) ?hi28b (by kernel_rfl) (by kernel_rfl) (by kernel_rfl) ?hq28b ?hy28b (by assumption) ?rest28b
                            case hi28b => simp only [List.getElem?_toArray, List.getElem?_cons_succ, List.getElem?_cons_zero] <;> rfl
                            case hq28b => exact fun _ _ _ h => h
                            case hy28b => exact Or.inr ⟨by rfl, rfl⟩
                            (try simp only [Act.put, List.setIfInBounds_toArray, List.set_cons_zero, List.set_cons_succ])
                            refine wpAnyH_take (i := 28) (oi := ?oi29b) (v := undef) ?hi29b (by kernel_rfl) (by kernel_rfl) (by kernel_rfl) ?hq29b ?hy29b (by assumption) ?rest29b
                            case hi29b => simp only [List.getElem?_toArray, List.getElem?_cons_succ, List.getElem?_cons_zero] <;> rfl
                            case hq29b => exact fun _ _ _ h => h
                            case hy29b => exact Or.inr ⟨by rfl, rfl⟩
                            (try simp only [Act.put, List.setIfInBounds_toArray, List.set_cons_zero, List.set_cons_succ])
                            refine wpAnyH_take (i := 29) (oi := ?oi30b) (v := undef) ?hi30b (by kernel_rfl) (by kernel_rfl) (by kernel_rfl) ?hq30b ?hy30b (by assumption) ?rest30b
                            case hi30b => simp only [List.getElem?_toArray, List.getElem?_cons_succ, List.getElem?_cons_zero] <;> rfl
                            case hq30b => exact fun _ _ _ h => h
                            case hy30b => exact Or.inr ⟨by rfl, rfl⟩
                            (try simp only [Act.put, List.setIfInBounds_toArray, List.set_cons_zero, List.set_cons_succ])
                            refine wpAnyH_take (i := 30) (oi := ?oi31b) (v := undef) ?hi31b (by kernel_rfl) (by kernel_rfl) (by kernel_rfl) ?hq31b ?hy31b (by assumption) ?rest31b
                            case hi31b => simp only [List.getElem?_toArray, List.getElem?_cons_succ, List.getElem?_cons_zero] <;> rfl
                            case hq31b => exact fun _ _ _ h => h
                            case hy31b => exact Or.inr ⟨by rfl, rfl⟩
                            (try simp only [Act.put, List.setIfInBounds_toArray, List.set_cons_zero, List.set_cons_succ])
                            refine wpAnyH_take (i := 31) (oi := ?oi32b) (v := undef) ?hi32b (by kernel_rfl) (by kernel_rfl) (by kernel_rfl) ?hq32b ?hy32b (by assumption) ?rest32b
                            case hi32b => simp only [List.getElem?_toArray, List.getElem?_cons_succ, List.getElem?_cons_zero] <;> rfl
                            case hq32b => exact fun _ _ _ h => h
                            case hy32b => exact Or.inr ⟨by rfl, rfl⟩
                            (try simp only [Act.put, List.setIfInBounds_toArray, List.set_cons_zero, List.set_cons_succ])
                            refine wpAnyH_take (i := 32) (oi := ?oi33b) (v := ?v33b) ?hi33b (by kernel_rfl) (by kernel_rfl) (by kernel_rfl) ?hq33b ?hy33b (by assumption) ?rest33b
                            case hi33b => simp only [List.getElem?_toArray, List.getElem?_cons_succ, List.getElem?_cons_zero] <;> rfl
                            case hq33b => exact fun _ _ _ h => h
                            case hy33b =>
                              refine Or.inl ⟨by rfl, ?_⟩
                              intro w hSw
                              (try dsimp only at hSw)
                              go_simp
                              (try simp only [hg1, hg2])
                              (try (with_reducible rfl))
                            (try simp only [Act.put, List.setIfInBounds_toArray, List.set_cons_zero, List.set_cons_succ])
                            refine wpAnyH_take (i := 33) (oi := ?oi34b) (v := ?v34b) ?hi34b (by kernel_rfl) (by kernel_rfl) (by kernel_rfl) ?hq34b ?hy34b (by assumption) ?rest34b
                            case hi34b => simp only [List.getElem?_toArray, List.getElem?_cons_succ, List.getElem?_cons_zero] <;> rfl
                            case hq34b => exact fun _ _ _ h => h
                            case hy34b =>
                              refine Or.inl ⟨by rfl, ?_⟩
                              intro w hSw
                              (try dsimp only at hSw)
                              go_simp
                              (try simp only [hg1, hg2])
                              (try (with_reducible rfl))
                            (try simp only [Act.put, List.setIfInBounds_toArray, List.set_cons_zero, List.set_cons_succ])
                            refine wpAnyH_done (by kernel_rfl) ?_ _
                            go_wp2_with fail
                            go_meet
                            exact ⟨rfl, by assumption, by assumption⟩
                          exact AllReadyH.nil
                        exact AllReadyH.nil
                    case rest =>
                      obtain ⟨rfl, xz, ownz⟩ := hcut
                      go_wp2_with fail
                      go_roundw
                      case rel => exact ⟨k + 1, by omega, by go_num, xz.back xr lA, ownz.flatT lA⟩
                      case measure => simp [intOf]; omega
              · have hke : k = set.length := by omega
                rw [hke, restC_end] at own
                obtain ⟨H9, l9, hw9, s9, _⟩ := own.freeze hwr
                have hS := sum1_any _ zero12 (by rw [Cn.zero.len]; omega) Cn.zero.bd H9 _ hw9 s9
                rw [show cntSum zero12 = 0 by decide] at hS
                replace hS := Lib.hid hS
                clear s9 own
                go_wp2_with (first
                  | (have hgd := x10; clear hgd; go_at_call 9; refine (works9_any H8 _ x10.holds).mono ?_; rintro e w11 ⟨rfl, hb11⟩; have x11 := x10.step (hb11.mono x10.below.size) (x10.holds.below hb11))
                  | (go_at_call 39; refine hS.out.mono ?_; rintro e w10 ⟨rfl, hb10⟩; have x10 := xr.step (hb10.mono xr.below.size) (hwr.below hb10)))
                go_ret
                exact ⟨rfl, x11.below⟩

end Go.Proofs.YtngdppajailpcaaGreat

namespace Go.Proofs.YtngdppajailpcaaGreat
open Go.ChangeShapes Go.WideShapes Go.ChangeAt Go.RowKit

theorem machinesIdle_own : ownKnob Tryz.prog.godebug = none := by kernel_rfl
theorem machinesIdle_laid : laidOutB Tryz.prog = true := by kernel_rfl

set_option maxHeartbeats 1600000 in
set_option maxRecDepth 100000 in
theorem machinesIdle_lifted (os : Os) (started : os.Started) (H : Type) (enc : TypeId × Value → H) :
    ReturnsInHanded {} Tryz.checked os 6 .any (Rows.machinesIdleSpec.pre6 enc Tryz.prog Tryz.f6 Rows.machinesIdleRow.domain false) (Rows.machinesIdleSpec.post enc Tryz.prog Tryz.f6 false true false false) := by
  refine returnsInHanded_of_change_sized (C := Tryz.checked) machinesIdle_own started (by kernel_rfl) Tryz.func6
    (ChangeSpec.witness6 (enc := enc) (C := Tryz.checked) false ⟨#[], #[.agg #[.slice none 0 0, .slice none 0 0, .slice none 0 0, .int .i64 0, .slice none 0 0, .slice none 0 0], .slice none 0 0], []⟩ 8 (by kernel_rfl) (by kernel_rfl) (by kernel_rfl) (by kernel_rfl)) ?_
  intro W base args ds gs before hval0 hW _ hsz _
  have hval : ∀ (j : Nat) t v, Tryz.f6.params[j]? = some t → args[j]? = some v → Value.okWide Tryz.prog W .any base t v := hval0
  have hW' := hW
  obtain ⟨p, q, hA0, hV, rfl, _, _⟩ := hW
  have hA : DataW.TrodAll enc Tryz.prog W 0 (fun _ => true) true Tryz.f6.params.toList args.toList ds p := hA0
  have hS : (DataW.weightsEach Tryz.prog (Tryz.f6.params.toList ++ []) (ds ++ gs)).all (· ≤ reachBytes) = true := hsz
  rw [Tryz.params6] at hA hval hS
  obtain ⟨v0, v1, d0, d1, p0, p1, rfl, rfl, rfl, h0, h1⟩ := trodAll_two hA
  obtain ⟨rfl, rfl⟩ := trodVars_none hV
  clear hA0 hval0 hsz
  simp only [List.append_nil] at hW' hS
  have hlt : ∀ x ∈ p0 ++ p1, x.block < W.heap.size := fun x hx => by simpa using hW'.lt x hx
  have harg0 : ∀ W', Below W.heap.size W W' → DataW.Trod enc Tryz.prog W' 0 (fun b => decide (b < W.heap.size)) true 29 v0 d0 p0 := fun W' hb =>
    Below.trod machinesIdle_laid (by kernel_rfl) (of_decide_eq_true (by kernel_rfl)) h0 hb (fun x hx => hlt x (List.mem_append.2 (.inl hx)))
  have hw0 : ∀ k ∈ d0.weights Tryz.prog 29, k ≤ reachBytes := fun k hk => by
    simpa using List.all_eq_true.1 hS k (DataW.weights_mem_each (j := 0) rfl rfl k hk)
  have harg1 : ∀ W', Below W.heap.size W W' → DataW.Trod enc Tryz.prog W' 0 (fun b => decide (b < W.heap.size)) true 39 v1 d1 p1 := fun W' hb =>
    Below.trod machinesIdle_laid (by kernel_rfl) (of_decide_eq_true (by kernel_rfl)) h1 hb (fun x hx => hlt x (List.mem_append.2 (.inr hx)))
  have hw1 : ∀ k ∈ d1.weights Tryz.prog 39, k ≤ reachBytes := fun k hk => by
    simpa using List.all_eq_true.1 hS k (DataW.weights_mem_each (j := 1) rfl rfl k hk)
  obtain ⟨vm, vb, vt, vo, ve, hs, rfl, hh⟩ := hall_opened (hval 0 29 v0 rfl rfl) h0 hw0
  obtain ⟨a1, l1, c1, rfl⟩ := okWide_slice Tryz.underlying39 (hval 1 39 v1 rfl rfl)
  obtain ⟨n1, h1'⟩ := h1
  obtain ⟨xs1, hx1⟩ := plates_opened (by simpa [Value.cells] using h1') hw1
  refine (machinesIdle_any vm vb vt vo ve _ hs xs1 (snapOf W) W (snapOf_holds W) hh hx1).mono fun e W' ⟨he, hb⟩ => ?_
  subst he
  refine ⟨_, rfl, _, _, _, [], _, [], hW', ?_, trodAll_mk2 (harg0 W' hb) (harg1 W' hb), rfl, hb.frame _, fun h => by cases h⟩
  exact trodAll_mk1 (shut_bool Tryz.underlying4 _)

theorem machinesIdle_said : Rows.MachinesIdleSaid :=
  OpenClaim.holds_of_wide 6 Tryz.f6 rfl rfl rfl rfl rfl rfl rfl ⟨rfl, rfl, rfl, rfl, rfl⟩ rfl rfl rfl rfl rfl (by kernel_rfl) Tryz.func6 (by kernel_rfl)
    (of_decide_eq_true (by kernel_rfl)) (by unfold Func.isWrapper; first | (rw [if_pos (by decide +kernel)]; kernel_rfl) | (rw [if_neg (by decide +kernel)]; exact ⟨rfl, rfl⟩))
    (fun os started H enc _ => machinesIdle_lifted os started H enc)

end Go.Proofs.YtngdppajailpcaaGreat
