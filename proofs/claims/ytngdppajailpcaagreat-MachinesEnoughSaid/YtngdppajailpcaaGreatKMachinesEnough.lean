/- Proved here: MachinesEnoughSaid: the law MachinesEnough returns true for every hall and set, and they read afterwards as they did. Conditions: none beyond those of the given statement. -/
import Derived.Test.YtngdppajailpcaaGreatG24
import Derived.Test.YtngdppajailpcaaGreatG25
import Derived.Test.YtngdppajailpcaaGreatG26
import Derived.Test.YtngdppajailpcaaGreatG27
import Derived.Test.YtngdppajailpcaaGreatRows
import Derived.ProofKit

set_option linter.all false

namespace Go.Proofs.YtngdppajailpcaaGreat
open Go.RowKit

attribute [local go_sem] Holds.drew Holds.alloc Holds.drewN WB.holds Oper.semAt_some FW_fn FW_dep FW_round

theorem sureA_hall {h : Hall} (hv : ValidH h) : (joinsH h = [] → sureA h.hs = false) ∧ (joinsH h ≠ [] → sureA h.hs = true) := by
  have e : sureA h.hs = sureB h.hs [] := by rw [← sureT_eq]; unfold sureT; rw [valid_iff.2 hv.hs]; rfl
  have k := joinsH_sure hv
  rw [e]
  constructor
  · intro hj
    cases hb : sureB h.hs [] with
    | false => rfl
    | true => exact absurd hj (k.2 hb)
  · exact k.1
theorem enough_ne {h : Hall} (hv : ValidH h) {set : List Plate} (hs : setOk set = true) (hd : doAllC (countsOf set) (allA h) = true) : joinsH h ≠ [] := fun e => by
  obtain ⟨y, hy, _⟩ := (doAll_joins hv (countsOf_cn hs)).1 hd
  rw [e] at hy; cases hy
structure BestC (h : Hall) (c : Cnt) : Prop where
  set : setA h = setOf c
  cn : Cn c
  nine : ∀ k, k < 12 → gT c k ≤ 9
  num : cntSum c = numC h zero12
  does : doAllC c (allA h) = true
  least : ∀ x, Cn x → doAllC x (allA h) = true → cntLt x c = false ∧ cntSum c ≤ cntSum x
theorem bestC_of {h : Hall} (hv : ValidH h) (hj : joinsH h ≠ []) : ∃ c, BestC h c := by
  cases e : leastA h zero12 with
  | none => exact absurd ((leastA_none hv Cn.zero).1 e) hj
  | some c =>
    obtain ⟨⟨y, hy, hcy⟩, hmin⟩ := leastA_some hv Cn.zero e
    have hyc := joinsH_cn3 hv y hy
    have hz : ∀ z ∈ joinsH h, cntMax zero12 z = z := fun z hz => by
      have h3 := joinsH_cn3 hv z hz
      refine gt_ext (by rw [cntMax_len (by rw [Cn.zero.len, h3.len])]; exact Cn.zero.len) h3.len fun k hk => ?_
      rw [cntMax_at Cn.zero.len h3.len hk, gt_zero hk]
      have := h3.bd k hk
      omega
    rw [hz y hy] at hcy
    subst hcy
    have hcc := hyc.cn
    refine ⟨c, ?_, hcc, fun k hk => by have := hyc.bd k hk; omega, ?_, ?_, ?_⟩
    · unfold setA; rw [validHall_iff.2 hv, if_pos rfl, e]
    · unfold numC; rw [e]
      show cntSum c = cntSum c - cntSum zero12
      rw [show cntSum zero12 = 0 by decide]; omega
    · exact (doAll_joins hv hcc).2 ⟨c, hy, cntLe_refl c⟩
    · intro x hx hd
      obtain ⟨z, hzj, hzx⟩ := (doAll_joins hv hx).1 hd
      have h1 := hmin z hzj
      rw [hz z hzj] at h1
      have hzl : z.length = x.length := by rw [(joinsH_cn3 hv z hzj).len, hx.len]
      have hcl : c.length = x.length := by rw [hyc.len, hx.len]
      have hs := cntLe_sum hzl hzx
      constructor
      · rcases cntLe_lt hzl hzx with e2 | e2
        · rw [← e2]; exact h1
        · cases h2 : cntLt x c with
          | false => rfl
          | true => rw [cntLt_trans e2 h2] at h1; cases h1
      · rcases Int.lt_or_le (cntSum z) (cntSum c) with h2 | h2
        · rw [cntLt_iff.2 (.inl h2)] at h1; cases h1
        · omega

set_option maxRecDepth 100000 in
set_option maxHeartbeats 8000000 in
theorem machinesEnough_any (vm vb vt vo ve vs : Value) (h : Hall) (set : List Plate) (H : Snap) (w : World) (hw : Holds H w) (hh : Hal H vm vb vt vo ve h) (hs : Sl H vs set) : Calls Tryz.prog 7 #[halV vm vb vt vo ve h, vs] w (PostV w (.bool true)) := by
  cases hr : ready9 h
  · go_enter Tryz.func7, Tryz.ntmps7
    go_wp2_with (first
      | (have hgd := x2; clear hgd; go_at_call 9; refine (works9_any H1 _ x2.holds).mono ?_; rintro e w3 ⟨rfl, hb3⟩; have x3 := x2.step (hb3.mono x2.below.size) (x2.holds.below hb3); have hw3 := x3.holds)
      | (have hgd := x1; clear hgd; go_at_call 31; refine (ready9_any _ _ _ _ _ _ H1 _ x1.holds (hh.mono hle)).mono ?_; rintro e w2 ⟨rfl, hb2⟩; rw [hr]; have x2 := x1.step (hb2.mono x1.below.size) (x1.holds.below hb2); have hw2 := x2.holds)
      | (have hgd := hw; clear hgd; refine wpList_boxF rfl _ rfl (Ext.refl hw) ?_; intro B w1 H1 hle hx hB hBw; obtain ⟨hc0, hc1, hc2, hc3, hc4, hc5⟩ := cellsHal hB; clear hB hw; have hw1 := hx.holds; have x1 := hx))
    go_ret
    exact ⟨rfl, x3.below⟩
  · have hv := ready9_valid hr
    have hvh := validHall_iff.2 hv
    have hfw := fun (S : Snap) (W : World) (hW : Holds S W) hh => fewestL9_any vm vb vt vo ve h hv S W hW hh
    have hse := fun (S : Snap) (W : World) (hW : Holds S W) hh => setM_any vm vb vt vo ve h S W hW hh
    have hsu := fun (S : Snap) (W : World) (hW : Holds S W) (hh : Hal S vm vb vt vo ve h) => sureP_any vm vb vt h.hs S W hW hh.hs
    have heT : errT (valid h.hs) = 0 := by rw [valid_iff.2 hv.hs]; rfl
    rw [heT] at hsu
    have hso : setOk (setA h) = true := setA_ok
    obtain ⟨ss, cs, rfl, _, _⟩ := hs.form
    rcases fewest_num hv with ⟨n1, n2, n3, n4⟩ | ⟨n1, n2, n3, n4, n5⟩
    · rw [n4] at hfw
      rw [n2] at hse
      rw [(sureA_hall hv).1 n1] at hsu
      have hno : setOk set = true → doAllC (countsOf set) (allA h) = false := fun hst => by
        cases hd : doAllC (countsOf set) (allA h) with
        | false => rfl
        | true => exact absurd n1 (enough_ne hv hst hd)
      clear n1 n2 n3 n4 heT hso
      replace hfw := Lib.hid hfw
      replace hse := Lib.hid hse
      replace hsu := Lib.hid hsu
      cases hst : setOk set
      · clear hno
        go_enter Tryz.func7, Tryz.ntmps7
        go_wp2_with (first
          | (have hgd := x7; clear hgd; go_at_call 9; refine (works9_any H4 _ x7.holds).mono ?_; rintro e w8 ⟨rfl, hb8⟩; have x8 := x7.step (hb8.mono x7.below.size) (x7.holds.below hb8); have hw8 := x8.holds)
          | (have hgd := x6; clear hgd; go_at_call 32; refine (isSetL_any _ set H4 _ x6.holds ((hs.mono hle).mono l4)).mono ?_; rintro e w7 ⟨rfl, hb7⟩; have x7 := x6.step (hb7.mono x6.below.size) (x6.holds.below hb7); have hw7 := x7.holds)
          | (have hgd := x5; clear hgd; go_at_call 35; refine (isKnown_any 3 _).mono ?_; rintro e w6 ⟨rfl, hb6⟩; have x6 := x5.step (hb6.mono x5.below.size) (x5.holds.below hb6); have hw6 := x6.holds)
          | (have hgd := x4; clear hgd; go_at_call 40; refine (hsu.out H4 _ x4.holds ((hh.mono hle).mono l4)).mono ?_; rintro e w5 ⟨rfl, hb5⟩; have x5 := x4.step (hb5.mono x4.below.size) (x4.holds.below hb5); have hw5 := x5.holds)
          | (have hgd := x3; clear hgd; go_at_call 16; refine (hse.out H1 _ x3.holds (hh.mono hle)).mono ?_; rintro e w4 ⟨v4, H4, rfl, y4, u4, rfl, s4⟩; obtain ⟨a4, c4, rfl, _, _⟩ := s4.form; have x4 := x3.trans y4; have l4 := y4.le x3.holds; have hw4 := x4.holds; replace hc0 := lift l4 hc0; replace hc1 := lift l4 hc1; replace hc2 := lift l4 hc2; replace hc3 := lift l4 hc3; replace hc4 := lift l4 hc4; replace hc5 := lift l4 hc5)
          | (have hgd := x2; clear hgd; go_at_call 33; refine (hfw.out H1 _ x2.holds (hh.mono hle)).mono ?_; rintro e w3 ⟨rfl, hb3⟩; have x3 := x2.step (hb3.mono x2.below.size) (x2.holds.below hb3); have hw3 := x3.holds)
          | (have hgd := x1; clear hgd; go_at_call 31; refine (ready9_any _ _ _ _ _ _ H1 _ x1.holds (hh.mono hle)).mono ?_; rintro e w2 ⟨rfl, hb2⟩; rw [hr]; have x2 := x1.step (hb2.mono x1.below.size) (x1.holds.below hb2); have hw2 := x2.holds)
          | (have hgd := hw; clear hgd; refine wpList_boxF rfl _ rfl (Ext.refl hw) ?_; intro B w1 H1 hle hx hB hBw; obtain ⟨hc0, hc1, hc2, hc3, hc4, hc5⟩ := cellsHal hB; clear hB hw; have hw1 := hx.holds; have x1 := hx))
        go_ret
        exact ⟨rfl, x8.below⟩
      · have hen := fun (S : Snap) (W : World) (hW : Holds S W) hh hs => isEnough9_any vm vb vt vo ve (.slice ss set.length cs) h hv set hst S W hW hh hs
        rw [hno hst] at hen
        replace hen := Lib.hid hen
        clear hno
        go_enter Tryz.func7, Tryz.ntmps7
        go_wp2_with (first
          | (have hgd := x8; clear hgd; go_at_call 9; refine (works9_any H4 _ x8.holds).mono ?_; rintro e w9 ⟨rfl, hb9⟩; have x9 := x8.step (hb9.mono x8.below.size) (x8.holds.below hb9); have hw9 := x9.holds)
          | (have hgd := x7; clear hgd; go_at_call 34; refine (hen.out H4 _ x7.holds ((hh.mono hle).mono l4) ((hs.mono hle).mono l4)).mono ?_; rintro e w8 ⟨rfl, hb8⟩; have x8 := x7.step (hb8.mono x7.below.size) (x7.holds.below hb8); have hw8 := x8.holds)
          | (have hgd := x6; clear hgd; go_at_call 32; refine (isSetL_any _ set H4 _ x6.holds ((hs.mono hle).mono l4)).mono ?_; rintro e w7 ⟨rfl, hb7⟩; have x7 := x6.step (hb7.mono x6.below.size) (x6.holds.below hb7); have hw7 := x7.holds)
          | (have hgd := x5; clear hgd; go_at_call 35; refine (isKnown_any 3 _).mono ?_; rintro e w6 ⟨rfl, hb6⟩; have x6 := x5.step (hb6.mono x5.below.size) (x5.holds.below hb6); have hw6 := x6.holds)
          | (have hgd := x4; clear hgd; go_at_call 40; refine (hsu.out H4 _ x4.holds ((hh.mono hle).mono l4)).mono ?_; rintro e w5 ⟨rfl, hb5⟩; have x5 := x4.step (hb5.mono x4.below.size) (x4.holds.below hb5); have hw5 := x5.holds)
          | (have hgd := x3; clear hgd; go_at_call 16; refine (hse.out H1 _ x3.holds (hh.mono hle)).mono ?_; rintro e w4 ⟨v4, H4, rfl, y4, u4, rfl, s4⟩; obtain ⟨a4, c4, rfl, _, _⟩ := s4.form; have x4 := x3.trans y4; have l4 := y4.le x3.holds; have hw4 := x4.holds; replace hc0 := lift l4 hc0; replace hc1 := lift l4 hc1; replace hc2 := lift l4 hc2; replace hc3 := lift l4 hc3; replace hc4 := lift l4 hc4; replace hc5 := lift l4 hc5)
          | (have hgd := x2; clear hgd; go_at_call 33; refine (hfw.out H1 _ x2.holds (hh.mono hle)).mono ?_; rintro e w3 ⟨rfl, hb3⟩; have x3 := x2.step (hb3.mono x2.below.size) (x2.holds.below hb3); have hw3 := x3.holds)
          | (have hgd := x1; clear hgd; go_at_call 31; refine (ready9_any _ _ _ _ _ _ H1 _ x1.holds (hh.mono hle)).mono ?_; rintro e w2 ⟨rfl, hb2⟩; rw [hr]; have x2 := x1.step (hb2.mono x1.below.size) (x1.holds.below hb2); have hw2 := x2.holds)
          | (have hgd := hw; clear hgd; refine wpList_boxF rfl _ rfl (Ext.refl hw) ?_; intro B w1 H1 hle hx hB hBw; obtain ⟨hc0, hc1, hc2, hc3, hc4, hc5⟩ := cellsHal hB; clear hB hw; have hw1 := hx.holds; have x1 := hx))
        go_ret
        exact ⟨rfl, x9.below⟩
    · obtain ⟨c, B⟩ := bestC_of hv n1
      rw [n2] at hse
      rw [(sureA_hall hv).2 n1] at hsu
      have hsp : platesOf (setA h) = numC h zero12 := by rw [plates_setA, n3]
      have hsd : doAllC (countsOf (setA h)) (allA h) = true := by rw [B.set, countsOf_setOf B.cn]; exact B.does
      have hcs : countsOf (setA h) = c := by rw [B.set, countsOf_setOf B.cn]
      have hPs := fun (a : Value) (S : Snap) (W : World) (hW : Holds S W) hs => platesOf9_any a (setA h) S W hW hs hso
      have hEs := fun (a : Value) (S : Snap) (W : World) (hW : Holds S W) hh hs => isEnough9_any vm vb vt vo ve a h hv (setA h) hso S W hW hh hs
      have hCs := fun (a : Value) (S : Snap) (W : World) (hW : Holds S W) hs => countsOf9_any a (setA h) S W hW hs hso
      have hIs := fun (a : Value) (S : Snap) (W : World) (hW : Holds S W) hs => isSetL_any a (setA h) S W hW hs
      rw [hsp] at hPs
      rw [hsd] at hEs
      rw [hcs] at hCs
      rw [hso] at hIs
      have hnum := B.num
      have hlst := B.least
      have hccn := B.cn
      clear hsp hsd hcs B heT
      generalize setA h = ST at *
      generalize numC h zero12 = NV at *
      have hd1 : decide (NV < 10000) = true := decide_eq_true (by omega)
      replace hfw := Lib.hid hfw
      replace hse := Lib.hid hse
      replace hsu := Lib.hid hsu
      replace hPs := Lib.hid hPs
      replace hEs := Lib.hid hEs
      replace hCs := Lib.hid hCs
      replace hIs := Lib.hid hIs
      clear hso n1 n2 n3
      cases hst : setOk set
      · go_enter Tryz.func7, Tryz.ntmps7
        go_wp2_with (first
          | (have hgd := x10; clear hgd; go_at_call 9; refine (works9_any H4 _ x10.holds).mono ?_; rintro e w11 ⟨rfl, hb11⟩; have x11 := x10.step (hb11.mono x10.below.size) (x10.holds.below hb11); have hw11 := x11.holds)
          | (have hgd := x9; clear hgd; go_at_call 32; refine (isSetL_any _ set H4 _ x9.holds ((hs.mono hle).mono l4)).mono ?_; rintro e w10 ⟨rfl, hb10⟩; have x10 := x9.step (hb10.mono x9.below.size) (x9.holds.below hb10); have hw10 := x10.holds)
          | (have hgd := x8; clear hgd; go_at_call 34; refine (hEs.out _ H4 _ x8.holds ((hh.mono hle).mono l4) s4).mono ?_; rintro e w9 ⟨rfl, hb9⟩; have x9 := x8.step (hb9.mono x8.below.size) (x8.holds.below hb9); have hw9 := x9.holds)
          | (have hgd := x7; clear hgd; go_at_call 37; refine (hPs.out _ H4 _ x7.holds s4).mono ?_; rintro e w8 ⟨rfl, hb8⟩; have x8 := x7.step (hb8.mono x7.below.size) (x7.holds.below hb8); have hw8 := x8.holds)
          | (have hgd := x6; clear hgd; go_at_call 32; refine (hIs.out _ H4 _ x6.holds s4).mono ?_; rintro e w7 ⟨rfl, hb7⟩; have x7 := x6.step (hb7.mono x6.below.size) (x6.holds.below hb7); have hw7 := x7.holds)
          | (have hgd := x5; clear hgd; go_at_call 35; refine (isKnown_any 0 _).mono ?_; rintro e w6 ⟨rfl, hb6⟩; have x6 := x5.step (hb6.mono x5.below.size) (x5.holds.below hb6); have hw6 := x6.holds)
          | (have hgd := x4; clear hgd; go_at_call 40; refine (hsu.out H4 _ x4.holds ((hh.mono hle).mono l4)).mono ?_; rintro e w5 ⟨rfl, hb5⟩; have x5 := x4.step (hb5.mono x4.below.size) (x4.holds.below hb5); have hw5 := x5.holds)
          | (have hgd := x3; clear hgd; go_at_call 16; refine (hse.out H1 _ x3.holds (hh.mono hle)).mono ?_; rintro e w4 ⟨v4, H4, rfl, y4, u4, rfl, s4⟩; obtain ⟨a4, c4, rfl, _, _⟩ := s4.form; have x4 := x3.trans y4; have l4 := y4.le x3.holds; have hw4 := x4.holds; replace hc0 := lift l4 hc0; replace hc1 := lift l4 hc1; replace hc2 := lift l4 hc2; replace hc3 := lift l4 hc3; replace hc4 := lift l4 hc4; replace hc5 := lift l4 hc5)
          | (have hgd := x2; clear hgd; go_at_call 33; refine (hfw.out H1 _ x2.holds (hh.mono hle)).mono ?_; rintro e w3 ⟨rfl, hb3⟩; have x3 := x2.step (hb3.mono x2.below.size) (x2.holds.below hb3); have hw3 := x3.holds)
          | (have hgd := x1; clear hgd; go_at_call 31; refine (ready9_any _ _ _ _ _ _ H1 _ x1.holds (hh.mono hle)).mono ?_; rintro e w2 ⟨rfl, hb2⟩; rw [hr]; have x2 := x1.step (hb2.mono x1.below.size) (x1.holds.below hb2); have hw2 := x2.holds)
          | (have hgd := hw; clear hgd; refine wpList_boxF rfl _ rfl (Ext.refl hw) ?_; intro B w1 H1 hle hx hB hBw; obtain ⟨hc0, hc1, hc2, hc3, hc4, hc5⟩ := cellsHal hB; clear hB hw; have hw1 := hx.holds; have x1 := hx))
        go_ret
        exact ⟨rfl, x11.below⟩
      · have hen := fun (S : Snap) (W : World) (hW : Holds S W) hh hs => isEnough9_any vm vb vt vo ve (.slice ss set.length cs) h hv set hst S W hW hh hs
        have hpl := fun (S : Snap) (W : World) (hW : Holds S W) hs => platesOf9_any (.slice ss set.length cs) set S W hW hs hst
        have hcn2 := fun (S : Snap) (W : World) (hW : Holds S W) hs => countsOf9_any (.slice ss set.length cs) set S W hW hs hst
        have hps := platesOf_sum set (setOk_iff.1 hst).1
        have hcc := countsOf_cn hst
        cases hd : doAllC (countsOf set) (allA h)
        · rw [hd] at hen
          replace hen := Lib.hid hen
          clear hd hpl hcn2
          go_enter Tryz.func7, Tryz.ntmps7
          go_wp2_with (first
            | (have hgd := x11; clear hgd; go_at_call 9; refine (works9_any H4 _ x11.holds).mono ?_; rintro e w12 ⟨rfl, hb12⟩; have x12 := x11.step (hb12.mono x11.below.size) (x11.holds.below hb12); have hw12 := x12.holds)
            | (have hgd := x10; clear hgd; go_at_call 34; refine (hen.out H4 _ x10.holds ((hh.mono hle).mono l4) ((hs.mono hle).mono l4)).mono ?_; rintro e w11 ⟨rfl, hb11⟩; have x11 := x10.step (hb11.mono x10.below.size) (x10.holds.below hb11); have hw11 := x11.holds)
            | (have hgd := x9; clear hgd; go_at_call 32; refine (isSetL_any _ set H4 _ x9.holds ((hs.mono hle).mono l4)).mono ?_; rintro e w10 ⟨rfl, hb10⟩; have x10 := x9.step (hb10.mono x9.below.size) (x9.holds.below hb10); have hw10 := x10.holds)
            | (have hgd := x8; clear hgd; go_at_call 34; refine (hEs.out _ H4 _ x8.holds ((hh.mono hle).mono l4) s4).mono ?_; rintro e w9 ⟨rfl, hb9⟩; have x9 := x8.step (hb9.mono x8.below.size) (x8.holds.below hb9); have hw9 := x9.holds)
            | (have hgd := x7; clear hgd; go_at_call 37; refine (hPs.out _ H4 _ x7.holds s4).mono ?_; rintro e w8 ⟨rfl, hb8⟩; have x8 := x7.step (hb8.mono x7.below.size) (x7.holds.below hb8); have hw8 := x8.holds)
            | (have hgd := x6; clear hgd; go_at_call 32; refine (hIs.out _ H4 _ x6.holds s4).mono ?_; rintro e w7 ⟨rfl, hb7⟩; have x7 := x6.step (hb7.mono x6.below.size) (x6.holds.below hb7); have hw7 := x7.holds)
            | (have hgd := x5; clear hgd; go_at_call 35; refine (isKnown_any 0 _).mono ?_; rintro e w6 ⟨rfl, hb6⟩; have x6 := x5.step (hb6.mono x5.below.size) (x5.holds.below hb6); have hw6 := x6.holds)
            | (have hgd := x4; clear hgd; go_at_call 40; refine (hsu.out H4 _ x4.holds ((hh.mono hle).mono l4)).mono ?_; rintro e w5 ⟨rfl, hb5⟩; have x5 := x4.step (hb5.mono x4.below.size) (x4.holds.below hb5); have hw5 := x5.holds)
            | (have hgd := x3; clear hgd; go_at_call 16; refine (hse.out H1 _ x3.holds (hh.mono hle)).mono ?_; rintro e w4 ⟨v4, H4, rfl, y4, u4, rfl, s4⟩; obtain ⟨a4, c4, rfl, _, _⟩ := s4.form; have x4 := x3.trans y4; have l4 := y4.le x3.holds; have hw4 := x4.holds; replace hc0 := lift l4 hc0; replace hc1 := lift l4 hc1; replace hc2 := lift l4 hc2; replace hc3 := lift l4 hc3; replace hc4 := lift l4 hc4; replace hc5 := lift l4 hc5)
            | (have hgd := x2; clear hgd; go_at_call 33; refine (hfw.out H1 _ x2.holds (hh.mono hle)).mono ?_; rintro e w3 ⟨rfl, hb3⟩; have x3 := x2.step (hb3.mono x2.below.size) (x2.holds.below hb3); have hw3 := x3.holds)
            | (have hgd := x1; clear hgd; go_at_call 31; refine (ready9_any _ _ _ _ _ _ H1 _ x1.holds (hh.mono hle)).mono ?_; rintro e w2 ⟨rfl, hb2⟩; rw [hr]; have x2 := x1.step (hb2.mono x1.below.size) (x1.holds.below hb2); have hw2 := x2.holds)
            | (have hgd := hw; clear hgd; refine wpList_boxF rfl _ rfl (Ext.refl hw) ?_; intro B w1 H1 hle hx hB hBw; obtain ⟨hc0, hc1, hc2, hc3, hc4, hc5⟩ := cellsHal hB; clear hB hw; have hw1 := hx.holds; have x1 := hx))
          go_ret
          exact ⟨rfl, x12.below⟩
        · rw [hd] at hen
          obtain ⟨k1, k2⟩ := hlst (countsOf set) hcc hd
          have hEa := fun (a b : Value) (S : Snap) (W : World) (hW : Holds S W) (ha : Sl S a c) (hb : Sl S b (countsOf set)) => earlier_any a b c (countsOf set) S W hW ha hb
          have hge : decide (platesOf set ≥ NV) = true := decide_eq_true (by omega)
          have hge2 : NV ≤ platesOf set := by omega
          have hfe : platesOf set = NV → earlier c (countsOf set) = false := fun e => by
            cases he : earlier c (countsOf set) with
            | false => rfl
            | true => rw [cntLt_iff.2 (.inr ⟨by omega, he⟩)] at k1; cases k1
          generalize platesOf set = P at *
          generalize countsOf set = cc at *
          replace hen := Lib.hid hen
          replace hpl := Lib.hid hpl
          replace hcn2 := Lib.hid hcn2
          clear hd hlst k1 k2 hps hcc hnum hccn
          rcases Int.lt_or_eq_of_le hge2 with g | g
          · have hg1 : decide (NV < P) = true := decide_eq_true g
            clear hfe hEa
            go_enter Tryz.func7, Tryz.ntmps7
            go_wp2_with (first
              | (have hgd := x12; clear hgd; go_at_call 9; refine (works9_any H4 _ x12.holds).mono ?_; rintro e w13 ⟨rfl, hb13⟩; have x13 := x12.step (hb13.mono x12.below.size) (x12.holds.below hb13); have hw13 := x13.holds)
                | (have hgd := x11; clear hgd; go_at_call 37; refine (hpl.out H4 _ x11.holds ((hs.mono hle).mono l4)).mono ?_; rintro e w12 ⟨rfl, hb12⟩; have x12 := x11.step (hb12.mono x11.below.size) (x11.holds.below hb12); have hw12 := x12.holds)
                | (have hgd := x10; clear hgd; go_at_call 34; refine (hen.out H4 _ x10.holds ((hh.mono hle).mono l4) ((hs.mono hle).mono l4)).mono ?_; rintro e w11 ⟨rfl, hb11⟩; have x11 := x10.step (hb11.mono x10.below.size) (x10.holds.below hb11); have hw11 := x11.holds)
                | (have hgd := x9; clear hgd; go_at_call 32; refine (isSetL_any _ set H4 _ x9.holds ((hs.mono hle).mono l4)).mono ?_; rintro e w10 ⟨rfl, hb10⟩; have x10 := x9.step (hb10.mono x9.below.size) (x9.holds.below hb10); have hw10 := x10.holds)
                | (have hgd := x8; clear hgd; go_at_call 34; refine (hEs.out _ H4 _ x8.holds ((hh.mono hle).mono l4) s4).mono ?_; rintro e w9 ⟨rfl, hb9⟩; have x9 := x8.step (hb9.mono x8.below.size) (x8.holds.below hb9); have hw9 := x9.holds)
                | (have hgd := x7; clear hgd; go_at_call 37; refine (hPs.out _ H4 _ x7.holds s4).mono ?_; rintro e w8 ⟨rfl, hb8⟩; have x8 := x7.step (hb8.mono x7.below.size) (x7.holds.below hb8); have hw8 := x8.holds)
                | (have hgd := x6; clear hgd; go_at_call 32; refine (hIs.out _ H4 _ x6.holds s4).mono ?_; rintro e w7 ⟨rfl, hb7⟩; have x7 := x6.step (hb7.mono x6.below.size) (x6.holds.below hb7); have hw7 := x7.holds)
                | (have hgd := x5; clear hgd; go_at_call 35; refine (isKnown_any 0 _).mono ?_; rintro e w6 ⟨rfl, hb6⟩; have x6 := x5.step (hb6.mono x5.below.size) (x5.holds.below hb6); have hw6 := x6.holds)
                | (have hgd := x4; clear hgd; go_at_call 40; refine (hsu.out H4 _ x4.holds ((hh.mono hle).mono l4)).mono ?_; rintro e w5 ⟨rfl, hb5⟩; have x5 := x4.step (hb5.mono x4.below.size) (x4.holds.below hb5); have hw5 := x5.holds)
                | (have hgd := x3; clear hgd; go_at_call 16; refine (hse.out H1 _ x3.holds (hh.mono hle)).mono ?_; rintro e w4 ⟨v4, H4, rfl, y4, u4, rfl, s4⟩; obtain ⟨a4, c4, rfl, _, _⟩ := s4.form; have x4 := x3.trans y4; have l4 := y4.le x3.holds; have hw4 := x4.holds; replace hc0 := lift l4 hc0; replace hc1 := lift l4 hc1; replace hc2 := lift l4 hc2; replace hc3 := lift l4 hc3; replace hc4 := lift l4 hc4; replace hc5 := lift l4 hc5)
                | (have hgd := x2; clear hgd; go_at_call 33; refine (hfw.out H1 _ x2.holds (hh.mono hle)).mono ?_; rintro e w3 ⟨rfl, hb3⟩; have x3 := x2.step (hb3.mono x2.below.size) (x2.holds.below hb3); have hw3 := x3.holds)
                | (have hgd := x1; clear hgd; go_at_call 31; refine (ready9_any _ _ _ _ _ _ H1 _ x1.holds (hh.mono hle)).mono ?_; rintro e w2 ⟨rfl, hb2⟩; rw [hr]; have x2 := x1.step (hb2.mono x1.below.size) (x1.holds.below hb2); have hw2 := x2.holds)
                | (have hgd := hw; clear hgd; refine wpList_boxF rfl _ rfl (Ext.refl hw) ?_; intro B w1 H1 hle hx hB hBw; obtain ⟨hc0, hc1, hc2, hc3, hc4, hc5⟩ := cellsHal hB; clear hB hw; have hw1 := hx.holds; have x1 := hx))
            go_ret
            exact ⟨rfl, x13.below⟩
          · subst g
            rw [hfe rfl] at hEa
            replace hEa := Lib.hid hEa
            clear hfe
            go_enter Tryz.func7, Tryz.ntmps7
            go_wp2_with (first
              | (have hgd := x15; clear hgd; go_at_call 9; refine (works9_any H14 _ x15.holds).mono ?_; rintro e w16 ⟨rfl, hb16⟩; have x16 := x15.step (hb16.mono x15.below.size) (x15.holds.below hb16); have hw16 := x16.holds)
                | (have hgd := x14; clear hgd; go_at_call 41; refine (hEa.out _ _ H14 _ x14.holds (s13.mono l14) s14).mono ?_; rintro e w15 ⟨rfl, hb15⟩; have x15 := x14.step (hb15.mono x14.below.size) (x14.holds.below hb15); have hw15 := x15.holds)
                | (have hgd := x13; clear hgd; go_at_call 36; refine (hcn2.out H13 _ x13.holds (((hs.mono hle).mono l4).mono l13)).mono ?_; rintro e w14 ⟨v14, Hz14, rfl, z14, o14⟩; obtain ⟨H14, y14, _, s14, _⟩ := o14.close z14; obtain ⟨a14, c14, rfl, _, _⟩ := s14.form; have x14 := x13.trans y14; have l14 := y14.le x13.holds; have hw14 := x14.holds)
                | (have hgd := x12; clear hgd; go_at_call 36; refine (hCs.out _ H4 _ x12.holds s4).mono ?_; rintro e w13 ⟨v13, Hz13, rfl, z13, o13⟩; obtain ⟨H13, y13, _, s13, _⟩ := o13.close z13; obtain ⟨a13, c13, rfl, _, _⟩ := s13.form; have x13 := x12.trans y13; have l13 := y13.le x12.holds; have hw13 := x13.holds)
                | (have hgd := x11; clear hgd; go_at_call 37; refine (hpl.out H4 _ x11.holds ((hs.mono hle).mono l4)).mono ?_; rintro e w12 ⟨rfl, hb12⟩; have x12 := x11.step (hb12.mono x11.below.size) (x11.holds.below hb12); have hw12 := x12.holds)
                | (have hgd := x10; clear hgd; go_at_call 34; refine (hen.out H4 _ x10.holds ((hh.mono hle).mono l4) ((hs.mono hle).mono l4)).mono ?_; rintro e w11 ⟨rfl, hb11⟩; have x11 := x10.step (hb11.mono x10.below.size) (x10.holds.below hb11); have hw11 := x11.holds)
                | (have hgd := x9; clear hgd; go_at_call 32; refine (isSetL_any _ set H4 _ x9.holds ((hs.mono hle).mono l4)).mono ?_; rintro e w10 ⟨rfl, hb10⟩; have x10 := x9.step (hb10.mono x9.below.size) (x9.holds.below hb10); have hw10 := x10.holds)
                | (have hgd := x8; clear hgd; go_at_call 34; refine (hEs.out _ H4 _ x8.holds ((hh.mono hle).mono l4) s4).mono ?_; rintro e w9 ⟨rfl, hb9⟩; have x9 := x8.step (hb9.mono x8.below.size) (x8.holds.below hb9); have hw9 := x9.holds)
                | (have hgd := x7; clear hgd; go_at_call 37; refine (hPs.out _ H4 _ x7.holds s4).mono ?_; rintro e w8 ⟨rfl, hb8⟩; have x8 := x7.step (hb8.mono x7.below.size) (x7.holds.below hb8); have hw8 := x8.holds)
                | (have hgd := x6; clear hgd; go_at_call 32; refine (hIs.out _ H4 _ x6.holds s4).mono ?_; rintro e w7 ⟨rfl, hb7⟩; have x7 := x6.step (hb7.mono x6.below.size) (x6.holds.below hb7); have hw7 := x7.holds)
                | (have hgd := x5; clear hgd; go_at_call 35; refine (isKnown_any 0 _).mono ?_; rintro e w6 ⟨rfl, hb6⟩; have x6 := x5.step (hb6.mono x5.below.size) (x5.holds.below hb6); have hw6 := x6.holds)
                | (have hgd := x4; clear hgd; go_at_call 40; refine (hsu.out H4 _ x4.holds ((hh.mono hle).mono l4)).mono ?_; rintro e w5 ⟨rfl, hb5⟩; have x5 := x4.step (hb5.mono x4.below.size) (x4.holds.below hb5); have hw5 := x5.holds)
                | (have hgd := x3; clear hgd; go_at_call 16; refine (hse.out H1 _ x3.holds (hh.mono hle)).mono ?_; rintro e w4 ⟨v4, H4, rfl, y4, u4, rfl, s4⟩; obtain ⟨a4, c4, rfl, _, _⟩ := s4.form; have x4 := x3.trans y4; have l4 := y4.le x3.holds; have hw4 := x4.holds; replace hc0 := lift l4 hc0; replace hc1 := lift l4 hc1; replace hc2 := lift l4 hc2; replace hc3 := lift l4 hc3; replace hc4 := lift l4 hc4; replace hc5 := lift l4 hc5)
                | (have hgd := x2; clear hgd; go_at_call 33; refine (hfw.out H1 _ x2.holds (hh.mono hle)).mono ?_; rintro e w3 ⟨rfl, hb3⟩; have x3 := x2.step (hb3.mono x2.below.size) (x2.holds.below hb3); have hw3 := x3.holds)
                | (have hgd := x1; clear hgd; go_at_call 31; refine (ready9_any _ _ _ _ _ _ H1 _ x1.holds (hh.mono hle)).mono ?_; rintro e w2 ⟨rfl, hb2⟩; rw [hr]; have x2 := x1.step (hb2.mono x1.below.size) (x1.holds.below hb2); have hw2 := x2.holds)
                | (have hgd := hw; clear hgd; refine wpList_boxF rfl _ rfl (Ext.refl hw) ?_; intro B w1 H1 hle hx hB hBw; obtain ⟨hc0, hc1, hc2, hc3, hc4, hc5⟩ := cellsHal hB; clear hB hw; have hw1 := hx.holds; have x1 := hx))
            go_ret
            exact ⟨rfl, x16.below⟩

end Go.Proofs.YtngdppajailpcaaGreat

namespace Go.Proofs.YtngdppajailpcaaGreat
open Go.ChangeShapes Go.WideShapes Go.ChangeAt Go.RowKit

theorem machinesEnough_own : ownKnob Tryz.prog.godebug = none := by kernel_rfl
theorem machinesEnough_laid : laidOutB Tryz.prog = true := by kernel_rfl

set_option maxHeartbeats 1600000 in
set_option maxRecDepth 100000 in
theorem machinesEnough_lifted (os : Os) (started : os.Started) (H : Type) (enc : TypeId × Value → H) :
    ReturnsInHanded {} Tryz.checked os 7 .any (Rows.machinesEnoughSpec.pre6 enc Tryz.prog Tryz.f7 Rows.machinesEnoughRow.domain false) (Rows.machinesEnoughSpec.post enc Tryz.prog Tryz.f7 false true false false) := by
  refine returnsInHanded_of_change_sized (C := Tryz.checked) machinesEnough_own started (by kernel_rfl) Tryz.func7
    (ChangeSpec.witness6 (enc := enc) (C := Tryz.checked) false ⟨#[], #[.agg #[.slice none 0 0, .slice none 0 0, .slice none 0 0, .int .i64 0, .slice none 0 0, .slice none 0 0], .slice none 0 0], []⟩ 8 (by kernel_rfl) (by kernel_rfl) (by kernel_rfl) (by kernel_rfl)) ?_
  intro W base args ds gs before hval0 hW _ hsz _
  have hval : ∀ (j : Nat) t v, Tryz.f7.params[j]? = some t → args[j]? = some v → Value.okWide Tryz.prog W .any base t v := hval0
  have hW' := hW
  obtain ⟨p, q, hA0, hV, rfl, _, _⟩ := hW
  have hA : DataW.TrodAll enc Tryz.prog W 0 (fun _ => true) true Tryz.f7.params.toList args.toList ds p := hA0
  have hS : (DataW.weightsEach Tryz.prog (Tryz.f7.params.toList ++ []) (ds ++ gs)).all (· ≤ reachBytes) = true := hsz
  rw [Tryz.params7] at hA hval hS
  obtain ⟨v0, v1, d0, d1, p0, p1, rfl, rfl, rfl, h0, h1⟩ := trodAll_two hA
  obtain ⟨rfl, rfl⟩ := trodVars_none hV
  clear hA0 hval0 hsz
  simp only [List.append_nil] at hW' hS
  have hlt : ∀ x ∈ p0 ++ p1, x.block < W.heap.size := fun x hx => by simpa using hW'.lt x hx
  have harg0 : ∀ W', Below W.heap.size W W' → DataW.Trod enc Tryz.prog W' 0 (fun b => decide (b < W.heap.size)) true 29 v0 d0 p0 := fun W' hb =>
    Below.trod machinesEnough_laid (by kernel_rfl) (of_decide_eq_true (by kernel_rfl)) h0 hb (fun x hx => hlt x (List.mem_append.2 (.inl hx)))
  have hw0 : ∀ k ∈ d0.weights Tryz.prog 29, k ≤ reachBytes := fun k hk => by
    simpa using List.all_eq_true.1 hS k (DataW.weights_mem_each (j := 0) rfl rfl k hk)
  have harg1 : ∀ W', Below W.heap.size W W' → DataW.Trod enc Tryz.prog W' 0 (fun b => decide (b < W.heap.size)) true 39 v1 d1 p1 := fun W' hb =>
    Below.trod machinesEnough_laid (by kernel_rfl) (of_decide_eq_true (by kernel_rfl)) h1 hb (fun x hx => hlt x (List.mem_append.2 (.inr hx)))
  have hw1 : ∀ k ∈ d1.weights Tryz.prog 39, k ≤ reachBytes := fun k hk => by
    simpa using List.all_eq_true.1 hS k (DataW.weights_mem_each (j := 1) rfl rfl k hk)
  obtain ⟨vm, vb, vt, vo, ve, hs, rfl, hh⟩ := hall_opened (hval 0 29 v0 rfl rfl) h0 hw0
  obtain ⟨a1, l1, c1, rfl⟩ := okWide_slice Tryz.underlying39 (hval 1 39 v1 rfl rfl)
  obtain ⟨n1, h1'⟩ := h1
  obtain ⟨xs1, hx1⟩ := plates_opened (by simpa [Value.cells] using h1') hw1
  refine (machinesEnough_any vm vb vt vo ve _ hs xs1 (snapOf W) W (snapOf_holds W) hh hx1).mono fun e W' ⟨he, hb⟩ => ?_
  subst he
  refine ⟨_, rfl, _, _, _, [], _, [], hW', ?_, trodAll_mk2 (harg0 W' hb) (harg1 W' hb), rfl, hb.frame _, fun h => by cases h⟩
  exact trodAll_mk1 (shut_bool Tryz.underlying4 _)

theorem machinesEnough_said : Rows.MachinesEnoughSaid :=
  OpenClaim.holds_of_wide 7 Tryz.f7 rfl rfl rfl rfl rfl rfl rfl ⟨rfl, rfl, rfl, rfl, rfl⟩ rfl rfl rfl rfl rfl (by kernel_rfl) Tryz.func7 (by kernel_rfl)
    (of_decide_eq_true (by kernel_rfl)) (by unfold Func.isWrapper; first | (rw [if_pos (by decide +kernel)]; kernel_rfl) | (rw [if_neg (by decide +kernel)]; exact ⟨rfl, rfl⟩))
    (fun os started H enc _ => machinesEnough_lifted os started H enc)

end Go.Proofs.YtngdppajailpcaaGreat
