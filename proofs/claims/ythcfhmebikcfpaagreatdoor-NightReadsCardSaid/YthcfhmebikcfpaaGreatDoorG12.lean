/- Lemmas and walks on which the claims of this seat lean: NPar. -/
import Derived.Test.YthcfhmebikcfpaaGreatDoorG11

set_option linter.all false

namespace Go.Proofs.YthcfhmebikcfpaaGreatDoor
open Go.RowKit
attribute [local go_sem] Holds.drew Holds.alloc Holds.drewN WB.holds Oper.semAt_some
set_option maxRecDepth 100000 in
set_option maxHeartbeats 4000000 in
theorem nParse_any (s : ByteArray) (H : Snap) (w : World) (hw : Holds H w) :
    Calls Tryz.prog 46 #[.string s] w (ParsePost w H (formA (bys s))) := by
  have st0 := PSt.make hw
  by_cases h1 : 1500 < s.size
  · rw [formA_long (by rw [bys_len]; exact h1)]
    have hI : (1500 : Int) < (s.size : Int) := by omega
    replace st0 := Lib.hid st0
    go_enter Tryz.func46, Tryz.ntmps46
    go_wp2_with fail
    refine bodyPost_ret (results_cell_slot rfl _ _ w.heap.size 72 _ (0, 0) _ rfl st0.out.row Tryz.underlying72 rfl (by kernel_rfl)) rfl ?_
    exact ⟨_, _, _, _, _, rfl, st0.out.x.below⟩
  · have hI : ¬ (1500 : Int) < (s.size : Int) := by omega
    by_cases h2 : s.size < 4
    · rw [formA_short (by rw [bys_len]; exact h2)]
      have hI2 : (s.size : Int) < 4 := by omega
      replace st0 := Lib.hid st0
      go_enter Tryz.func46, Tryz.ntmps46
      go_wp2_with fail
      refine bodyPost_ret (results_cell_slot rfl _ _ w.heap.size 72 _ (0, 0) _ rfl st0.out.row Tryz.underlying72 rfl (by kernel_rfl)) rfl ?_
      exact ⟨_, _, _, _, _, rfl, st0.out.x.below⟩
    · have hI2 : ¬ (s.size : Int) < 4 := by omega
      obtain ⟨a, b, c, d, r, hs⟩ : ∃ a b c d r, bys s = a :: b :: c :: d :: r := by
        have : 4 ≤ (bys s).length := by rw [bys_len]; omega
        match e : bys s, this with
        | a :: b :: c :: d :: r, _ => exact ⟨a, b, c, d, r, rfl⟩
      have hsz : s.size = r.length + 4 := by rw [← bys_len, hs]; simp
      have hrs : (strB r).size = r.length := rfl
      have hse : s = strB (a :: b :: c :: d :: r) := by rw [← hs]; rfl
      have x1 : s.extract 0 2 = strB [a, b] := by rw [hse, strB_extract']; rfl
      have x2 : s.extract 2 4 = strB [c, d] := by rw [hse, strB_extract']; rfl
      have x3 : s.extract 4 s.size = strB r := by rw [hsz, hse, strB_extract', List.take_of_length_le (by simp)]; rfl
      have b1 : (2 : Int) ≤ (s.size : Int) := by omega
      have b2 : (4 : Int) ≤ (s.size : Int) := by omega
      have hn1 := nNumber_any a b
      have hn2 := nNumber_any c d
      rw [hs]
      by_cases hok : 0 ≤ numI a b ∧ numI a b ≤ 20 ∧ 0 ≤ numI c d ∧ numI c d ≤ 96 ∧ 2 * numI c d ≤ (r.length : Int)
      · obtain ⟨m, n, em, en, hm, hn, h2n, hf⟩ := formA_good (by omega) hok
        obtain ⟨R, hR⟩ : ∃ R, R = formA (a :: b :: c :: d :: r) := ⟨_, rfl⟩
        rw [← hR]
        rw [hf] at hR
        replace hR := Lib.hid hR
        clear hf
        rw [em] at hn1
        rw [en] at hn2
        clear hse hs hok
        have hr9 : r.length ≤ 1496 := by omega
        replace hsz := Lib.hid hsz
        replace st0 := Lib.hid st0
        clear h1 h2
        replace hn1 := Lib.hid hn1
        replace hn2 := Lib.hid hn2
        have c1 : decide ((m : Int) < 0) = false := decide_eq_false (by omega)
        have c2 : decide (20 < (m : Int)) = false := decide_eq_false (by omega)
        have c3 : decide ((n : Int) < 0) = false := decide_eq_false (by omega)
        have c4 : decide (96 < (n : Int)) = false := decide_eq_false (by omega)
        have g2 : wrap64 (2 * (n : Int)) = 2 * (n : Int) := wrap64_in _ (by omega) (by omega)
        have c5 : decide ((r.length : Int) < 2 * (n : Int)) = false := decide_eq_false (by omega)
        go_enter Tryz.func46, Tryz.ntmps46
        go_upto_region 3 with fail
        generalize w.alloc (.cells #[.int .i64 0, .slice none 0 0, .string ⟨#[]⟩] 72) = w1 at *
        generalize w.heap.size = B at *
        go_upto_region 4 with (go_at_call 66; go_must (refine (hn1.out _).mono ?_); rintro e w2 ⟨rfl, hb2⟩; have sA := st0.out.below hb2; obtain ⟨k0, k1, k2, kf⟩ := sA.cells)
        have sB := sA.setM (m : Int)
        clear k0 k1 k2 kf sA x1
        generalize w2.setCell ⟨B, 0, none⟩ (.int .i64 (m : Int)) = w3 at *
        go_upto_region 5 with (go_at_call 66; go_must (refine (hn2.out _).mono ?_); rintro e w4 ⟨rfl, hb4⟩; have sC := sB.below hb4; obtain ⟨k0, k1, k2, kf⟩ := sC.cells)
        clear sB x2
        go_upto_region 6 with fail
        clear x3
        replace sC := Lib.hid sC
        go_upto_region 8 with fail
        clear k0 k1 k2 kf c1 c2 c3 c4 c5 g2 b1 b2 hI hI2 hrs
        go_wp2_with fail
        go_loopw [0, 5, 51] (fun sv lv iv wq => ∃ (k : Nat) (last : Int) (rk : List UInt8) (l : List Pr) (v : Value), k ≤ n ∧ iv = .int .i64 (k : Int) ∧ lv = .int .i64 last ∧ sv = .string (strB rk) ∧ (-1 ≤ last ∧ last < 256) ∧ rk.length ≤ 1496 ∧ 2 * (n - k) ≤ rk.length ∧ l.length = k ∧ PSt w H B wq (m : Int) v ⟨#[]⟩ l ∧ Hid (symsA n (-1) r = (symsA (n - k) last rk).map fun x => (l ++ x.1, x.2))) (fun _ _ iv _ => n - (intOf iv).toNat)
        case atStart => exact ⟨0, -1, r, [], _, Nat.zero_le _, rfl, rfl, rfl, by omega, hr9, h2n, rfl, sC.out, Lib.hid (by cases symsA n (-1) r <;> rfl)⟩
        case round =>
          clear sC
          obtain ⟨k, last, rk, l, v, hk, rfl, rfl, rfl, hla, hrk, h2k, hll, st, hsy⟩ := hrel
          obtain ⟨va, vc, hv, _, _⟩ := st.o.form
          rw [hll] at hv
          subst hv
          replace hll := Lib.hid hll
          have hk0 : (0 : Int) ≤ (k : Int) := by omega
          by_cases hkn : k < n
          · have hkI : (k : Int) < (n : Int) := by omega
            obtain ⟨c0, b0, r', rfl⟩ : ∃ c0 b0 r', rk = c0 :: b0 :: r' := by
              match rk, h2k with
              | c0 :: b0 :: r', _ => exact ⟨c0, b0, r', rfl⟩
              | [], h => simp at h; omega
              | [_], h => simp at h; omega
            simp only [List.length_cons] at hrk h2k
            have hwr := st.x.holds
            have hts : (strB (c0 :: b0 :: r')).size = r'.length + 2 := rfl
            obtain ⟨t, ht⟩ : ∃ t, t = strB (c0 :: b0 :: r') := ⟨_, rfl⟩
            rw [← ht] at hts ⊢
            have t0 : t[0] = c0 := by subst ht; rfl
            have t1 : t[1] = b0 := by subst ht; rfl
            have tx : t.extract 2 t.size = strB r' := by rw [hts, ht, strB_extract', List.take_of_length_le (by simp)]; rfl
            have tx2 : Value.string (t.extract 2 (r'.length + 2)) = .string (strB r') := by rw [ht, strB_extract', List.take_of_length_le (by simp)]; rfl
            replace tx2 := Lib.hid tx2
            have hz0 : (0 : Int) < (t.size : Int) := by omega
            have hz1 : (1 : Int) < (t.size : Int) := by omega
            have hz2 : (2 : Int) ≤ (t.size : Int) := by omega
            replace hts := Lib.hid hts
            replace ht := Lib.hid ht
            replace st := Lib.hid st
            have cI : ∀ W : World, Calls Tryz.prog 67 #[.string (strB (lets.take 15)), .int .u8 (b0.toNat : Int)] W fun e w' => e = .returned (.int .i64 (bI b0)) ∧ W = w' := fun W => by
              have h := Tryz.strings_IndexByte (strB (lets.take 15)) (b0.toNat : Int) W
              have e : (b0.toNat : Int).toNat.toUInt8 = b0 := by simp
              rw [e, show (strB (lets.take 15)).data.toList = lets.take 15 from rfl, bI_idx] at h
              exact h.mono fun _ _ h => ⟨h.1, h.2.symm⟩
            obtain ⟨j, hj⟩ : ∃ j, n - k = j + 1 := ⟨n - k - 1, by omega⟩
            have hsy2 := hsy.out
            rw [hj] at hsy2
            replace hsy2 := Lib.hid hsy2
            go_upto_region 11 with fail
            refine wp_region_quietB H (by kernel_rfl) (by kernel_rfl) hwr (fun hne => ?_)
            repeat go_big_quiet_step ((first | (go_at_call 67; exact Calls.quietS (cI _))))
            refine wpQuiet_nil ?_
            rintro ⟨w2, hw2, hb2⟩
            clear hne
            have st2 := st.out.below hb2
            clear t0 t1 hz0 hz1 cI
            have hwt : ∀ W : World, Calls Tryz.prog 68 #[.int .u8 (c0.toNat : Int)] W (PostV W (.bool (okByte c0))) := fun W => isMark14_any c0 W
            have hbc := bI_cases b0
            generalize hB1 : bI b0 = B1 at *
            clear hB1
            replace hbc := Lib.hid hbc
            have hno : ¬ (last < (c0.toNat : Int) ∧ okSym (c0.toNat : Int) = true ∧ (65 ≤ b0.toNat ∧ b0.toNat ≤ 79)) → R = none := fun h => by
              have h2 := hR.out
              rw [hsy2.out, symsA_no h] at h2
              exact h2
            replace hno := Lib.hid hno
            have hcw : wrap64 (c0.toNat : Int) = (c0.toNat : Int) := by have h256 : c0.toNat < 256 := c0.toNat_lt; exact wrap64_in _ (by omega) (by omega)
            by_cases h10 : c0.toNat = 10
            · obtain ⟨hq, hq2⟩ := eq10 h10
              have hoS := okSym_10 h10
              clear hwt
              by_cases hlt : (c0.toNat : Int) ≤ last
              · clear h10 hoS
                have hRn := hno.out (fun h => absurd h.1 (Int.not_lt.2 hlt))
                subst hRn
                obtain ⟨k0, k1, k2, kf⟩ := st2.cells; have row := st2.row; have i0 := setCell_id k0; have i1 := setCell_id k1; have i2 := setCell_id k2; replace st2 := Lib.hid st2
                go_wp2_with fail
                try simp only [Exit.inBlock, Exit.then]
                refine bodyPost_ret (results_cell_slot rfl _ _ B 72 _ (0, 0) _ rfl st2.out.row Tryz.underlying72 rfl (by kernel_rfl)) rfl ?_
                exact ⟨_, _, _, _, _, rfl, st2.out.x.below⟩
              · have hlt2 : last < (c0.toNat : Int) := Int.not_le.1 hlt
                rcases hbc.out with ⟨hB, hnb⟩ | ⟨hB0, hB14, hbb, hbe⟩
                · clear h10 hoS hlt2
                  have hRn := hno.out (fun h => by exact hnb h.2.2)
                  subst hRn
                  obtain ⟨k0, k1, k2, kf⟩ := st2.cells; have row := st2.row; have i0 := setCell_id k0; have i1 := setCell_id k1; have i2 := setCell_id k2; replace st2 := Lib.hid st2
                  go_wp2_with fail
                  try simp only [Exit.inBlock, Exit.then]
                  refine bodyPost_ret (results_cell_slot rfl _ _ B 72 _ (0, 0) _ rfl st2.out.row Tryz.underlying72 rfl (by kernel_rfl)) rfl ?_
                  exact ⟨_, _, _, _, _, rfl, st2.out.x.below⟩
                · have hB : ¬ B1 < 0 := Int.not_lt.2 hB0
                  clear h10
                  obtain ⟨k0, k1, k2, kf⟩ := st2.cells; have row := st2.row; have i0 := setCell_id k0; have i1 := setCell_id k1; have i2 := setCell_id k2; replace st2 := Lib.hid st2
                  have hyes := symsA_yes (j := j) (r := r') ⟨hlt2, hoS, hbb⟩
                  have hnext : symsA n (-1) r = (symsA j (c0.toNat : Int) r').map fun x => (l ++ [⟨(c0.toNat : Int), B1 + 1⟩] ++ x.1, x.2) := by
                    rw [hsy2.out, hyes, hbe, Option.map_map]
                    congr 1
                    funext x
                    simp
                  replace hnext := Lib.hid hnext
                  obtain ⟨_, hbw, hp64, hb32, hb63, hk16, hjk, hcr, hrr, hrj⟩ := pass_facts (c0 := c0) hkn hj hll.out hn hrk h2k hB0 hB14
                  have hrep : Enc.rep H (⟨(c0.toNat : Int), B1 + 1⟩ : Pr) [.int .i64 (c0.toNat : Int), .int .i64 (B1 + 1)] := ⟨rfl, hp64⟩
                  replace hrep := Lib.hid hrep
                  clear hyes hno hbe hbb hoS
                  go_upto_region 15 with (first | (at_builtin; have hgd := hrep; clear hgd; go_must (refine wpList_app1 (c := 1) eLen rfl _ _ rfl rfl st2.out.o rfl hrep.out st2.out.x.holds hb32.out hb63.out st2.out.x.below.size ?_); intro v' w' own' gw hw' _; obtain ⟨pf, pc, st6⟩ := (st2.out.alloc _).put gw own'; obtain ⟨a', c', hv', _, _⟩ := own'.form; have hv2 : v' = .slice a' (l.length + 1) c' := hv'.trans (by rw [List.length_append]; rfl); clear hv'; subst hv2))
                  clear k0 k1 k2 kf row i0 i1 i2 pf pc own' gw
                  refine wp_region_quietB H (by kernel_rfl) (by kernel_rfl) st6.x.holds (fun hne => ?_)
                  repeat go_big_quiet_step ((first | fail))
                  refine wpQuiet_nil ?_
                  rintro ⟨w3, hw3, hb3⟩
                  clear hne
                  have st8 := st6.below hb3
                  go_wp2_with fail
                  go_roundw
                  case rel => exact ⟨k + 1, (c0.toNat : Int), r', l ++ [⟨(c0.toNat : Int), B1 + 1⟩], _, hkn, j_up2 hk16, congrArg (Value.int .i64) hcw, tx2.out, hcr.out, hrr.out, hrj.out, by rw [List.length_append, hll.out]; rfl, st8, Lib.hid (by rw [hjk.out]; exact hnext.out)⟩
                  case measure => exact n_meas hk16 hkn
            · obtain ⟨hq, hq2⟩ := ne10 h10
              have hoE := okSym_not h10
              cases hmk : okByte c0
              · rw [hmk] at hwt hoE
                replace hwt := Lib.hid hwt
                clear h10 hmk
                have hRn := hno.out (fun h => by rw [hoE] at h; cases h.2.1)
                subst hRn
                go_wp2_with (first | (go_at_call 68; go_must (refine (hwt.out w2).mono ?_); rintro e w5 ⟨rfl, hb5⟩; have st5 := st2.below hb5; obtain ⟨k0, k1, k2, kf⟩ := st5.cells; have row := st5.row; have i0 := setCell_id k0; have i1 := setCell_id k1; have i2 := setCell_id k2; replace st5 := Lib.hid st5))
                try simp only [Exit.inBlock, Exit.then]
                refine bodyPost_ret (results_cell_slot rfl _ _ B 72 _ (0, 0) _ rfl st5.out.row Tryz.underlying72 rfl (by kernel_rfl)) rfl ?_
                exact ⟨_, _, _, _, _, rfl, st5.out.x.below⟩
              · rw [hmk] at hwt hoE
                replace hwt := Lib.hid hwt
                clear hmk
                have hoS := hoE
                clear hoE
                by_cases hlt : (c0.toNat : Int) ≤ last
                · clear h10 hoS
                  have hRn := hno.out (fun h => absurd h.1 (Int.not_lt.2 hlt))
                  subst hRn
                  go_wp2_with (first | (go_at_call 68; go_must (refine (hwt.out w2).mono ?_); rintro e w5 ⟨rfl, hb5⟩; have st5 := st2.below hb5; obtain ⟨k0, k1, k2, kf⟩ := st5.cells; have row := st5.row; have i0 := setCell_id k0; have i1 := setCell_id k1; have i2 := setCell_id k2; replace st5 := Lib.hid st5))
                  try simp only [Exit.inBlock, Exit.then]
                  refine bodyPost_ret (results_cell_slot rfl _ _ B 72 _ (0, 0) _ rfl st5.out.row Tryz.underlying72 rfl (by kernel_rfl)) rfl ?_
                  exact ⟨_, _, _, _, _, rfl, st5.out.x.below⟩
                · have hlt2 : last < (c0.toNat : Int) := Int.not_le.1 hlt
                  rcases hbc.out with ⟨hB, hnb⟩ | ⟨hB0, hB14, hbb, hbe⟩
                  · clear h10 hoS hlt2
                    have hRn := hno.out (fun h => by exact hnb h.2.2)
                    subst hRn
                    go_wp2_with (first | (go_at_call 68; go_must (refine (hwt.out w2).mono ?_); rintro e w5 ⟨rfl, hb5⟩; have st5 := st2.below hb5; obtain ⟨k0, k1, k2, kf⟩ := st5.cells; have row := st5.row; have i0 := setCell_id k0; have i1 := setCell_id k1; have i2 := setCell_id k2; replace st5 := Lib.hid st5))
                    try simp only [Exit.inBlock, Exit.then]
                    refine bodyPost_ret (results_cell_slot rfl _ _ B 72 _ (0, 0) _ rfl st5.out.row Tryz.underlying72 rfl (by kernel_rfl)) rfl ?_
                    exact ⟨_, _, _, _, _, rfl, st5.out.x.below⟩
                  · have hB : ¬ B1 < 0 := Int.not_lt.2 hB0
                    clear h10
                    have hyes := symsA_yes (j := j) (r := r') ⟨hlt2, hoS, hbb⟩
                    have hnext : symsA n (-1) r = (symsA j (c0.toNat : Int) r').map fun x => (l ++ [⟨(c0.toNat : Int), B1 + 1⟩] ++ x.1, x.2) := by
                      rw [hsy2.out, hyes, hbe, Option.map_map]
                      congr 1
                      funext x
                      simp
                    replace hnext := Lib.hid hnext
                    obtain ⟨_, hbw, hp64, hb32, hb63, hk16, hjk, hcr, hrr, hrj⟩ := pass_facts (c0 := c0) hkn hj hll.out hn hrk h2k hB0 hB14
                    have hrep : Enc.rep H (⟨(c0.toNat : Int), B1 + 1⟩ : Pr) [.int .i64 (c0.toNat : Int), .int .i64 (B1 + 1)] := ⟨rfl, hp64⟩
                    replace hrep := Lib.hid hrep
                    clear hyes hno hbe hbb hoS
                    go_upto_region 15 with (first | (at_builtin; have hgd := hrep; clear hgd; go_must (refine wpList_app1 (c := 1) eLen rfl _ _ rfl rfl st5.out.o rfl hrep.out st5.out.x.holds hb32.out hb63.out st5.out.x.below.size ?_); intro v' w' own' gw hw' _; obtain ⟨pf, pc, st6⟩ := (st5.out.alloc _).put gw own'; obtain ⟨a', c', hv', _, _⟩ := own'.form; have hv2 : v' = .slice a' (l.length + 1) c' := hv'.trans (by rw [List.length_append]; rfl); clear hv'; subst hv2) | (go_at_call 68; go_must (refine (hwt.out w2).mono ?_); rintro e w5 ⟨rfl, hb5⟩; have st5 := st2.below hb5; obtain ⟨k0, k1, k2, kf⟩ := st5.cells; have row := st5.row; have i0 := setCell_id k0; have i1 := setCell_id k1; have i2 := setCell_id k2; replace st5 := Lib.hid st5))
                    clear k0 k1 k2 kf row i0 i1 i2 pf pc own' gw
                    refine wp_region_quietB H (by kernel_rfl) (by kernel_rfl) st6.x.holds (fun hne => ?_)
                    repeat go_big_quiet_step ((first | fail))
                    refine wpQuiet_nil ?_
                    rintro ⟨w3, hw3, hb3⟩
                    clear hne
                    have st8 := st6.below hb3
                    go_wp2_with fail
                    go_roundw
                    case rel => exact ⟨k + 1, (c0.toNat : Int), r', l ++ [⟨(c0.toNat : Int), B1 + 1⟩], _, hkn, j_up2 hk16, congrArg (Value.int .i64) hcw, tx2.out, hcr.out, hrr.out, hrj.out, by rw [List.length_append, hll.out]; rfl, st8, Lib.hid (by rw [hjk.out]; exact hnext.out)⟩
                    case measure => exact n_meas hk16 hkn
          · have hkn2 : k = n := by omega
            have hsy1 := hsy.out
            rw [hkn2, Nat.sub_self] at hsy1
            have hR3 : R = if rk.all (fun b => (letN b).isSome) then some ⟨m, l, rk⟩ else none := by
              rw [hR.out, hsy1]
              show (match some (l ++ ([] : List Pr), rk) with | some (l, rest) => if rest.all (fun b => (letN b).isSome) then some (⟨m, l, rest⟩ : Frm) else none | none => none) = _
              rw [List.append_nil]
            have hkI : ¬ (k : Int) < (n : Int) := by omega
            have hcf : ∀ W, Calls Tryz.prog 69 #[.string (strB rk), .func (.func 70) #[] #[]] W (PostV W (.bool (!rk.all (fun b => (letN b).isSome)))) := fun W => nNoLet_any (strB rk) W
            generalize rk.all (fun b => (letN b).isSome) = al at hcf hR3
            have stT := st.setT (strB rk)
            obtain ⟨k0, k1, k2, kf⟩ := st.cells
            clear hsy hsy1 hR hrk h2k hla hr9 h2n hm hn hk hkn2 hkn
            replace hR3 := Lib.hid hR3
            go_upto_region 18 with fail
            clear k0 k1 k2 kf st
            generalize wr.setCell ⟨B, 2, none⟩ (.string (strB rk)) = w5 at *
            have x5 := stT.x.freeze stT.bl stT.row
            have hle := Snap.le_put stT.bH (.cells #[.int .i64 (m : Int), .slice va k vc, .string (strB rk)] 72 (0, 0))
            have hput := Snap.put_same H B (.cells #[.int .i64 (m : Int), .slice va k vc, .string (strB rk)] 72 (0, 0))
            have oT := stT.o.snapS hle (fun b hb => (Snap.put_other H _ (fun e => stT.vB (by rw [hb, e]))).trans (stT.o.free b hb))
            clear hle stT
            generalize H.put B (.cells #[.int .i64 (m : Int), .slice va k vc, .string (strB rk)] 72 (0, 0)) = H2 at *
            have hw5 := x5.holds
            obtain ⟨hc0, hc1, hc2⟩ := cellsF3 hput
            go_region_with (go_at_call 69; refine (hcf _).mono ?_; rintro e w6 ⟨rfl, hb6⟩; have hw6 := Holds.below (by first | exact hw5 | exact hw5.drew) hb6; have x6 : Ext w H w6 H2 := (by first | exact x5.step (hb6.mono x5.below.size) hw6 | exact x5.drew.step (hb6.mono x5.drew.below.size) hw6); have o6 : Own H2 w.heap.size w6 47 (.slice va k vc) l := (by first | exact oT.ext hw5 ⟨hb6, hw6, fun _ _ => rfl⟩ | exact oT.drew.ext hw5.drew ⟨hb6, hw6, fun _ _ => rfl⟩); have row := hw6.at_ B _ hput; have kf := fun i => Lib.frozen_of_heap row i; have i0 := setCell_id (hc0 w6 hw6); have i1 := setCell_id (hc1 w6 hw6); have i2 := setCell_id (hc2 w6 hw6))
            all_goals
              go_wp2_with fail
              refine bodyPost_ret (results_cell_slot rfl _ _ B 72 _ (0, 0) _ rfl row Tryz.underlying72 rfl (by kernel_rfl)) rfl ?_
              cases al
              · have hR4 : R = none := hR3.out
                subst hR4
                exact ⟨_, _, _, _, _, rfl, x6.below⟩
              · have hR4 : R = some ⟨m, l, rk⟩ := hR3.out
                subst hR4
                obtain ⟨H3, x7, _, s3, _⟩ := o6.close x6
                exact ⟨_, H3, rfl, x7, s3⟩
      · rw [formA_bad hok]
        generalize numI a b = N1 at *
        generalize numI c d = N2 at *
        clear hse hs
        replace hok := Lib.hid hok
        replace hsz := Lib.hid hsz
        replace st0 := Lib.hid st0
        clear h1 h2
        replace hn1 := Lib.hid hn1
        replace hn2 := Lib.hid hn2
        go_enter Tryz.func46, Tryz.ntmps46
        go_upto_region 3 with fail
        generalize w.alloc (.cells #[.int .i64 0, .slice none 0 0, .string ⟨#[]⟩] 72) = w1 at *
        generalize w.heap.size = B at *
        go_upto_region 4 with (go_at_call 66; go_must (refine (hn1.out _).mono ?_); rintro e w2 ⟨rfl, hb2⟩; have sA := st0.out.below hb2; obtain ⟨k0, k1, k2, kf⟩ := sA.cells)
        have sB := sA.setM N1
        clear k0 k1 k2 kf sA x1
        generalize w2.setCell ⟨B, 0, none⟩ (.int .i64 N1) = w3 at *
        go_upto_region 5 with (go_at_call 66; go_must (refine (hn2.out _).mono ?_); rintro e w4 ⟨rfl, hb4⟩; have sC := sB.below hb4; obtain ⟨k0, k1, k2, kf⟩ := sC.cells)
        clear sB x2
        go_upto_region 6 with fail
        clear x3
        have row := sC.row
        have i0 := setCell_id k0
        have i1 := setCell_id k1
        have i2 := setCell_id k2
        replace sC := Lib.hid sC
        have hb : N1 < 0 ∨ (¬ N1 < 0 ∧ 20 < N1) ∨ (¬ N1 < 0 ∧ ¬ 20 < N1 ∧ N2 < 0) ∨ (¬ N1 < 0 ∧ ¬ 20 < N1 ∧ ¬ N2 < 0 ∧ 96 < N2) ∨ (¬ N1 < 0 ∧ ¬ 20 < N1 ∧ ¬ N2 < 0 ∧ ¬ 96 < N2 ∧ (r.length : Int) < 2 * N2) := by have h := hok.out; omega
        rcases hb with c1 | ⟨c1, c2⟩ | ⟨c1, c2, c3⟩ | ⟨c1, c2, c3, c4⟩ | ⟨c1, c2, c3, c4, c5⟩
        all_goals try have g2 : wrap64 (2 * N2) = 2 * N2 := wrap64_in _ (by omega) (by omega)
        all_goals go_wp2_with fail
        all_goals refine bodyPost_ret (results_cell_slot rfl _ _ B 72 _ (0, 0) _ rfl sC.out.row Tryz.underlying72 rfl (by kernel_rfl)) rfl ?_
        all_goals exact ⟨_, _, _, _, _, rfl, sC.out.x.below⟩
end Go.Proofs.YthcfhmebikcfpaaGreatDoor
