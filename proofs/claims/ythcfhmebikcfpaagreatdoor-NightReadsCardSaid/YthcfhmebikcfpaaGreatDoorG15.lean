/- Lemmas and walks on which the claims of this seat lean: NGl NGm. -/
import Derived.Test.YthcfhmebikcfpaaGreatDoorG14

set_option linter.all false

namespace Go.Proofs.YthcfhmebikcfpaaGreatDoor
open Go.RowKit

attribute [local go_sem] Holds.drew Holds.alloc Holds.drewN WB.holds Oper.semAt_some

set_option maxRecDepth 100000 in
set_option maxHeartbeats 1000000 in
theorem form14_any (s : ByteArray) (H : Snap) (w : World) (hw : Holds H w) :
    Calls Tryz.prog 48 #[.string s] w (FormPost w H (formA (bys s))) := by
  have hwt := fun (W : World) => within14_any (s.size : Int) 4 1500 W
  obtain ⟨R, hR⟩ : ∃ R, R = formA (bys s) := ⟨_, rfl⟩
  rw [← hR]
  by_cases hin : 4 ≤ s.size ∧ s.size ≤ 1500
  case' neg =>
    have hRn : R = none := by
      rw [hR]
      rcases Nat.lt_or_ge s.size 4 with h | h
      · exact formA_short (by rw [bys_len]; exact h)
      · exact formA_long (by rw [bys_len]; omega)
    subst hRn
    rw [within_no (by omega)] at hwt
    clear hin hR
    replace hwt := Lib.hid hwt
    go_enter Tryz.func48, Tryz.ntmps48
    go_wp2_with (first | ((go_at_call 73; refine (hwt.out _).mono ?_; rintro e w2 ⟨rfl, hb2⟩)))
    (try simp only [Exit.inBlock, Exit.then])
    refine bodyPost_ret (results_tmp4 rfl _ _ _) rfl ?_
    exact ⟨rfl, hb2⟩
  case' pos =>
    rw [within_ok (by omega) (by omega)] at hwt
    have hdg := fun (b : UInt8) (W : World) => digit14_any b W
    replace hwt := Lib.hid hwt
    replace hdg := Lib.hid hdg
    replace hR := Lib.hid hR
    have hs4 : 4 ≤ s.size := hin.1
    have hs15 : s.size ≤ 1500 := hin.2
    go_enter Tryz.func48, Tryz.ntmps48
    go_upto_region 4 with (go_at_call 73; refine (hwt.out _).mono ?_; rintro e w2 ⟨rfl, hb2⟩)
    have x2 := (Ext.refl hw).step hb2 (hw.below hb2)
    clear hb2 hwt hin
    go_loopw [3, 4, 6] (fun lv bv i wr => ∃ k : Nat, k ≤ 4 ∧ i = .int .i64 (k : Int) ∧ lv = .slice none 0 0 ∧ bv = .string ⟨#[]⟩ ∧ Hid (∀ j x, j < k → At (bys s) j x → 0 ≤ digI x) ∧ Ext w H wr H) (fun _ _ i _ => 4 - (intOf i).toNat)
    case atStart => exact ⟨0, Nat.zero_le _, rfl, rfl, rfl, Lib.hid (fun j x h => absurd h (Nat.not_lt_zero j)), x2⟩
    case round =>
      clear x2
      obtain ⟨k, hk, rfl, rfl, rfl, hok, xr⟩ := hrel
      have hk0 : (0 : Int) ≤ (k : Int) := by omega
      by_cases hlk : k < 4
      · obtain ⟨x, hx⟩ := At.mk (show k < (bys s).length by rw [bys_len]; omega)
        have hks : k < s.size := by omega
        have hk1 : (k : Int) < 4 := by omega
        have hk2 : (k : Int) < (s.size : Int) := by omega
        have hsk := bys_at hks hx
        have hdx := Lib.hid (hdg.out x)
        by_cases hd : digI x < 0
        · have hRn : R = none := by rw [hR.out]; exact formA_dig (by rw [bys_len]; exact hs4) hlk hx hd
          subst hRn
          generalize digI x = D at *
          clear hR hx hok hdg
          go_wp2_with (first | ((go_at_call 74; go_must (refine (hdx.out _).mono ?_); rintro e w3 ⟨rfl, hb3⟩)))
          (try simp only [Exit.inBlock, Exit.then])
          refine bodyPost_ret (results_tmp4 rfl _ _ _) rfl ?_
          exact ⟨rfl, xr.below.trans (hb3.mono xr.below.size)⟩
        · have hok2 : ∀ j y, j < k + 1 → At (bys s) j y → 0 ≤ digI y := fun j y hj hy => by
            by_cases e : j = k
            · subst e
              have : y = x := Option.some.inj (hy.symm.trans hx)
              subst this; omega
            · exact hok.out j y (by omega) hy
          replace hok2 := Lib.hid hok2
          generalize digI x = D at *
          clear hx hok
          go_wp2_with (first | ((go_at_call 74; go_must (refine (hdx.out _).mono ?_); rintro e w3 ⟨rfl, hb3⟩; have x3 := xr.step (hb3.mono xr.below.size) (xr.holds.below hb3))))
          go_roundw
          case rel => exact ⟨k + 1, by omega, by go_num, rfl, rfl, hok2, x3⟩
          case measure => simp [intOf]; omega
      · have hk4 : k = 4 := by omega
        subst hk4
        obtain ⟨a, b, c, d, r, hs⟩ : ∃ a b c d r, bys s = a :: b :: c :: d :: r := by
          have : 4 ≤ (bys s).length := by rw [bys_len]; omega
          match e : bys s, this with
          | a :: b :: c :: d :: r, _ => exact ⟨a, b, c, d, r, rfl⟩
        have hsz : s.size = r.length + 4 := by rw [← bys_len, hs]; simp
        have t0 : s[0] = a := bys_at (by omega) (by rw [hs]; rfl)
        have t1 : s[1] = b := bys_at (by omega) (by rw [hs]; rfl)
        have t2 : s[2] = c := bys_at (by omega) (by rw [hs]; rfl)
        have t3 : s[3] = d := bys_at (by omega) (by rw [hs]; rfl)
        have da := digI_bd (hok.out 0 a (by omega) (by rw [hs]; rfl))
        have db := digI_bd (hok.out 1 b (by omega) (by rw [hs]; rfl))
        have dc := digI_bd (hok.out 2 c (by omega) (by rw [hs]; rfl))
        have dd := digI_bd (hok.out 3 d (by omega) (by rw [hs]; rfl))
        have n1 := numI_yes da.1 db.1
        have n2 := numI_yes dc.1 dd.1
        obtain ⟨e1, e2⟩ := two_digits da db
        obtain ⟨e3, e4⟩ := two_digits dc dd
        have hN1 : 0 ≤ numI a b := by omega
        have hN2 : 0 ≤ numI c d ∧ numI c d ≤ 99 := by omega
        replace e2 := e2.trans n1.symm
        replace e4 := e4.trans n2.symm
        have hf : R = formA (a :: b :: c :: d :: r) := by rw [hR.out, hs]
        replace hs := Lib.hid hs
        replace e2 := Lib.hid e2
        replace e4 := Lib.hid e4
        replace hN1 := Lib.hid hN1
        replace hN2 := Lib.hid hN2
        replace hf := Lib.hid hf
        have hp0 : (0 : Int) < (s.size : Int) := by omega
        have hp1 : (1 : Int) < (s.size : Int) := by omega
        have hp2 : (2 : Int) < (s.size : Int) := by omega
        have hp3 : (3 : Int) < (s.size : Int) := by omega
        clear hR hok n1 n2 da db dc dd hk0 hk
        have hwr := xr.holds
        go_upto_region 8 with fail
        refine wp_region_quietB H (by kernel_rfl) (by kernel_rfl) hwr (fun hne => ?_)
        repeat go_big_quiet_step ((first | (go_at_call 74; exact Calls.quietB (hdg.out _ _))))
        refine wpQuiet_nil ?_
        rintro ⟨w2, hw2, hb2⟩
        clear hne
        have xr2 := xr.step (hb2.mono xr.below.size) hw2
        clear xr t0 t1 e1 hp0 hp1
        go_upto_region 9 with fail
        refine wp_region_quietB H (by kernel_rfl) (by kernel_rfl) hw2 (fun hne => ?_)
        repeat go_big_quiet_step ((first | (go_at_call 74; exact Calls.quietB (hdg.out _ _))))
        refine wpQuiet_nil ?_
        rintro ⟨w3, hw3, hb3⟩
        clear hne
        have x3 := xr2.step (hb3.mono xr2.below.size) hw3
        rw [e2.out, e4.out]
        clear xr2 t2 t3 e3 hdg hp2 hp3 e2 e4
        by_cases hok : 0 ≤ numI a b ∧ numI a b ≤ 20 ∧ 0 ≤ numI c d ∧ numI c d ≤ 96 ∧ 2 * numI c d ≤ (r.length : Int)
        case' neg =>
          have hRn : R = none := by rw [hf.out]; exact formA_bad hok
          subst hRn
          have h1 := hN1.out
          have h2 := hN2.out
          generalize numI a b = N1 at *
          generalize numI c d = N2 at *
          have g2 : wrap64 (2 * N2) = 2 * N2 := wrap64_in _ (by omega) (by omega)
          have g3 : wrap64 (4 + 2 * N2) = 4 + 2 * N2 := wrap64_in _ (by omega) (by omega)
          have hcs : (20 < N1) ∨ (¬ 20 < N1 ∧ 96 < N2) ∨ (¬ 20 < N1 ∧ ¬ 96 < N2 ∧ (s.size : Int) < 4 + 2 * N2) := by omega
          clear hok h1 h2 hs hf hN1 hN2 hsz
          rcases hcs with c1 | ⟨c1, c2⟩ | ⟨c1, c2, c3⟩
          all_goals go_wp2_with fail
          all_goals (try simp only [Exit.inBlock, Exit.then])
          all_goals refine bodyPost_ret (results_tmp4 rfl _ _ _) rfl ?_
          all_goals exact ⟨rfl, x3.below⟩
        case' pos =>
          obtain ⟨m, n, em, en, hm, hn, h2n, hfg⟩ := formA_good (by omega) hok
          have hR2 : R = _ := hf.out.trans hfg
          replace hR2 := Lib.hid hR2
          clear hfg hok hN1 hN2 hf
          rw [em, en]
          have c1 : ¬ 20 < (m : Int) := by omega
          have c2 : ¬ 96 < (n : Int) := by omega
          have c3 : ¬ (s.size : Int) < 4 + 2 * (n : Int) := by omega
          have g2 : wrap64 (2 * (n : Int)) = 2 * (n : Int) := wrap64_in _ (by omega) (by omega)
          have g3 : wrap64 (4 + 2 * (n : Int)) = 4 + 2 * (n : Int) := wrap64_in _ (by omega) (by omega)
          have hrd : ∀ j, (bys s).drop (4 + j) = r.drop j := fun j => by rw [hs.out, ← List.drop_drop]; rfl
          replace hrd := Lib.hid hrd
          replace hsz := Lib.hid hsz
          replace h2n := Lib.hid h2n
          clear em en
          go_upto_region 14 with fail
          clear c1 c2 c3
          replace g2 := Lib.hid g2
          replace g3 := Lib.hid g3
          go_loopw [2, 3, 4, 8, 9] (fun mv lv bv la iv wq => ∃ (k i0 : Nat) (last : Int) (l : List Pr) (Hq : Snap), mv = .int .i64 (m : Int) ∧ bv = .string ⟨#[]⟩ ∧ Hid (i0 = 4 + 2 * k ∧ k ≤ n) ∧ i0 ≤ 196 ∧ iv = .int .i64 (i0 : Int) ∧ la = .int .i64 last ∧ Hid (-1 ≤ last ∧ last < 256) ∧ Hid (l.length = k) ∧ Own Hq w.heap.size wq 47 lv l ∧ Ext w H wq Hq ∧ Hid (symsA n (-1) r = (symsA (n - k) last (r.drop (2 * k))).map fun x => (l ++ x.1, x.2))) (fun _ _ _ _ iv _ => 4 + 2 * n - (intOf iv).toNat)
          case atStart => exact ⟨0, 4, -1, [], H, rfl, rfl, Lib.hid ⟨rfl, Nat.zero_le _⟩, by decide, rfl, rfl, Lib.hid (by decide), Lib.hid rfl, Own.nil _ _ _ _, x3, Lib.hid (by show _ = (symsA n (-1) r).map _; cases symsA n (-1) r <;> rfl)⟩
          case round =>
            clear x3
            obtain ⟨k, i0, last, l, Hq, rfl, rfl, hik, hi9, rfl, rfl, hla, hlk2, own, xr, hsy⟩ := hrel
            obtain ⟨vl, vc, rfl, _, _⟩ := own.form
            have hwr := xr.holds
            have gg2 := g2.out
            have gg3 := g3.out
            by_cases hkn : k < n
            · obtain ⟨c0, b0, j1, S⟩ := syms_round hs15 hrd.out h2n.out hn hik.out.1 hkn hsy.out hR2.out
              have hiI : (i0 : Int) < 4 + 2 * (n : Int) := by have h1 := S.nx; omega
              have z0 := S.z0
              have z1 := S.z1
              have s0 := S.s0
              have s1 := S.s1
              have ej := S.ej
              have p0 := S.p0
              have p1 := S.p1
              have p2 := S.p2
              have p3 := S.p3
              obtain ⟨f1, f2, f3, i64b, _⟩ := sym_facts (b := b0)
              obtain ⟨f4, _, _, _, i64c⟩ := sym_facts (b := c0)
              have hws := within_sym (b := b0)
              replace hws := Lib.hid hws
              replace S := Lib.hid S
              have y := ext_put' hwr #[.int .i64 (c0.toNat : Int), .int .i64 ((b0.toNat : Int) - 64)] 47
              have hput := Snap.put_same Hq wr.heap.size (.cells #[.int .i64 (c0.toNat : Int), .int .i64 ((b0.toNat : Int) - 64)] 47 (0, 0))
              have xz := xr.trans y
              have oz := own.ext hwr y
              clear hsy own hik
              go_upto_region 16 with fail
              clear hiI gg2 gg3
              go_cut [10] (fun p wc => p = .pointer (some ⟨wr.heap.size, 0, none⟩) ∧ wc = (wr.alloc (.cells #[.int .i64 (c0.toNat : Int), .int .i64 ((b0.toNat : Int) - 64)] 47)).drew)
              case first =>
                (first | go_region_with fail | fail)
                all_goals
                  go_wp2_with fail
                  go_meet
                  exact ⟨rfl, rfl⟩
              case rest =>
                obtain ⟨rfl, hwz⟩ := hcut
                subst hwz
                have cx0 : ∀ w', Holds (Hq.put wr.heap.size (.cells #[.int .i64 (c0.toNat : Int), .int .i64 ((b0.toNat : Int) - 64)] 47 (0, 0))) w' → w'.cell? ⟨wr.heap.size, 0, none⟩ = some (.int .i64 (c0.toNat : Int)) := fun w' hw' => cellH hput hw' 0
                have cx1 : ∀ w', Holds (Hq.put wr.heap.size (.cells #[.int .i64 (c0.toNat : Int), .int .i64 ((b0.toNat : Int) - 64)] 47 (0, 0))) w' → w'.cell? ⟨wr.heap.size, 1, none⟩ = some (.int .i64 ((b0.toNat : Int) - 64)) := fun w' hw' => cellH hput hw' 1
                have hcx0 := cx0
                generalize Hq.put wr.heap.size (.cells #[.int .i64 (c0.toNat : Int), .int .i64 ((b0.toNat : Int) - 64)] 47 (0, 0)) = Hz at *
                generalize hwzz : (wr.alloc (.cells #[.int .i64 (c0.toNat : Int), .int .i64 ((b0.toNat : Int) - 64)] 47)).drew = wz at *
                generalize wr.heap.size = XB at *
                have hwz := xz.holds
                clear hwzz y hput hwr xr p0 p1 p2 p3 ej z0 z1 s0 s1 f1 f2 f3 f4 hcx0
                by_cases q1 : (c0.toNat : Int) ≤ last
                · have hRn := S.out.no (fun h => absurd h.1 (Int.not_lt.2 q1))
                  subst hRn
                  have q2 : decide ((c0.toNat : Int) ≤ last) = true := decide_eq_true q1
                  clear S hws
                  go_wp2_with fail
                  (try simp only [Exit.inBlock, Exit.then])
                  refine bodyPost_ret (results_tmp4 rfl _ _ _) rfl ?_
                  exact ⟨rfl, xz.below⟩
                · have q2 : decide ((c0.toNat : Int) ≤ last) = false := decide_eq_false q1
                  cases q3 : okSym (c0.toNat : Int)
                  · have hRn := S.out.no (fun h => by rw [q3] at h; cases h.2.1)
                    subst hRn
                    have cS : ∀ W, Calls Tryz.prog 75 #[.int .i64 (c0.toNat : Int)] W (PostV W (.bool false)) := fun W => by rw [← q3]; exact isSymbol14_any _ W
                    replace cS := Lib.hid cS
                    clear S hws q3
                    go_wp2_with (first | ((go_at_call 75; go_must (refine (cS.out _).mono ?_); rintro e w5 ⟨rfl, hb5⟩; have hw5 := hwz.below hb5; have x5 := xz.step (hb5.mono xz.below.size) hw5)))
                    (try simp only [Exit.inBlock, Exit.then])
                    refine bodyPost_ret (results_tmp4 rfl _ _ _) rfl ?_
                    exact ⟨rfl, x5.below⟩
                  · have cS : ∀ W, Calls Tryz.prog 75 #[.int .i64 (c0.toNat : Int)] W (PostV W (.bool true)) := fun W => by rw [← q3]; exact isSymbol14_any _ W
                    replace cS := Lib.hid cS
                    by_cases q4 : 65 ≤ b0.toNat ∧ b0.toNat ≤ 79
                    case' neg =>
                      have hRn := S.out.no (fun h => q4 h.2.2)
                      subst hRn
                      have cW : ∀ W, Calls Tryz.prog 73 #[.int .i64 ((b0.toNat : Int) - 64), .int .i64 1, .int .i64 15] W (PostV W (.bool false)) := fun W => by
                        have h1 := within14_any ((b0.toNat : Int) - 64) 1 15 W
                        rw [hws.out, decide_eq_false q4] at h1
                        exact h1
                      replace cW := Lib.hid cW
                      clear S hws q3 q4
                      go_wp2_with (first | ((have hgd := x5; clear hgd; go_at_call 73; go_must (refine (cW.out _).mono ?_); rintro e w6 ⟨rfl, hb6⟩; have x6 := x5.below.trans (hb6.mono x5.below.size))) | ((go_at_call 75; go_must (refine (cS.out _).mono ?_); rintro e w5 ⟨rfl, hb5⟩; have hw5 := hwz.below hb5; have x5 := xz.step (hb5.mono xz.below.size) hw5)))
                      (try simp only [Exit.inBlock, Exit.then])
                      refine bodyPost_ret (results_tmp4 rfl _ _ _) rfl ?_
                      exact ⟨rfl, x6⟩
                    case' pos =>
                      have cW : ∀ W, Calls Tryz.prog 73 #[.int .i64 ((b0.toNat : Int) - 64), .int .i64 1, .int .i64 15] W (PostV W (.bool true)) := fun W => by
                        have h1 := within14_any ((b0.toNat : Int) - 64) 1 15 W
                        rw [hws.out, decide_eq_true q4] at h1
                        exact h1
                      replace cW := Lib.hid cW
                      have hnext := S.out.yes (Int.not_le.1 q1) q3 q4
                      obtain ⟨nx1, nx2, nx3, nx4⟩ := S.out.nx
                      have hbd := S.out.bd
                      have hrep : Enc.rep Hz (⟨(c0.toNat : Int), (b0.toNat : Int) - 64⟩ : Pr) [.int .i64 (c0.toNat : Int), .int .i64 ((b0.toNat : Int) - 64)] := ⟨rfl, i64c, i64b⟩
                      obtain ⟨ft1, ft2⟩ := pr_fit (l := l) (by have h1 := hlk2.out; omega)
                      have hll : (l ++ [(⟨(c0.toNat : Int), (b0.toNat : Int) - 64⟩ : Pr)]).length = k + 1 := by rw [List.length_append, hlk2.out]; rfl
                      have hmeas : 4 + 2 * n - (i0 + 2) < 4 + 2 * n - i0 := by omega
                      replace hnext := Lib.hid hnext
                      replace nx1 := Lib.hid nx1
                      replace nx2 := Lib.hid nx2
                      replace nx3 := Lib.hid nx3
                      replace hbd := Lib.hid hbd
                      replace hrep := Lib.hid hrep
                      replace ft1 := Lib.hid ft1
                      replace ft2 := Lib.hid ft2
                      replace hll := Lib.hid hll
                      replace hmeas := Lib.hid hmeas
                      clear S hws q3 q4 hkn nx4 q1
                      go_upto_region 19 with (first
                        | (have hgd := x5; clear hgd; go_at_call 73; go_must (refine (cW.out _).mono ?_); rintro e w6 ⟨rfl, hb6⟩; have hw6 := hw5.below hb6; have x6 := x5.step (hb6.mono x5.below.size) hw6; have o6 := o5.ext hw5 ⟨hb6, hw6, fun _ _ => rfl⟩)
                        | (go_at_call 75; go_must (refine (cS.out _).mono ?_); rintro e w5 ⟨rfl, hb5⟩; have hw5 := hwz.below hb5; have x5 := xz.step (hb5.mono xz.below.size) hw5; have o5 := oz.ext hwz ⟨hb5, hw5, fun _ _ => rfl⟩))
                      clear q2 x5 o5 xz oz cS cW
                      go_region_held3 (fun w' => Holds Hz w' ∧ Ext w H w' Hz) (first | assumption | exact ⟨by assumption, by assumption⟩ | (go_split_ands; exact ⟨Holds.drew (by assumption), Ext.drew (by assumption)⟩) | (go_split_ands; exact ⟨Holds.alloc (by assumption) _, Ext.alloc (by assumption) _⟩) | (go_split_ands; exact ⟨Holds.drew (Holds.alloc (by assumption) _), Ext.drew (Ext.alloc (by assumption) _)⟩)) (first | ((go_split_ands; refine step_appCX (w0 := w) (H0 := H) eLen rfl _ _ rfl (x6.drew.alloc _) rfl (o6.drew.alloc _) rfl hrep.out (two_cells (heap_alloc_new _ _)) ft1.out ft2.out ?_; intro vB wB oB xB hwB gB)))
                      go_wp2
                      go_roundw
                      case rel => exact ⟨k + 1, i0 + 2, (c0.toNat : Int), _, Hz, rfl, rfl, Lib.hid ⟨nx1.out, nx2.out⟩, nx3.out, by go_num, rfl, Lib.hid hbd.out, hll, oB, xB, hnext⟩
                      case measure => have h1 := hmeas.out; simp [intOf]; omega
            · have hkn2 : k = n := by have h1 := hik.out; omega
              subst hkn2
              have hsy1 := hsy.out
              rw [Nat.sub_self] at hsy1
              have hR3 : R = if (r.drop (2 * k)).all (fun b => (letN b).isSome) then some ⟨m, l, r.drop (2 * k)⟩ else none := by
                rw [hR2.out, hsy1]
                show (match some (l ++ ([] : List Pr), r.drop (2 * k)) with | some (l, rest) => if rest.all (fun b => (letN b).isSome) then some (⟨m, l, rest⟩ : Frm) else none | none => none) = _
                rw [List.append_nil]
              have hie := hik.out.1
              have hkI : ¬ (i0 : Int) < 4 + 2 * (k : Int) := by omega
              obtain ⟨H3, x3, _, s3, _⟩ := own.close xr
              have hat := fun jj t x (hj : jj = 4 + 2 * k + t) (h : At (r.drop (2 * k)) t x) => at_rest hrd.out hj h
              have hrl : (r.drop (2 * k)).length + (4 + 2 * k) = s.size := by have h1 := hsz.out; have h2 := h2n.out; rw [List.length_drop]; omega
              generalize r.drop (2 * k) = rest at *
              replace hat := Lib.hid hat
              replace hR3 := Lib.hid hR3
              clear hsy hsy1 hR2 hrd own xr hwr hlk2 hla hik
              obtain ⟨j0, hj0⟩ : ∃ j0 : Nat, j0 = 4 + 2 * k := ⟨_, rfl⟩
              have hj0I : (4 : Int) + 2 * (k : Int) = (j0 : Int) := by omega
              have hrl2 : rest.length + j0 = s.size := by omega
              rw [hj0I] at gg3 hkI
              replace hj0 := Lib.hid hj0
              replace hrl2 := Lib.hid hrl2
              clear hrl hie
              go_upto_region 21 with fail
              clear hkI gg2 gg3 hj0I
              go_loopw [2, 3, 4, 11] (fun mv lv bv iv wq => ∃ t jj : Nat, Hid (jj = j0 + t ∧ t ≤ rest.length) ∧ jj ≤ 1500 ∧ mv = .int .i64 (m : Int) ∧ lv = .slice vl l.length vc ∧ iv = .int .i64 (jj : Int) ∧ bv = .string (strB (unsix (rest.take t))) ∧ Hid ((rest.take t).all (fun b => (letN b).isSome) = true) ∧ Ext w H wq H3) (fun _ _ _ iv _ => s.size - (intOf iv).toNat)
              case atStart => exact ⟨0, j0, Lib.hid ⟨rfl, Nat.zero_le _⟩, by have h1 := hrl2.out; omega, rfl, rfl, rfl, rfl, Lib.hid rfl, x3⟩
              case round =>
                clear x3
                obtain ⟨t, jj, hjt, hj15, rfl, rfl, rfl, rfl, hal, xr⟩ := hrel
                by_cases hjs : jj < s.size
                · have htl : t < rest.length := by have h1 := hrl2.out; have h2 := hjt.out.1; omega
                  obtain ⟨x, hx⟩ := At.mk htl
                  have hsx := bys_at hjs (hat.out jj t x (by have h1 := hjt.out.1; have h2 := hj0.out; omega) hx)
                  have p0 : (0 : Int) ≤ (jj : Int) := by omega
                  have p1 : (jj : Int) < (s.size : Int) := by omega
                  have cL : ∀ W, Calls Tryz.prog 76 #[.int .u8 (x.toNat : Int)] W (PostV W (.int .i64 (lettI x))) := fun W => letter14_any x W
                  replace cL := Lib.hid cL
                  by_cases hd : lettI x < 0
                  · have hRn : R = none := by
                      rw [hR3.out]
                      have : rest.all (fun b => (letN b).isSome) = false := by rw [List.all_eq_false]; exact ⟨x, hx.mem, by rw [lettI_none hd]; decide⟩
                      rw [this]; rfl
                    subst hRn
                    generalize lettI x = D at *
                    clear hR3 hx hal hat hjt
                    go_wp2_with (first | ((go_at_call 76; go_must (refine (cL.out _).mono ?_); rintro e w5 ⟨rfl, hb5⟩; have x5 := xr.step (hb5.mono xr.below.size) (xr.holds.below hb5))))
                    (try simp only [Exit.inBlock, Exit.then])
                    refine bodyPost_ret (results_tmp4 rfl _ _ _) rfl ?_
                    exact ⟨rfl, x5.below⟩
                  · obtain ⟨q, hq, hqs, hqi⟩ := lettI_some (Int.not_lt.1 hd)
                    rw [hqi] at cL
                    have hu := unsix_add hx hqs
                    have hal2 : (rest.take (t + 1)).all (fun b => (letN b).isSome) = true := by rw [hx.take, List.all_append, hal.out]; simp [hqs]
                    have hadd : strB (unsix (rest.take t)) ++ strB (binB q 6) = strB (unsix (rest.take (t + 1))) := by rw [hu]; exact (strB_add _ _).symm
                    have hlim : ¬ 9223372036854775807 < (strB (unsix (rest.take t))).size + (strB (binB q 6)).size := by
                      have h1 := hrl2.out
                      rw [strB_len, strB_len, unsix_len, binB_len, List.length_take]
                      omega
                    have cB : ∀ W, Calls Tryz.prog 77 #[.int .i64 (q : Int), .int .i64 6] W (PostV W (.string (strB (binB q 6)))) := fun W => binary14_any 6 q (by omega) (by omega) W
                    have hjt2 : jj + 1 = j0 + (t + 1) ∧ t + 1 ≤ rest.length := ⟨by have h1 := hjt.out.1; omega, htl⟩
                    have hq0 : ¬ (q : Int) < 0 := by omega
                    have hj16 : jj + 1 ≤ 1500 := by omega
                    generalize strB (unsix (rest.take t)) = u1 at *
                    generalize strB (binB q 6) = u2 at *
                    replace hadd := Lib.hid hadd
                    replace hal2 := Lib.hid hal2
                    replace cB := Lib.hid cB
                    replace hjt2 := Lib.hid hjt2
                    clear hu hx hqs hqi hq hd htl hal hat hjt hR3
                    go_upto_region 22 with (first
                      | (have hgd := x5; clear hgd; go_at_call 77; go_must (refine (cB.out _).mono ?_); rintro e w6 ⟨rfl, hb6⟩; have x6 := x5.step (hb6.mono x5.below.size) (x5.holds.below hb6))
                      | (go_at_call 76; go_must (refine (cL.out _).mono ?_); rintro e w5 ⟨rfl, hb5⟩; have x5 := xr.step (hb5.mono xr.below.size) (xr.holds.below hb5)))
                    clear p0 p1 hsx hq0 hlim
                    go_wp2
                    go_roundw
                    case rel => exact ⟨t + 1, jj + 1, hjt2, hj16, rfl, rfl, by go_num, congrArg Value.string hadd.out, hal2, x6⟩
                    case measure => simp [intOf]; omega
                · have hte : rest.take t = rest := List.take_of_length_le (by have h1 := hrl2.out; have h2 := hjt.out.1; omega)
                  have hal2 := hal.out
                  rw [hte] at hal2 ⊢
                  have hRy : R = some ⟨m, l, rest⟩ := by rw [hR3.out, hal2]; rfl
                  subst hRy
                  have p1 : ¬ (jj : Int) < (s.size : Int) := by omega
                  clear hat hal hR3 hal2 hte
                  go_wp2
                  (try simp only [Exit.inBlock, Exit.then])
                  refine bodyPost_ret (results_tmp4 rfl _ _ _) rfl ?_
                  exact ⟨_, H3, rfl, xr, s3⟩
end Go.Proofs.YthcfhmebikcfpaaGreatDoor

namespace Go.Proofs.YthcfhmebikcfpaaGreatDoor
open Go.RowKit

attribute [local go_sem] Holds.drew Holds.alloc Holds.drewN WB.holds Oper.semAt_some

theorem pref_iff (c : List UInt8) (b : ByteArray) : c.isPrefixOf (bys b) = true ↔ c.length ≤ b.size ∧ b.extract 0 c.length = strB c := by
  have hx : b.extract 0 c.length = strB ((bys b).take c.length) := by
    have := strB_cut (bys b) 0 c.length
    rw [List.drop_zero] at this
    exact this
  rw [hx, List.isPrefixOf_iff_prefix]
  constructor
  · intro h
    refine ⟨by have := h.length_le; rwa [bys_len] at this, ?_⟩
    rw [List.prefix_iff_eq_take] at h
    rw [← h]
  · intro ⟨_, h2⟩
    rw [List.prefix_iff_eq_take]
    exact (strB_inj h2).symm
theorem find_first {l : List Pr} {b : List UInt8} {k : Nat} (hk : k < l.length) (hno : ∀ i, i < k → (codeAt l i).isPrefixOf b = false) (h : (codeAt l k).isPrefixOf b = true) : firstA l b = some k := by
  unfold firstA
  rw [List.find?_range_eq_some]
  exact ⟨h, List.mem_range.2 hk, fun j hj => by rw [hno j hj]; rfl⟩
theorem find_none {l : List Pr} {b : List UInt8} (hno : ∀ i, i < l.length → (codeAt l i).isPrefixOf b = false) : firstA l b = none := by
  unfold firstA
  rw [List.find?_eq_none]
  intro i hi
  rw [hno i (List.mem_range.1 hi)]
  decide
def firS (l : List Pr) (b : List UInt8) : Int := match firstA l b with | some i => symI l i | none => -1
def firN (l : List Pr) (b : List UInt8) : Int := match firstA l b with | some i => (bitsN l i : Int) | none => 0

set_option maxRecDepth 100000 in
set_option maxHeartbeats 1000000 in
theorem first14_any (v u : Value) (l : List Pr) (hl : l.length ≤ 1000) (bits : ByteArray) (H : Snap) (w : World) (hw : Holds H w) (hs : Sl H v l) (hu : Sl H u (codesA l)) :
    Calls Tryz.prog 80 #[v, u, .string bits] w (PostV w (.tuple #[.int .i64 (firS l (bys bits)), .int .i64 (firN l (bys bits))])) := by
  obtain ⟨a, c, rfl, _, _⟩ := hs.form
  obtain ⟨a2, c2, e2, _, _⟩ := hu.form
  rw [codesA_len] at e2
  subst e2
  go_enter Tryz.func80, Tryz.ntmps80
  go_wp2
  go_loopw [8] (fun i wr => ∃ k : Nat, k ≤ l.length ∧ i = .int .i64 (k : Int) ∧ Hid (∀ i, i < k → (codeAt l i).isPrefixOf (bys bits) = false) ∧ Ext w H wr H) (fun i _ => l.length - (intOf i).toNat)
  case atStart => exact ⟨0, Nat.zero_le _, rfl, Lib.hid (fun i h => absurd h (Nat.not_lt_zero i)), Ext.refl hw⟩
  case round =>
    obtain ⟨k, hk, rfl, hno, xr⟩ := hrel
    have hwr := xr.holds
    have hk0 : (0 : Int) ≤ (k : Int) := by omega
    by_cases hlk : k < l.length
    · obtain ⟨p, hp⟩ := At.mk hlk
      obtain ⟨b, o, c', he, ⟨i1, i2⟩, r1, r2⟩ := hs.pr hp
      cases he
      have hat : At (codesA l) k (strB (codeAt l k)) := by
        show (codesA l)[k]? = _
        unfold codesA
        rw [List.getElem?_map, List.getElem?_range hlk]; rfl
      obtain ⟨b4, o4, c4', he, hi4, hr4⟩ := hu.str hat
      rw [codesA_len] at he
      cases he
      have hk1 : (k : Int) < (l.length : Int) := by omega
      obtain ⟨N, hN⟩ : ∃ N, N = (codeAt l k).length := ⟨_, rfl⟩
      have hqs : (strB (codeAt l k)).size = N := hN.symm
      have hpi := pref_iff (codeAt l k) bits
      rw [← hN] at hpi
      have hNb : N = bitsN l k := by rw [hN, codeAt_len]
      have hN0 : (0 : Int) ≤ (N : Int) := by omega
      have hyes : (codeAt l k).isPrefixOf (bys bits) = true → firS l (bys bits) = p.s ∧ firN l (bys bits) = (N : Int) := fun h => by
        have h1 := find_first hlk hno.out h
        unfold firS firN
        rw [h1]
        exact ⟨symI_at hp, by rw [hNb]⟩
      have hskip : (codeAt l k).isPrefixOf (bys bits) = false → ∀ i, i < k + 1 → (codeAt l i).isPrefixOf (bys bits) = false := fun h i hi => by
        by_cases e : i = k
        · rw [e]; exact h
        · exact hno.out i (by omega)
      replace hyes := Lib.hid hyes
      replace hskip := Lib.hid hskip
      clear hat hN hNb hp
      cases hpr : (codeAt l k).isPrefixOf (bys bits)
      · have hskip2 := Lib.hid (hskip.out hpr)
        rw [hpr] at hpi
        by_cases hle : N ≤ bits.size
        · have hne : ¬ bits.extract 0 N = strB (codeAt l k) := fun e => by simpa using hpi.2 ⟨hle, e⟩
          have hleI : (N : Int) ≤ (bits.size : Int) := by omega
          have hg : decide ((N : Int) ≤ (bits.size : Int)) = true := decide_eq_true hleI
          generalize strB (codeAt l k) = q at *
          have hb1 := beq_bytes_ne hne
          have hb2' : ((bits.extract 0 N).toList == q.toList) = false := by
            rw [ByteArray.toList_eq, ByteArray.toList_eq, beq_eq_false_iff_ne]
            exact fun e => hne (bytes_of_list e)
          clear hne hpi hpr hyes hskip hle hno
          go_upto_region 5 with fail
          refine wp_region_quietB H (by kernel_rfl) (by kernel_rfl) hwr (fun hne => ?_)
          repeat go_big_quiet_step ((first | fail))
          refine wpQuiet_nil ?_
          rintro ⟨w2, hw2, hb2⟩
          clear hne
          have x2 := xr.step (hb2.mono xr.below.size) hw2
          go_wp2_with fail
          go_roundw
          case rel => exact ⟨k + 1, by omega, by go_num, hskip2, x2⟩
          case measure => simp [intOf]; omega
        · have hleI : ¬ (N : Int) ≤ (bits.size : Int) := by omega
          have hg : decide ((N : Int) ≤ (bits.size : Int)) = false := decide_eq_false hleI
          generalize strB (codeAt l k) = q at *
          clear hpi hpr hyes hskip hle hno
          go_upto_region 5 with fail
          refine wp_region_quietB H (by kernel_rfl) (by kernel_rfl) hwr (fun hne => ?_)
          repeat go_big_quiet_step ((first | fail))
          refine wpQuiet_nil ?_
          rintro ⟨w2, hw2, hb2⟩
          clear hne
          have x2 := xr.step (hb2.mono xr.below.size) hw2
          go_wp2_with fail
          go_roundw
          case rel => exact ⟨k + 1, by omega, by go_num, hskip2, x2⟩
          case measure => simp [intOf]; omega
      · obtain ⟨e1, e2⟩ := hyes.out hpr
        obtain ⟨hle, heq⟩ := hpi.1 hpr
        rw [e1, e2]
        have hleI : (N : Int) ≤ (bits.size : Int) := by omega
        have hg : decide ((N : Int) ≤ (bits.size : Int)) = true := decide_eq_true hleI
        generalize strB (codeAt l k) = q at *
        have hb1 : (q == q) = true := beq_bytes_self q
        have hb2' : (q.toList == q.toList) = true := by simp
        clear hpi hpr hyes hskip hle hno e1 e2
        go_upto_region 5 with fail
        refine wp_region_quietB H (by kernel_rfl) (by kernel_rfl) hwr (fun hne => ?_)
        repeat go_big_quiet_step ((first | fail))
        refine wpQuiet_nil ?_
        rintro ⟨w2, hw2, hb2⟩
        clear hne
        have x2 := xr.step (hb2.mono xr.below.size) hw2
        go_wp2_with fail
        go_ret2
        exact ⟨rfl, x2.below⟩
    · have hf : firstA l (bys bits) = none := find_none fun i hi => hno.out i (by omega)
      have e1 : firS l (bys bits) = -1 := by unfold firS; rw [hf]
      have e2 : firN l (bys bits) = 0 := by unfold firN; rw [hf]
      have hk1 : ¬ (k : Int) < (l.length : Int) := by omega
      replace e1 := Lib.hid e1
      replace e2 := Lib.hid e2
      clear hf
      go_wp2
      go_ret2
      rw [e1.out, e2.out]
      exact ⟨rfl, xr.below⟩

/-- What texts hands back. -/
def TextsPost (w : World) (H : Snap) (o : Option (List ByteArray)) : Ending → World → Prop := fun e w' =>
  match o with
  | none => e = .returned (.tuple #[.slice none 0 0, .bool false]) ∧ Below w.heap.size w w'
  | some out => ∃ v H', e = .returned (.tuple #[v, .bool true]) ∧ Ext w H w' H' ∧ Own H' w.heap.size w' 9 v out
theorem conv1' {w : World} {x : UInt8} : (convert 49 9 (.slice (some ⟨w.heap.size, 0, none⟩) 1 1)).run Tryz.prog (w.alloc (.cells #[.int .u8 (x.toNat : Int)] 5)) = .ok (.string (strB [x])) (w.alloc (.cells #[.int .u8 (x.toNat : Int)] 5)) := conv1
/-- One symbol of a text: what its round needs. -/
theorem first_cases {l : List Pr} (C : IsCode l) (b : List UInt8) :
    (firstA l b = none ∧ firS l b = -1 ∧ firN l b = 0) ∨ ∃ i, firstA l b = some i ∧ firS l b = symI l i ∧ firN l b = (bitsN l i : Int) ∧ 0 ≤ symI l i ∧ symI l i < 256 ∧ 1 ≤ bitsN l i ∧ bitsN l i ≤ 15 ∧ bitsN l i ≤ b.length := by
  unfold firS firN
  cases h : firstA l b with
  | none => exact .inl ⟨rfl, rfl, rfl⟩
  | some i =>
    obtain ⟨hi, hp⟩ := first_some h
    obtain ⟨p, hp2⟩ := At.mk hi
    have hps := C.pos p hp2.mem
    have h15 := C.b15.at hi
    have hle := hp.length_le
    rw [codeAt_len] at hle
    rw [← symI_at hp2] at hps
    exact .inr ⟨i, rfl, rfl, rfl, hps.1, hps.2, h15.1, h15.2, hle⟩
theorem ext_drop (t : ByteArray) (n : Nat) : bys (t.extract n t.size) = (bys t).drop n := by
  have := strB_cut (bys t) n t.size
  rw [List.take_of_length_le (by rw [bys_len]; exact Nat.le_refl _)] at this
  exact congrArg bys this

attribute [local go_sem] conv1'
set_option maxRecDepth 100000 in
set_option maxHeartbeats 1000000 in
theorem texts14_any (many : Nat) (hm : many ≤ 20) (v : Value) (l : List Pr) (hl : l.length ≤ 96) (bits : ByteArray) (hbl : bits.size ≤ 9000) (H : Snap) (w : World) (hw : Holds H w) (hs : Sl H v l) :
    Calls Tryz.prog 49 #[.int .i64 (many : Int), v, .string bits] w (TextsPost w H (textsA many l (bys bits))) := by
  have hic := isCode14_any v l (by omega) H w hw hs
  obtain ⟨a, c, rfl, _, _⟩ := hs.form
  obtain ⟨R, hR⟩ : ∃ R, R = textsA many l (bys bits) := ⟨_, rfl⟩
  rw [← hR]
  cases g : isCodeA l
  · have hRn : R = none := by rw [hR]; unfold textsA; rw [g]; rfl
    subst hRn
    rw [g] at hic
    replace hic := Lib.hid hic
    clear hR g
    go_enter Tryz.func49, Tryz.ntmps49
    go_wp2_with (first | ((go_at_call 78; refine hic.out.mono ?_; rintro e w2 ⟨rfl, hb2⟩)))
    go_ret2
    exact ⟨rfl, hb2⟩
  · have C := isCodeA_code g
    have hR2 : R = (match decA many l (bits.size + 1) [] [] (bys bits) with
        | none => none
        | some (out, z) => if restOk z then some out else none) := by rw [hR]; unfold textsA; rw [g]; rfl
    rw [g] at hic
    replace hic := Lib.hid hic
    replace hR2 := Lib.hid hR2
    clear hR g
    go_enter Tryz.func49, Tryz.ntmps49
    go_upto_region 6 with (first
      | (have hgd := hw2; clear hgd; go_at_call 79; go_must (refine (codesOf14_any _ l (by omega) C.b15 H _ hw2 hs).mono ?_); rintro e w3 ⟨v3, H3, rfl, x3, o3⟩; obtain ⟨H4, x4, _, s4, _⟩ := o3.close x3)
      | (go_at_call 78; refine hic.out.mono ?_; rintro e w2 ⟨rfl, hb2⟩; have hw2 := hw.below hb2; have x2 := (Ext.refl hw).step hb2 hw2))
    have xw := x2.trans x4
    have hsl := hs.mono (x4.le hw2)
    have cF : ∀ (t : ByteArray) (W : World), Holds H4 W → Calls Tryz.prog 80 #[.slice a l.length c, v3, .string t] W (PostV W (.tuple #[.int .i64 (firS l (bys t)), .int .i64 (firN l (bys t))])) := fun t W hW => first14_any _ _ l (by omega) t H4 W hW hsl s4
    obtain ⟨a4, c4, rfl, _, _⟩ := o3.form
    replace cF := Lib.hid cF
    clear x2 x3 o3 x4 s4 hsl hic hw2 hs
    go_loopw [2, 9, 10] (fun bv ov tv wq => ∃ (f : Nat) (out : List ByteArray) (own : List UInt8) (t : ByteArray), bv = .string t ∧ tv = .string (strB own) ∧ Hid (t.size ≤ f ∧ own.length + f ≤ 9000 ∧ out.length ≤ many) ∧ Ext w H wq H4 ∧ Own H4 w.heap.size wq 9 ov out ∧ Hid (decA many l (bits.size + 1) [] [] (bys bits) = decA many l (f + 1) out own (bys t))) (fun bv _ _ _ => sLen bv)
    case atStart => exact ⟨bits.size, [], [], bits, rfl, rfl, Lib.hid ⟨Nat.le_refl _, by simpa using hbl, Nat.zero_le _⟩, xw, Own.nil _ _ _ _, Lib.hid rfl⟩
    case round =>
      clear xw
      obtain ⟨f, out, own, t, rfl, rfl, hbd, xr, oT, hdec⟩ := hrel
      obtain ⟨ta, tc, rfl, _, _⟩ := oT.form
      have hwr := xr.holds
      by_cases hlt : out.length < many
      · have hltI : (out.length : Int) < (many : Int) := by omega
        have cf := cF.out t
        have hnm : ¬ many ≤ out.length := by omega
        rcases first_cases C (bys t) with ⟨hf, e1, e2⟩ | ⟨i, hf, e1, e2, i1, i2, i3, i4, i5⟩
        · rw [e1, e2] at cf
          have hRn : R = none := by rw [hR2.out, hdec.out, decA_none hnm hf]
          subst hRn
          replace cf := Lib.hid cf
          clear hR2 hdec hf e1 e2 hnm
          go_wp2_with (first | ((go_at_call 80; go_must (refine (cf.out _ hwr).mono ?_); rintro e w5 ⟨rfl, hb5⟩)))
          go_ret2
          exact ⟨rfl, xr.below.trans (hb5.mono xr.below.size)⟩
        · rw [e1, e2] at cf
          have hd10 := fun h => decA_ten (f := f) (own := own) hnm hf h
          have hds := fun h => decA_sym (f := f) (own := own) hnm hf h
          rw [← ext_drop] at hd10 hds
          have hdec2 := hdec.out
          rw [bys_len] at i5
          obtain ⟨q1, q2, q3⟩ := hbd.out
          obtain ⟨f2, rfl⟩ : ∃ f2, f = f2 + 1 := ⟨f - 1, by omega⟩
          generalize symI l i = S at *
          generalize bitsN l i = N at *
          have hts : (t.extract N t.size).size = t.size - N := by rw [← bys_len, ext_drop, List.length_drop, bys_len]
          have b1 : (0 : Int) ≤ (N : Int) := by omega
          have b2 : (N : Int) ≤ (t.size : Int) := by omega
          have hS0 : ¬ S < 0 := by omega
          have hm2 : t.size - N < t.size := by omega
          have hq4 : (t.extract N t.size).size ≤ f2 := by omega
          have hI9 : own.length ≤ 9000 := by omega
          have hql : own.length + f2 + 1 ≤ 9000 := by omega
          replace cf := Lib.hid cf
          replace hts := Lib.hid hts
          replace hm2 := Lib.hid hm2
          replace hq4 := Lib.hid hq4
          replace hI9 := Lib.hid hI9
          replace hql := Lib.hid hql
          replace q3 := Lib.hid q3
          clear e1 e2 i3 i4 i5 q1 q2 hbd hf hdec cF
          by_cases h10 : S = 10
          · have hnx := hdec2.trans (hd10 h10)
            have hs1 : (S == 10) = true := by rw [beq_iff_eq]; exact h10
            have hfit : (out.length + 1) * Enc.by_ ByteArray ≤ 140737488355328 := by show (out.length + 1) * 16 ≤ _; omega
            have hfit2 : out.length + 1 ≤ 9223372036854775807 := by omega
            have hrep : (strB own).size ≤ 140737488355328 := by rw [strB_len]; have h1 := hI9.out; omega
            have hom : (out ++ [strB own]).length ≤ many := by rw [List.length_append, List.length_singleton]; omega
            replace hfit := Lib.hid hfit
            replace hfit2 := Lib.hid hfit2
            replace hrep := Lib.hid hrep
            replace hom := Lib.hid hom
            replace hnx := Lib.hid hnx
            clear hd10 hds hdec2 i1 i2 h10
            go_wp2_with (first | ((at_builtin; have hgd := x5; clear hgd; go_must (refine wpList_app1 (c := 1) (x := strB own) (cs := [.string (strB own)]) eStr rfl _ _ rfl rfl o5 rfl ⟨rfl, hrep.out⟩ x5.holds hfit.out hfit2.out x5.below.size ?_); intro v6 w6 o6 g6 hw6 _; have x6 := (x5.alloc _).grown g6 (fun k hk => (o5.lt k hk).1) (fun k hk => o5.free k hk))) | ((go_at_call 80; go_must (refine (cf.out _ hwr).mono ?_); rintro e w5 ⟨rfl, hb5⟩; have x5 := xr.step (hb5.mono xr.below.size) (hwr.below hb5); have o5 := oT.ext hwr ⟨hb5, hwr.below hb5, fun _ _ => rfl⟩)))
            go_roundw
            case rel => exact ⟨f2, _, [], _, rfl, rfl, Lib.hid ⟨hq4.out, by have h1 := hql.out; simp; omega, hom.out⟩, x6, o6, hnx⟩
            case measure =>
              have h1 := hts.out
              have h2 := hm2.out
              show (t.extract N t.size).size < t.size
              omega
          · have hnx := hdec2.trans (hds h10)
            have hs1 : (S == 10) = false := by rw [beq_eq_false_iff_ne]; exact h10
            obtain ⟨x, hx⟩ : ∃ x, x = S.toNat.toUInt8 := ⟨_, rfl⟩
            have hS8 : S % 256 = (x.toNat : Int) := by rw [hx, UInt8.toNat_ofNat']; omega
            rw [← hx] at hnx
            have hadd : strB own ++ strB [x] = strB (own ++ [x]) := (strB_add _ _).symm
            have hlim : ¬ 9223372036854775807 < (strB own).size + (strB [x]).size := by
              rw [strB_len, strB_len]
              have h1 := hI9.out
              simp only [List.length_cons, List.length_nil]
              omega
            replace hadd := Lib.hid hadd
            replace hnx := Lib.hid hnx
            generalize strB own = u1 at *
            clear hd10 hds hdec2 i1 i2 h10 hx
            go_wp2_with (first | ((go_at_call 80; go_must (refine (cf.out _ hwr).mono ?_); rintro e w5 ⟨rfl, hb5⟩; have x5 := xr.step (hb5.mono xr.below.size) (hwr.below hb5); have o5 := oT.ext hwr ⟨hb5, hwr.below hb5, fun _ _ => rfl⟩; have x6 := x5.alloc (.cells #[.int .u8 (x.toNat : Int)] 5); have o6 := o5.alloc (.cells #[.int .u8 (x.toNat : Int)] 5))))
            go_roundw
            case rel => exact ⟨f2, out, own ++ [x], _, rfl, congrArg Value.string hadd.out, Lib.hid ⟨hq4.out, by have h1 := hql.out; rw [List.length_append, List.length_singleton]; omega, q3.out⟩, x6, o6, hnx⟩
            case measure =>
              have h1 := hts.out
              have h2 := hm2.out
              show (t.extract N t.size).size < t.size
              omega
      · have hltI : ¬ (out.length : Int) < (many : Int) := by omega
        have hRd : R = if restOk (bys t) then some out else none := by
          rw [hR2.out, hdec.out, decA_done (by omega)]
        replace hRd := Lib.hid hRd
        clear hR2 hdec hbd cF
        by_cases h5 : t.size ≤ 5
        case' neg =>
          have hRn : R = none := by
            rw [hRd.out]
            have : restOk (bys t) = false := by unfold restOk; rw [bys_len, decide_eq_false h5]; rfl
            rw [this]; rfl
          subst hRn
          have h5I : (5 : Int) < (t.size : Int) := by omega
          clear hRd
          go_wp2_with fail
          go_ret2
          exact ⟨rfl, xr.below⟩
        case' pos =>
          have h5I : ¬ (5 : Int) < (t.size : Int) := by omega
          have hRa : R = if (bys t).all (· == 48) then some out else none := by
            rw [hRd.out]
            unfold restOk
            rw [bys_len, decide_eq_true h5, Bool.true_and]
          replace hRa := Lib.hid hRa
          clear hRd
          go_upto_region 17 with fail
          clear h5I hltI
          go_loopw [6, 7, 13] (fun rv bv iv wq => ∃ k : Nat, k ≤ t.size ∧ iv = .int .i64 (k : Int) ∧ Hid (((bys t).take k).all (· == 48) = true) ∧ wq = wr) (fun _ _ iv _ => t.size - (intOf iv).toNat)
          case atStart => exact ⟨0, Nat.zero_le _, rfl, Lib.hid rfl, rfl⟩
          case round =>
            obtain ⟨k, hk, rfl, hal, hwe⟩ := hrel
            subst hwe
            have hk0 : (0 : Int) ≤ (k : Int) := by omega
            by_cases hlk : k < t.size
            · obtain ⟨x, hx⟩ := At.mk (show k < (bys t).length by rw [bys_len]; exact hlk)
              have hsx := bys_at hlk hx
              have hk1 : (k : Int) < (t.size : Int) := by omega
              by_cases h48 : x = 48
              · have hb1 : ((x.toNat : Int) != 48) = false := by rw [h48]; rfl
                have hal2 : ((bys t).take (k + 1)).all (· == 48) = true := by rw [hx.take, List.all_append, hal.out, h48]; rfl
                replace hal2 := Lib.hid hal2
                clear hx h48 hal
                go_wp2_with fail
                go_roundw
                case rel => exact ⟨k + 1, hlk, by go_num, hal2, by first | rfl | trivial⟩
                case measure => simp [intOf]; omega
              · have hb1 : ((x.toNat : Int) != 48) = true := by
                  rw [bne_iff_ne]
                  intro e
                  exact h48 (UInt8.toNat_inj.1 (by show x.toNat = 48; omega))
                have hRn : R = none := by
                  rw [hRa.out]
                  have : (bys t).all (· == 48) = false := by rw [List.all_eq_false]; exact ⟨x, hx.mem, by simpa using h48⟩
                  rw [this]; rfl
                subst hRn
                clear hx h48 hal hRa
                go_wp2_with fail
                go_ret2
                exact ⟨rfl, xr.below⟩
            · have hall : (bys t).all (· == 48) = true := by
                have := hal.out
                rw [List.take_of_length_le (by rw [bys_len]; omega)] at this
                exact this
              have hRy : R = some out := by rw [hRa.out, hall]; rfl
              subst hRy
              have hk1 : ¬ (k : Int) < (t.size : Int) := by omega
              clear hall hRa hal
              go_wp2_with fail
              go_ret2
              exact ⟨_, H4, rfl, xr, oT⟩
end Go.Proofs.YthcfhmebikcfpaaGreatDoor
