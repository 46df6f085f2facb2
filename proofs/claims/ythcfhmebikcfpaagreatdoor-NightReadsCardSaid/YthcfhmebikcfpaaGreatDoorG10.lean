/- Lemmas and walks on which the claims of this seat lean: NIsc NPrg3 NBldK NWrt NMap. -/
import Derived.Test.YthcfhmebikcfpaaGreatDoorG04
import Derived.Test.YthcfhmebikcfpaaGreatDoorG08
import Derived.Test.YthcfhmebikcfpaaGreatDoorG09
import Derived.Lib.OthersKept
import Derived.BigGuard
import Derived.Maps.StringElems
import Derived.Maps.RangeWalk

set_option linter.all false

namespace Go.Proofs.YthcfhmebikcfpaaGreatDoor
open Go.RowKit

attribute [local go_sem] Holds.drew Holds.alloc Holds.drewN WB.holds Oper.semAt_some

set_option maxRecDepth 100000 in
set_option maxHeartbeats 4000000 in
theorem nIsCode_any (v : Value) (l : List Pr) (hl : l.length ≤ 1000) (H : Snap) (w : World) (hw : Holds H w) (hs : Sl H v l) :
    Calls Tryz.prog 50 #[v] w (PostV w (.bool (isCodeA l))) := by
  obtain ⟨a, c, rfl, _, _⟩ := hs.form
  go_enter Tryz.func50, Tryz.ntmps50
  go_wp2
  go_loopw [3, 8] (fun ro i wr => ∃ (k : Nat) (last sum : Int), k ≤ l.length ∧ i = .int .i64 k ∧ ro = .int .i64 (32768 - sum) ∧ Hid (codeGo (l.drop k) last sum = codeGo l (-1) 0) ∧ Hid ((k = 0 ∧ last = -1) ∨ ∃ (j : Nat) (q : Pr), k = j + 1 ∧ At l j q ∧ last = q.s) ∧ (0 ≤ sum ∧ sum ≤ 16384 * k) ∧ Ext w H wr H) (fun _ i _ => l.length - (intOf i).toNat)
  case atStart => exact ⟨0, -1, 0, Nat.zero_le _, rfl, rfl, rfl, Lib.hid (Or.inl ⟨rfl, rfl⟩), by omega, Ext.refl hw⟩
  case round =>
    obtain ⟨k, last, sum, hk, rfl, rfl, hgo, hla, hsu, hxr⟩ := hrel
    have hwr := hxr.holds
    by_cases hlk : k < l.length
    · obtain ⟨p, hp⟩ := At.mk hlk
      obtain ⟨b, o, c', he, ⟨i1, i2⟩, hr1, hr2⟩ := hs.pr hp
      cases he
      have hd : l.drop k = p :: l.drop (k + 1) := by
        rw [List.drop_eq_getElem_cons hlk]
        congr 1
        have := hp; unfold At at this; rw [List.getElem?_eq_getElem hlk] at this; exact Option.some.inj this
      have hgo2 := hgo.out
      rw [hd] at hgo2
      have hk0 : (0 : Int) ≤ (k : Int) := by omega
      have hk1 : (k : Int) < (l.length : Int) := by omega
      have hno : okPr last p = false → isCodeA l = false := fun g => by
        unfold isCodeA
        rw [← hgo2]
        show (match (if okPr last p then codeGo (l.drop (k + 1)) p.s (sum + pow15 p.n) else none) with | none => false | some s => decide (s ≤ 32768)) = false
        rw [g]; rfl
      have hyes : okPr last p = true → codeGo (l.drop (k + 1)) p.s (sum + pow15 p.n) = codeGo l (-1) 0 := fun g => by
        rw [← hgo2]
        show _ = (if okPr last p then codeGo (l.drop (k + 1)) p.s (sum + pow15 p.n) else none)
        rw [g]; rfl
      go_upto_region 5 with fail
      have hn_ : H (World.heap wr).size = none := ((Ext.refl hwr)).holds.none_of_ge (Nat.le_refl _)
      have hxz := (((Ext.refl hwr)).alloc (.cells #[.int .i64 p.s, .int .i64 p.n] 47)).freeze ((Ext.refl hwr)).below.size (heap_alloc_new wr _)
      have hle := Snap.le_put hn_ (.cells #[.int .i64 p.s, .int .i64 p.n] 47 (0, 0))
      have hput := Snap.put_same H (World.heap wr).size (.cells #[.int .i64 p.s, .int .i64 p.n] 47 (0, 0))
      clear hn_
      generalize Snap.put H (World.heap wr).size (.cells #[.int .i64 p.s, .int .i64 p.n] 47 (0, 0)) = H2 at *
      generalize World.alloc wr (.cells #[.int .i64 p.s, .int .i64 p.n] 47) = wz at *
      generalize (World.heap wr).size = cv at *
      have hwz := hxz.holds
      have hv0 : ∀ w, Holds H2 w → w.cell? ⟨cv, 0, none⟩ = some (.int .i64 p.s) := fun w hw => cellH hput hw 0
      have hv1 : ∀ w, Holds H2 w → w.cell? ⟨cv, 1, none⟩ = some (.int .i64 p.n) := fun w hw => cellH hput hw 1
      have hs2 := hs.mono hle
      have hfin : ∀ wq, Below wr.heap.size wr wq → Below w.heap.size w wq := fun wq hq => hxr.below.trans (hq.mono hxr.below.size)
      replace hfin := Lib.hid hfin
      have hbk : ∀ wq, Below wr.heap.size wr wq → Ext w H wq H := fun wq hq => hxr.step (hq.mono hxr.below.size) (hwr.below hq)
      replace hbk := Lib.hid hbk
      have hat := Lib.hid hp
      clear hput hwr hxr hgo hd hgo2 hp hle hr1 hr2
      by_cases s1 : p.s = 10
      · have e1 : (p.s == 10) = true := by rw [beq_iff_eq]; exact s1
        have gs : okSym p.s = true := by unfold okSym; rw [e1]; rfl
        by_cases q1 : p.n < 1
        · have d1 : decide (p.n < 1) = true := decide_eq_true q1
          have hno2 := hno (by unfold okPr within; rw [decide_eq_false (show ¬ (1 ≤ p.n) by omega)]; simp)
          replace hno2 := Lib.hid hno2
          clear hno hyes hat hla
          refine wp_region_quietB H2 (by kernel_rfl) (by kernel_rfl) hwz (fun hne => ?_)
          repeat go_big_quiet_step ((first | fail))
          refine wpQuiet_nil ?_
          rintro ⟨w2, hw2, hb2⟩
          clear hne
          go_wp2_with fail
          go_ret
          exact ⟨ret_bool hno2.out.symm, hfin.out _ (hxz.below.trans (hb2.mono hxz.below.size))⟩
        · have d1 : decide (p.n < 1) = false := decide_eq_false q1
          by_cases q2 : 15 < p.n
          · have d2 : decide (15 < p.n) = true := decide_eq_true q2
            have hno2 := hno (by unfold okPr within; rw [decide_eq_false (show ¬ (p.n ≤ 15) by omega)]; simp)
            replace hno2 := Lib.hid hno2
            clear hno hyes hat hla
            refine wp_region_quietB H2 (by kernel_rfl) (by kernel_rfl) hwz (fun hne => ?_)
            repeat go_big_quiet_step ((first | fail))
            refine wpQuiet_nil ?_
            rintro ⟨w2, hw2, hb2⟩
            clear hne
            go_wp2_with fail
            go_ret
            exact ⟨ret_bool hno2.out.symm, hfin.out _ (hxz.below.trans (hb2.mono hxz.below.size))⟩
          · have d2 : decide (15 < p.n) = false := decide_eq_false q2
            have gw : within p.n 1 15 = true := within_iff.2 (by omega)
            rcases hla.out with ⟨hz, hl1⟩ | ⟨j, q, hz, hq, hl1⟩
            · subst hz
              subst hl1
              have hpw := pow15_bd gw
              have hgo3 := hyes (by unfold okPr; rw [gs, gw, decide_eq_true (by omega)]; rfl)
              replace hgo3 := Lib.hid hgo3
              have hat2 : Hid ((0 + 1 = 0 ∧ p.s = -1) ∨ ∃ (m : Nat) (q : Pr), 0 + 1 = m + 1 ∧ At l m q ∧ p.s = q.s) := Lib.hid (Or.inr ⟨0, p, rfl, hat.out, rfl⟩)
              clear hno hyes hat hla gs gw
              refine wp_region_quietB H2 (by kernel_rfl) (by kernel_rfl) hwz (fun hne => ?_)
              repeat go_big_quiet_step ((first | fail))
              refine wpQuiet_nil ?_
              rintro ⟨w2, hw2, hb2⟩
              clear hne
              have h15 : IntKind.i64.wrap (15 - p.n) = 15 - p.n := IntWalk.i64_in _ (by omega)
              have h0 : 0 ≤ p.n ∧ p.n ≤ 15 := by omega
              go_wp2_with fail
              go_roundw
              case rel => exact ⟨0 + 1, p.s, sum + pow15 p.n, by omega, by go_num, by show Value.int .i64 (wrap64 (32768 - sum - wrap64 (pow15 p.n))) = _; rw [wrap64_in (pow15 p.n) (by omega) (by omega), wrap64_in _ (by omega) (by omega)]; congr 1; omega, hgo3, hat2, by omega, hbk.out _ (hxz.below.trans (hb2.mono hxz.below.size))⟩
              case measure => simp [intOf]; omega
            · subst hz
              have d3 : decide ((0 : Int) < ((j + 1 : Nat) : Int)) = true := decide_eq_true (by omega)
              have hj1 : IntKind.i64.wrap (((j + 1 : Nat) : Int) - 1) = (j : Int) := by rw [IntWalk.i64_in _ (by omega)]; omega
              have hj2 : (0 : Int) ≤ (j : Int) := by omega
              have hj3 : (j : Int) < (l.length : Int) := by omega
              obtain ⟨b4, o4, c4, he, ⟨i3, i4⟩, hr3, hr4⟩ := hs2.pr hq
              cases he
              by_cases q4 : p.s ≤ q.s
              · have d4 : decide (p.s ≤ q.s) = true := decide_eq_true q4
                have hno2 := hno (by unfold okPr; rw [decide_eq_false (show ¬ (last < p.s) by omega)]; rfl)
                replace hno2 := Lib.hid hno2
                clear hno hyes hat hla
                refine wp_region_quietB H2 (by kernel_rfl) (by kernel_rfl) hwz (fun hne => ?_)
                repeat go_big_quiet_step ((first | fail))
                refine wpQuiet_nil ?_
                rintro ⟨w2, hw2, hb2⟩
                clear hne
                go_wp2_with fail
                go_ret
                exact ⟨ret_bool hno2.out.symm, hfin.out _ (hxz.below.trans (hb2.mono hxz.below.size))⟩
              · have d4 : decide (p.s ≤ q.s) = false := decide_eq_false q4
                have hpw := pow15_bd gw
                have hgo3 := hyes (by unfold okPr; rw [gs, gw, decide_eq_true (by omega)]; rfl)
                replace hgo3 := Lib.hid hgo3
                have hat2 : Hid ((j + 1 + 1 = 0 ∧ p.s = -1) ∨ ∃ (m : Nat) (q : Pr), j + 1 + 1 = m + 1 ∧ At l m q ∧ p.s = q.s) := Lib.hid (Or.inr ⟨j + 1, p, rfl, hat.out, rfl⟩)
                clear hno hyes hat hla gs gw
                refine wp_region_quietB H2 (by kernel_rfl) (by kernel_rfl) hwz (fun hne => ?_)
                repeat go_big_quiet_step ((first | fail))
                refine wpQuiet_nil ?_
                rintro ⟨w2, hw2, hb2⟩
                clear hne
                have h15 : IntKind.i64.wrap (15 - p.n) = 15 - p.n := IntWalk.i64_in _ (by omega)
                have h0 : 0 ≤ p.n ∧ p.n ≤ 15 := by omega
                go_wp2_with fail
                go_roundw
                case rel => exact ⟨j + 1 + 1, p.s, sum + pow15 p.n, by omega, by go_num, by show Value.int .i64 (wrap64 (32768 - sum - wrap64 (pow15 p.n))) = _; rw [wrap64_in (pow15 p.n) (by omega) (by omega), wrap64_in _ (by omega) (by omega)]; congr 1; omega, hgo3, hat2, by omega, hbk.out _ (hxz.below.trans (hb2.mono hxz.below.size))⟩
                case measure => simp [intOf]; omega
      · have e1 : (p.s == 10) = false := by rw [beq_eq_false_iff_ne]; exact s1
        have e1b : (p.s != 10) = true := by rw [bne_iff_ne]; exact s1
        by_cases s2 : p.s < 32
        · have e2 : decide (p.s < 32) = true := decide_eq_true s2
          have hno2 := hno (by unfold okPr okSym within; rw [e1, decide_eq_false (show ¬ (32 ≤ p.s) by omega)]; simp)
          replace hno2 := Lib.hid hno2
          clear hno hyes hat hla s1 s2
          refine wp_region_quietB H2 (by kernel_rfl) (by kernel_rfl) hwz (fun hne => ?_)
          repeat go_big_quiet_step ((first | fail))
          refine wpQuiet_nil ?_
          rintro ⟨w2, hw2, hb2⟩
          clear hne
          go_wp2_with fail
          go_ret
          exact ⟨ret_bool hno2.out.symm, hfin.out _ (hxz.below.trans (hb2.mono hxz.below.size))⟩
        · have e2 : decide (p.s < 32) = false := decide_eq_false s2
          by_cases s3 : 126 < p.s
          · have e3 : decide (126 < p.s) = true := decide_eq_true s3
            have hno2 := hno (by unfold okPr okSym within; rw [e1, decide_eq_false (show ¬ (p.s ≤ 126) by omega)]; simp)
            replace hno2 := Lib.hid hno2
            clear hno hyes hat hla s1 s2 s3
            refine wp_region_quietB H2 (by kernel_rfl) (by kernel_rfl) hwz (fun hne => ?_)
            repeat go_big_quiet_step ((first | fail))
            refine wpQuiet_nil ?_
            rintro ⟨w2, hw2, hb2⟩
            clear hne
            go_wp2_with fail
            go_ret
            exact ⟨ret_bool hno2.out.symm, hfin.out _ (hxz.below.trans (hb2.mono hxz.below.size))⟩
          · have e3 : decide (126 < p.s) = false := decide_eq_false s3
            have gs : okSym p.s = true := by unfold okSym; rw [within_iff.2 (by omega), Bool.or_true]
            have hm1 : (-1 : Int) < p.s := by omega
            clear s1 s2 s3
            by_cases q1 : p.n < 1
            · have d1 : decide (p.n < 1) = true := decide_eq_true q1
              have hno2 := hno (by unfold okPr within; rw [decide_eq_false (show ¬ (1 ≤ p.n) by omega)]; simp)
              replace hno2 := Lib.hid hno2
              clear hno hyes hat hla
              refine wp_region_quietB H2 (by kernel_rfl) (by kernel_rfl) hwz (fun hne => ?_)
              repeat go_big_quiet_step ((first | fail))
              refine wpQuiet_nil ?_
              rintro ⟨w2, hw2, hb2⟩
              clear hne
              go_wp2_with fail
              go_ret
              exact ⟨ret_bool hno2.out.symm, hfin.out _ (hxz.below.trans (hb2.mono hxz.below.size))⟩
            · have d1 : decide (p.n < 1) = false := decide_eq_false q1
              by_cases q2 : 15 < p.n
              · have d2 : decide (15 < p.n) = true := decide_eq_true q2
                have hno2 := hno (by unfold okPr within; rw [decide_eq_false (show ¬ (p.n ≤ 15) by omega)]; simp)
                replace hno2 := Lib.hid hno2
                clear hno hyes hat hla
                refine wp_region_quietB H2 (by kernel_rfl) (by kernel_rfl) hwz (fun hne => ?_)
                repeat go_big_quiet_step ((first | fail))
                refine wpQuiet_nil ?_
                rintro ⟨w2, hw2, hb2⟩
                clear hne
                go_wp2_with fail
                go_ret
                exact ⟨ret_bool hno2.out.symm, hfin.out _ (hxz.below.trans (hb2.mono hxz.below.size))⟩
              · have d2 : decide (15 < p.n) = false := decide_eq_false q2
                have gw : within p.n 1 15 = true := within_iff.2 (by omega)
                rcases hla.out with ⟨hz, hl1⟩ | ⟨j, q, hz, hq, hl1⟩
                · subst hz
                  subst hl1
                  have hpw := pow15_bd gw
                  have hgo3 := hyes (by unfold okPr; rw [gs, gw, decide_eq_true (by omega)]; rfl)
                  replace hgo3 := Lib.hid hgo3
                  have hat2 : Hid ((0 + 1 = 0 ∧ p.s = -1) ∨ ∃ (m : Nat) (q : Pr), 0 + 1 = m + 1 ∧ At l m q ∧ p.s = q.s) := Lib.hid (Or.inr ⟨0, p, rfl, hat.out, rfl⟩)
                  clear hno hyes hat hla gs gw
                  refine wp_region_quietB H2 (by kernel_rfl) (by kernel_rfl) hwz (fun hne => ?_)
                  repeat go_big_quiet_step ((first | fail))
                  refine wpQuiet_nil ?_
                  rintro ⟨w2, hw2, hb2⟩
                  clear hne
                  have h15 : IntKind.i64.wrap (15 - p.n) = 15 - p.n := IntWalk.i64_in _ (by omega)
                  have h0 : 0 ≤ p.n ∧ p.n ≤ 15 := by omega
                  go_wp2_with fail
                  go_roundw
                  case rel => exact ⟨0 + 1, p.s, sum + pow15 p.n, by omega, by go_num, by show Value.int .i64 (wrap64 (32768 - sum - wrap64 (pow15 p.n))) = _; rw [wrap64_in (pow15 p.n) (by omega) (by omega), wrap64_in _ (by omega) (by omega)]; congr 1; omega, hgo3, hat2, by omega, hbk.out _ (hxz.below.trans (hb2.mono hxz.below.size))⟩
                  case measure => simp [intOf]; omega
                · subst hz
                  have d3 : decide ((0 : Int) < ((j + 1 : Nat) : Int)) = true := decide_eq_true (by omega)
                  have hj1 : IntKind.i64.wrap (((j + 1 : Nat) : Int) - 1) = (j : Int) := by rw [IntWalk.i64_in _ (by omega)]; omega
                  have hj2 : (0 : Int) ≤ (j : Int) := by omega
                  have hj3 : (j : Int) < (l.length : Int) := by omega
                  obtain ⟨b4, o4, c4, he, ⟨i3, i4⟩, hr3, hr4⟩ := hs2.pr hq
                  cases he
                  by_cases q4 : p.s ≤ q.s
                  · have d4 : decide (p.s ≤ q.s) = true := decide_eq_true q4
                    have hno2 := hno (by unfold okPr; rw [decide_eq_false (show ¬ (last < p.s) by omega)]; rfl)
                    replace hno2 := Lib.hid hno2
                    clear hno hyes hat hla
                    refine wp_region_quietB H2 (by kernel_rfl) (by kernel_rfl) hwz (fun hne => ?_)
                    repeat go_big_quiet_step ((first | fail))
                    refine wpQuiet_nil ?_
                    rintro ⟨w2, hw2, hb2⟩
                    clear hne
                    go_wp2_with fail
                    go_ret
                    exact ⟨ret_bool hno2.out.symm, hfin.out _ (hxz.below.trans (hb2.mono hxz.below.size))⟩
                  · have d4 : decide (p.s ≤ q.s) = false := decide_eq_false q4
                    have hpw := pow15_bd gw
                    have hgo3 := hyes (by unfold okPr; rw [gs, gw, decide_eq_true (by omega)]; rfl)
                    replace hgo3 := Lib.hid hgo3
                    have hat2 : Hid ((j + 1 + 1 = 0 ∧ p.s = -1) ∨ ∃ (m : Nat) (q : Pr), j + 1 + 1 = m + 1 ∧ At l m q ∧ p.s = q.s) := Lib.hid (Or.inr ⟨j + 1, p, rfl, hat.out, rfl⟩)
                    clear hno hyes hat hla gs gw
                    refine wp_region_quietB H2 (by kernel_rfl) (by kernel_rfl) hwz (fun hne => ?_)
                    repeat go_big_quiet_step ((first | fail))
                    refine wpQuiet_nil ?_
                    rintro ⟨w2, hw2, hb2⟩
                    clear hne
                    have h15 : IntKind.i64.wrap (15 - p.n) = 15 - p.n := IntWalk.i64_in _ (by omega)
                    have h0 : 0 ≤ p.n ∧ p.n ≤ 15 := by omega
                    go_wp2_with fail
                    go_roundw
                    case rel => exact ⟨j + 1 + 1, p.s, sum + pow15 p.n, by omega, by go_num, by show Value.int .i64 (wrap64 (32768 - sum - wrap64 (pow15 p.n))) = _; rw [wrap64_in (pow15 p.n) (by omega) (by omega), wrap64_in _ (by omega) (by omega)]; congr 1; omega, hgo3, hat2, by omega, hbk.out _ (hxz.below.trans (hb2.mono hxz.below.size))⟩
                    case measure => simp [intOf]; omega
    · go_wp2_with fail
      go_ret
      have h0 := hgo.out
      rw [List.drop_of_length_le (by omega)] at h0
      have e : isCodeA l = decide (sum ≤ 32768) := by unfold isCodeA; rw [← h0]; rfl
      exact ⟨ret_bool (by rw [e, decide_eq_decide] <;> omega), hxr.below⟩
end Go.Proofs.YthcfhmebikcfpaaGreatDoor

namespace Go.Proofs.YthcfhmebikcfpaaGreatDoor
open Go.RowKit

attribute [local go_sem] Holds.drew Holds.alloc Holds.drewN WB.holds Oper.semAt_some

def lensR (l : List ByteArray) : List Pr := if areE l = 0 then lensA (msgOf l) else []
theorem lensOf_wts (m : List UInt8) : lensOf (wtsA m) = lensA m := rfl
set_option maxRecDepth 100000 in
theorem nLengths_any (v : Value) (l : List ByteArray) (H : Snap) (w : World) (hw : Holds H w) (hs : Sl H v l) (hz : ∀ s ∈ l, s.size ≤ 1000000) :
    Calls Tryz.prog 13 #[v] w (PostOE w H 47 (lensR l) (areE l)) := by
  have hc := nWeightsT_any v l H w hw hs hz
  by_cases h : areE l = 0
  · have e : lensR l = lensOf (wtsA (msgOf l)) := by unfold lensR; rw [if_pos h, lensOf_wts]
    have ew : wtsR l = wtsA (msgOf l) := by unfold wtsR; rw [if_pos h]
    have F := msg_ok h
    have h1 := wts_few F.1
    have h2 : (wsOf (wtsA (msgOf l))).sum ≤ 100000 := by
      have := wsA_sum (msgOf l)
      have h3 := F.2
      show (wsA (msgOf l)).sum ≤ _
      omega
    have h3 : ∀ p ∈ wtsA (msgOf l), 0 ≤ p.n := fun p hp => by
      obtain ⟨c, _, _, rfl⟩ := wts_mem hp
      show (0 : Int) ≤ ((cnt (msgOf l) c : Nat) : Int)
      omega
    rw [h, ew] at hc
    rw [e, h]
    clear e h ew F
    generalize wtsA (msgOf l) = ws at *
    replace hc := Lib.hid hc
    go_enter Tryz.func13, Tryz.ntmps13
    go_wp2_with (first | ((have hgd := x3; clear hgd; go_at_call 43; refine (nLengthsOf_any _ ws (by omega) h3 h2 H3 _ x3.holds s3).mono ?_; rintro e w4 ⟨v4, H4, rfl, x4, o4⟩)) | ((go_at_call 11; refine hc.out.mono ?_; rintro e w2 ⟨v2, H2, rfl, x2, o2⟩; obtain ⟨H3, x3, _, s3, _⟩ := o2.close x2; obtain ⟨a2, c2, rfl, _, _⟩ := o2.form)))
    go_ret2
    exact ⟨v4, H4, rfl, x3.trans x4, o4.weaken x3.below.size⟩
  · have e : lensR l = [] := by unfold lensR; rw [if_neg h]
    have ew : wtsR l = [] := by unfold wtsR; rw [if_neg h]
    have hb : (areE l == 0) = false := by rw [beq_eq_false_iff_ne]; exact h
    have hb2 : (areE l != 0) = true := by rw [bne_iff_ne]; exact h
    rw [ew] at hc
    rw [e]
    generalize areE l = n at *
    clear e h ew
    replace hc := Lib.hid hc
    go_enter Tryz.func13, Tryz.ntmps13
    go_wp2_with (first | ((go_at_call 11; refine hc.out.mono ?_; rintro e w2 ⟨v2, H2, rfl, x2, o2⟩)))
    go_ret2
    exact ⟨_, H2, rfl, x2, Own.nil _ _ _ _⟩

/-! ### The bits of a message -/

theorem look_code {l m : List Pr} (hr : (l.map Pr.s).Pairwise (· < ·)) (hp : m.Perm l) (k : Int) : lookKV (codeKV l m) k = strB (codeOf l k) ∧ hasKV (codeKV l m) k = (findS l k).isSome := by
  have hnd := codeKV_keys (l := l) hr hp
  by_cases h : ∃ p ∈ l, p.s = k
  · obtain ⟨p, hpm, hpk⟩ := h
    obtain ⟨i, hi, e⟩ := List.getElem_of_mem hpm
    have hat : At l i p := by show l[i]? = _; rw [List.getElem?_eq_getElem hi, e]
    have hf := find_at hr hat
    rw [hpk] at hf
    have hm : (p.s, strB (codeOf l p.s)) ∈ codeKV l m := List.mem_map.2 ⟨p, hp.mem_iff.2 hpm, rfl⟩
    constructor
    · unfold lookKV
      cases hfd : (codeKV l m).find? (fun kv => kv.1 == k) with
      | none => rw [List.find?_eq_none] at hfd; exact absurd (by simpa using hpk) (hfd _ hm)
      | some y =>
        have h1 := List.mem_of_find?_eq_some hfd
        have h2 := List.find?_some hfd
        have h2 : y.1 = k := by simpa using h2
        have := kv_unique hnd h1 hm (by rw [h2, hpk])
        show y.2 = _
        rw [this, ← hpk]
    · rw [hf]
      unfold hasKV
      rw [List.any_eq_true.2 ⟨_, hm, by simpa using hpk⟩]
      rfl
  · have hno : ∀ p ∈ l, p.s ≠ k := fun p hpm e => h ⟨p, hpm, e⟩
    have hf := findS_none hno
    have hno2 : ∀ kv ∈ codeKV l m, kv.1 ≠ k := fun kv hkv e => by
      obtain ⟨p, hpm, rfl⟩ := List.mem_map.1 hkv
      exact hno p (hp.mem_iff.1 hpm) e
    constructor
    · unfold lookKV codeOf
      rw [hf, List.find?_eq_none.2 fun x hx => by have := hno2 x hx; simpa using this]
      rfl
    · rw [hf]
      unfold hasKV
      rw [List.any_eq_false.2 fun x hx => by have := hno2 x hx; simpa using this]
      rfl
theorem codeOf_len {l : List Pr} (h : Bits15 l) (s : Int) : (codeOf l s).length ≤ 15 := by
  unfold codeOf
  split
  · exact Nat.zero_le _
  · rename_i i hi
    rw [codeAt_len]
    by_cases hil : i < l.length
    · exact (h.at hil).2
    · unfold bitsN
      rw [List.getD_eq_getElem?_getD, List.getElem?_eq_none (by omega)]
      decide
theorem bitsA_len {l : List Pr} (h : Bits15 l) (m : List UInt8) : (bitsA l m).length ≤ 15 * m.length := by
  induction m with
  | nil => exact Nat.zero_le _
  | cons b m ih =>
    have := codeOf_len h (b.toNat : Int)
    unfold bitsA at *
    rw [List.flatMap_cons, List.length_append, List.length_cons]
    omega

set_option maxRecDepth 100000 in
theorem nBits_any (MB : Nat) (l : List Pr) (C : IsCode l) (s : ByteArray) (hsz : s.size ≤ 60000) (H : Snap) (w : World) (hw : Holds H w) (hM : w.heap[MB]? = some (mapKV (codeKV l (sortA l)))) :
    Calls Tryz.prog 34 #[.map (some MB), .string s] w (PostV w (.string (strB (bitsA l (bys s))))) := by
  have hMl : MB < w.heap.size := (Array.getElem?_eq_some_iff.1 hM).1
  have hkeys := codeKV_keys (l := l) C.rise (sortA_perm l)
  have hlook := look_code C.rise (sortA_perm l)
  have hcl := codeOf_len C.b15
  have hbl := bitsA_len C.b15
  go_enter Tryz.func34, Tryz.ntmps34
  go_wp2
  go_loopw [9] (fun i wr => ∃ k : Nat, k ≤ s.size ∧ i = .int .i64 (k : Int) ∧ Bu w.heap.size w.heap.size (bitsA l ((bys s).take k)) wr ∧ Below w.heap.size w wr) (fun i _ => s.size - (intOf i).toNat)
  case atStart => exact ⟨0, Nat.zero_le _, rfl, Bu.fresh w, (Below.refl _ _).alloc (Nat.le_refl _) _⟩
  case round =>
    obtain ⟨k, hk, rfl, hbu, hbr⟩ := hrel
    have hk0 : (0 : Int) ≤ (k : Int) := by omega
    by_cases hlk : k < s.size
    · obtain ⟨x, hx⟩ := At.mk (show k < (bys s).length from hlk)
      have hk1 : (k : Int) < (s.size : Int) := by omega
      have hsk : s[k] = x := by
        have h1 : (bys s)[k]? = some x := hx
        rw [List.getElem?_eq_getElem (show k < (bys s).length from hlk)] at h1
        exact Option.some.inj h1
      have hx256 : x.toNat < 256 := x.toNat_lt
      have hwx : wrap64 (x.toNat : Int) = (x.toNat : Int) := wrap64_in _ (by omega) (by omega)
      have hMr := (hbr.block MB hMl).trans hM
      have hrun := (run_lookKV hMr hkeys (x.toNat : Int)).1
      rw [(hlook _).1] at hrun
      have hnext : bitsA l ((bys s).take (k + 1)) = bitsA l ((bys s).take k) ++ codeOf l (x.toNat : Int) := by rw [hx.take, bitsA_snoc]
      have h1 := hcl (x.toNat : Int)
      have h2 := hbl ((bys s).take k)
      rw [List.length_take, bys_len] at h2
      have hsum : (bitsA l ((bys s).take k)).length + (strB (codeOf l (x.toNat : Int))).size ≤ 1000000 := by
        show _ + (codeOf l (x.toNat : Int)).length ≤ _
        omega
      replace hnext := Lib.hid hnext
      replace hsum := Lib.hid hsum
      clear hMr h1 h2
      go_wp2_with (first | ((go_at_call 30; go_must (refine (bu_string _ hbu hsum.out hbr.size).mono ?_); rintro e w2 ⟨rfl, hbu2, hb2⟩)))
      go_roundw
      case rel => exact ⟨k + 1, by omega, by go_num, by rw [hnext.out]; exact hbu2, hbr.trans hb2⟩
      case measure => simp [intOf] <;> omega
    · have hfin : (bys s).take k = bys s := List.take_of_length_le (by rw [bys_len]; omega)
      rw [hfin] at hbu
      go_wp2_with (first | (go_at_call 36; refine (bu_str hbu hbr.size).mono ?_; rintro e w2 ⟨rfl, hb2⟩))
      go_ret
      exact ⟨rfl, hbr.trans hb2⟩

def bitsR (l : List ByteArray) : Int := if areE l = 0 then ((bitsA (lensA (msgOf l)) (msgOf l)).length : Int) else 0
set_option maxRecDepth 100000 in
theorem nBitsT_any (v : Value) (l : List ByteArray) (H : Snap) (w : World) (hw : Holds H w) (hs : Sl H v l) (hz : ∀ s ∈ l, s.size ≤ 1000000) :
    Calls Tryz.prog 17 #[v] w (PostV w (.tuple #[.int .i64 (bitsR l), .int .i64 (areE l)])) := by
  have hc := nLengths_any v l H w hw hs hz
  by_cases h : areE l = 0
  · have e : bitsR l = ((bitsA (lensA (msgOf l)) (msgOf l)).length : Int) := by unfold bitsR; rw [if_pos h]
    have ew : lensR l = lensA (msgOf l) := by unfold lensR; rw [if_pos h]
    have F := msg_ok h
    have C := lens_code F
    have h1 := wts_few F.1
    rw [← lensA_len] at h1
    have hl := (areE_zero h).1
    have hsize := areE_size h
    have hml := msgOf_len h
    have hsB : (strB (bitsA (lensA (msgOf l)) (bys (strB (msgOf l))))).size = (bitsA (lensA (msgOf l)) (msgOf l)).length := rfl
    rw [h, ew] at hc
    rw [e, h]
    clear e h ew F
    generalize lensA (msgOf l) = ls at *
    have hsm : (strB (msgOf l)).size ≤ 60000 := Nat.le_trans hml (by decide)
    replace hc := Lib.hid hc
    replace hsB := Lib.hid hsB
    go_enter Tryz.func17, Tryz.ntmps17
    go_wp2_with (first | ((have hgd := hw5; clear hgd; go_at_call 34; go_must (refine (nBits_any MB ls C _ hsm H3 _ hw5 ((hb5.block MB (Array.getElem?_eq_some_iff.1 hM).1).trans hM)).mono ?_); rintro e w6 ⟨rfl, hb6⟩; have x6 := x5.below.trans (hb6.mono x5.below.size))) | ((have hgd := x4; clear hgd; go_at_call 35; go_must (refine (nMessage_any _ l H3 _ x4.holds (hs.mono (x3.le hw)) (by omega) hsize).mono ?_); rintro e w5 ⟨rfl, hb5⟩; have hw5 := x4.holds.below hb5; have x5 := x4.step (hb5.mono x4.below.size) hw5)) | ((have hgd := x3; clear hgd; go_at_call 33; go_must (refine (nCoded_any _ ls (by omega) C H3 _ x3.holds s3).mono ?_); rintro e w4 ⟨MB, rfl, y4, hMs, hM⟩; have x4 := x3.trans y4)) | ((go_at_call 13; refine hc.out.mono ?_; rintro e w2 ⟨v2, H2, rfl, x2, o2⟩; obtain ⟨H3, x3, _, s3, _⟩ := o2.close x2; obtain ⟨a2, c2, rfl, _, _⟩ := o2.form)))
    go_ret2
    exact ⟨by rw [← hsB.out]; rfl, x6⟩
  · have e : bitsR l = 0 := by unfold bitsR; rw [if_neg h]
    have ew : lensR l = [] := by unfold lensR; rw [if_neg h]
    have hb : (areE l == 0) = false := by rw [beq_eq_false_iff_ne]; exact h
    have hb2 : (areE l != 0) = true := by rw [bne_iff_ne]; exact h
    rw [ew] at hc
    rw [e]
    generalize areE l = n at *
    clear e h ew
    replace hc := Lib.hid hc
    go_enter Tryz.func17, Tryz.ntmps17
    go_wp2_with (first | ((go_at_call 13; refine hc.out.mono ?_; rintro e w2 ⟨v2, H2, rfl, x2, o2⟩)))
    go_ret2
    exact ⟨rfl, x2.below⟩

set_option maxRecDepth 100000 in
theorem nCode_any (v : Value) (l : List Pr) (hl : l.length ≤ 256) (s : Int) (H : Snap) (w : World) (hw : Holds H w) (hs : Sl H v l) :
    Calls Tryz.prog 29 #[v, .int .i64 s] w (PostV w (.tuple #[.string (codeR l s), .int .i64 (codeE l s)])) := by
  have hic := nIsCode_any v l (by omega) H w hw hs
  cases g : isCodeA l
  · rw [g] at hic
    have e1 : codeR l s = ⟨#[]⟩ := by unfold codeR; rw [g]; rfl
    have e2 : codeE l s = 1 := by unfold codeE; rw [g]; rfl
    rw [e1, e2]
    replace hic := Lib.hid hic
    go_enter Tryz.func29, Tryz.ntmps29
    go_wp2_with (first | (go_at_call 50; refine hic.out.mono ?_; rintro e w2 ⟨rfl, hb2⟩))
    go_ret2
    exact ⟨rfl, hb2⟩
  · rw [g] at hic
    have C := isCodeA_code g
    have e1 : codeR l s = strB (codeOf l s) := by unfold codeR codeOf; rw [g]; cases findS l s <;> rfl
    have e2 : codeE l s = (if (findS l s).isSome then 0 else 3) := by unfold codeE; rw [g]; rfl
    have hkeys := codeKV_keys (l := l) C.rise (sortA_perm l)
    have hlook := look_code C.rise (sortA_perm l) s
    rw [e1, e2]
    replace hic := Lib.hid hic
    clear g e1 e2
    cases hf : (findS l s).isSome with
    | true =>
      rw [hf] at hlook
      go_enter Tryz.func29, Tryz.ntmps29
      go_wp2_with (first | ((have hgd := hw2; clear hgd; go_at_call 33; go_must (refine (nCoded_any _ l hl C H _ hw2 hs).mono ?_); rintro e w4 ⟨MB, rfl, y4, hMs, hM⟩; have hrun := (run_lookKV hM hkeys s).2; rw [hlook.1, hlook.2] at hrun; have x4 := x2.trans y4)) | ((go_at_call 50; refine hic.out.mono ?_; rintro e w2 ⟨rfl, hb2⟩; have hw2 := hw.below hb2; have x2 := (Ext.refl hw).step hb2 hw2)))
      go_ret2
      exact ⟨rfl, x4.below⟩
    | false =>
      rw [hf] at hlook
      have h0 : codeOf l s = [] := by
        unfold codeOf
        cases h1 : findS l s with
        | none => rfl
        | some i => rw [h1] at hf; cases hf
      rw [h0] at hlook ⊢
      go_enter Tryz.func29, Tryz.ntmps29
      go_wp2_with (first | ((have hgd := hw2; clear hgd; go_at_call 33; go_must (refine (nCoded_any _ l hl C H _ hw2 hs).mono ?_); rintro e w4 ⟨MB, rfl, y4, hMs, hM⟩; have hrun := (run_lookKV hM hkeys s).2; rw [hlook.1, hlook.2] at hrun; have x4 := x2.trans y4)) | ((go_at_call 50; refine hic.out.mono ?_; rintro e w2 ⟨rfl, hb2⟩; have hw2 := hw.below hb2; have x2 := (Ext.refl hw).step hb2 hw2)))
      go_ret2
      exact ⟨rfl, x4.below⟩
end Go.Proofs.YthcfhmebikcfpaaGreatDoor

namespace Go.Proofs.YthcfhmebikcfpaaGreatDoor
open Go.RowKit

theorem ownsRow_kind {w : World} {B n k : Nat} {e : TypeId} {v : Value} {xs : List Value} (h : w.ownsRow B e k v n xs) : ∀ g, v.ownBlock = some g → ∃ c fz, w.heap[g]? = some (.cells c e fz) := by
  intro g hg
  rcases h.2 with ⟨rfl, _⟩ | ⟨g', cap, cur, rfl, _, hc, _⟩
  · simp [Value.ownBlock] at hg
  · simp [Value.ownBlock] at hg
    subst hg
    exact ⟨cur, _, hc⟩
theorem bld_checkK (B b : Nat) (bs : List Value) (w : World) (h : Lib.IsBuilder 51 5 B b bs w) :
    Calls Tryz.prog 51 #[.pointer (some ⟨b, 0, none⟩)] w fun e w' => e = .returned (.tuple #[]) ∧ (Lib.BuilderAt 51 5 B b (.pointer (some ⟨b, 0, none⟩)) bs w' ∧ Below B w w' ∧ Lib.OthersKept 5 (some b) w w') := by
  rcases h with h | h
  · refine (bld_check_fresh b w h.cell0 h.shape h.frozen0).mono ?_
    rintro e w' ⟨rfl, rfl⟩
    exact ⟨rfl, h.used _, (Below.refl B w).setCell (p := ⟨b, 0, none⟩) h.1 _, (Lib.OthersKept.refl _ _ w).setCell ⟨b, 0, none⟩ rfl _⟩
  · refine (bld_check_used b w h.cell0).mono ?_
    rintro e w' ⟨rfl, rfl⟩
    exact ⟨rfl, h, Below.refl B _, Lib.OthersKept.refl _ _ _⟩

set_option maxHeartbeats 2000000 in
set_option maxRecDepth 100000 in
theorem bld_byteK (B b : Nat) (bs : List Value) (c : Int) (w : World) (h : Lib.IsBuilder 51 5 B b bs w) (hlen : bs.length + 1 ≤ 140737488355328) (hBw : B ≤ w.heap.size) :
    Calls Tryz.prog 32 #[.pointer (some ⟨b, 0, none⟩), .int .u8 c] w fun e w' => e = .returned .nilIface ∧ (Lib.BuilderAt 51 5 B b (.pointer (some ⟨b, 0, none⟩)) (bs ++ [.int .u8 c]) w' ∧ Below B w w' ∧ Lib.OthersKept 5 (some b) w w') := by
  obtain ⟨i0, hi, hz0, hz1, hz2⟩ := info_parts byte_info
  go_enter Tryz.func32, Tryz.ntmps32
  go_wp2_with (go_at_call 51; refine (bld_checkK B b bs _ h).mono ?_)
  rintro e w1 ⟨rfl, h1, hb1, hk1⟩
  obtain ⟨hB, v, hbk, hown, hne⟩ := h1
  have c0 : w1.cell? ⟨b, 0, none⟩ = some (.pointer (some ⟨b, 0, none⟩)) := by rw [Lib.cell_of_heap hbk]; rfl
  have c1 : w1.cell? ⟨b, 1, none⟩ = some v := by rw [Lib.cell_of_heap hbk]; rfl
  go_wp2_with (at_builtin; refine wpList_append_own _ rfl _ _ 49 rfl B 5 i0 (.int .u8 0) 1 1 Tryz.underlying49 hi hz0 hz1 hz2 rfl (by decide) _ _ _ rfl (hown.alloc _) ⟨w1.heap.size, 0, none⟩ 1 1 [.int .u8 c] rfl rfl ?c1 ?c2 ?c3 ?c4 ?c5 ?_)
  case c1 =>
    intro j u hj
    match j, hj with
    | 0, hj => simp at hj; subst hj; simp [Addr.add]
  case c2 => intro u hu; simp at hu; subst hu; rfl
  case c3 => unfold maxLen; omega
  case c4 => omega
  case c5 => have := hb1.size; simp; omega
  intro v' w2 hown' hgrow _
  have hlt : b < w1.heap.size := by
    rcases Nat.lt_or_ge b w1.heap.size with h' | h'
    · exact h'
    · simp [Array.getElem?_eq_none h'] at hbk
  have hb2 : w2.heap[b]? = some (.cells #[.pointer (some ⟨b, 0, none⟩), v] 51 (0, 0)) := by
    rw [hgrow.block b (by simp; omega) (fun e => hne e.symm), Lib.alloc_old w1 _ b hlt]
    exact hbk
  have d0 : w2.cell? ⟨b, 0, none⟩ = some (.pointer (some ⟨b, 0, none⟩)) := by rw [Lib.cell_of_heap hb2]; rfl
  have d1 : w2.cell? ⟨b, 1, none⟩ = some v := by rw [Lib.cell_of_heap hb2]; rfl
  have f1 : w2.frozen? ⟨b, 1, none⟩ = false := Lib.frozen_of_heap hb2 1
  obtain ⟨g, cap, rfl⟩ : ∃ g cap, v' = .slice (some ⟨g, 0, none⟩) (bs.length + 1) cap := by
    rcases hown'.2 with ⟨_, h0⟩ | ⟨g, cap, cur, hv, _⟩
    · omega
    · exact ⟨g, cap, hv⟩
  go_wp2
  go_ret
  refine ⟨rfl, ?_, ?_, ((hk1.alloc _).grown hgrow (ownsRow_kind (hown.alloc _))).setCell ⟨b, 1, none⟩ rfl _⟩
  · exact Lib.BuilderAt.put (T := 51) (e := 5) hB hb2 (bs' := bs ++ [.int .u8 c]) (by simpa using hown') (by decide)
  · exact ((hb1.alloc (by have := hb1.size; omega) _).grown hgrow (by have := hb1.size; simp; omega) (fun k hk => (hown.lt k hk).1)).setCell (p := ⟨b, 1, none⟩) hB _

/-- A byte is written; a cell of a block that is no row of bytes is kept. -/
theorem bu_byteK {B b : Nat} {l : List UInt8} {w : World} (x : UInt8) (h : Bu B b l w) (hl : l.length ≤ 1000000) (hB : B ≤ w.heap.size) :
    Calls Tryz.prog 32 #[.pointer (some ⟨b, 0, none⟩), .int .u8 (x.toNat : Int)] w fun e w' => e = .returned .nilIface ∧ Bu B b (l ++ [x]) w' ∧ Below B w w' ∧ ∀ g cs T, w.heap[g]? = some (.cells cs T (0, 0)) → g ≠ b → T ≠ 5 → w'.heap[g]? = some (.cells cs T (0, 0)) := by
  refine (bld_byteK B b _ _ w h (by rw [Lib.byteCells_length]; omega) hB).mono ?_
  rintro e w' ⟨he, h1, h2, h3⟩
  refine ⟨he, Or.inr ?_, h2, fun g cs T hg hne hT => ?_⟩
  · have : Lib.byteCells l ++ [.int .u8 (x.toNat : Int)] = Lib.byteCells (l ++ [x]) := by rw [Lib.byteCells_append]; rfl
    rw [this] at h1
    exact h1
  · exact h3 g _ hg (by simpa using hne) (fun c fz e => by simp at e; exact hT e.2.1)
end Go.Proofs.YthcfhmebikcfpaaGreatDoor

namespace Go.Proofs.YthcfhmebikcfpaaGreatDoor
open Go.RowKit

attribute [local go_sem] Holds.drew Holds.alloc Holds.drewN WB.holds Oper.semAt_some

theorem grown_of_below {w w' : World} (hb : Below w.heap.size w w') : w.grownBy w' none := ⟨hb.os, hb.tape, hb.output, hb.size, fun k hk _ => hb.block k hk⟩
theorem Bu.below {B b : Nat} {l : List UInt8} {w w' : World} (h : Bu B b l w) (hb : Below w.heap.size w w') : Bu B b l w' := by
  have key : ∀ p, Lib.BuilderAt 51 5 B b p (Lib.byteCells l) w → Lib.BuilderAt 51 5 B b p (Lib.byteCells l) w' := fun p h => by
    have hlt := h.lt
    obtain ⟨hB, v, hv, hown, hne⟩ := h
    refine ⟨hB, v, (hb.block b hlt).trans hv, hown.kept (grown_of_below hb) ?_, hne⟩
    cases v.ownBlock with
    | none => exact .inl rfl
    | some g => exact .inr (by simp)
  rcases h with h | h
  · exact Or.inl (key _ h)
  · exact Or.inr (key _ h)
theorem Bu.alloc {B b : Nat} {l : List UInt8} {w : World} (h : Bu B b l w) (o : Obj) : Bu B b l (w.alloc o) := h.below ((Below.refl _ _).alloc (Nat.le_refl _) o)
theorem Ext.stepB {w wr w3 : World} {H H3 : Snap} {BB : Nat} (x : Ext w H wr H3) (hlt : ∀ b o, H3 b = some o → b < BB) (hBB : w.heap.size ≤ BB) (hb : Below BB wr w3) : Ext w H w3 H3 :=
  x.step (hb.mono hBB) ⟨fun b o e => (hb.block b (hlt b o e)).trans (x.holds.at_ b o e)⟩

def fileR (l : List ByteArray) : ByteArray := if areE l = 0 then strB (fileA l) else ⟨#[]⟩
theorem bys_get {s : ByteArray} {j : Nat} {x : UInt8} (h : j < s.size) (hx : At (bys s) j x) : s[j]'h = x := by
  have h1 : (bys s)[j]? = some x := hx
  rw [List.getElem?_eq_getElem (show j < (bys s).length from h)] at h1
  exact Option.some.inj h1
theorem strB_extract (l : List UInt8) (a b : Nat) : (strB l).extract a b = strB ((l.take b).drop a) := by
  apply ByteArray.ext
  apply Array.ext'
  simp [strB, List.drop_take]
def strLen (v : Value) : Nat := match v with | .string s => s.size | _ => 0
theorem byte_conv {n : Int} (h0 : 0 ≤ n) (h1 : n < 256) : n % 256 = ((n.toNat.toUInt8).toNat : Int) := by
  rw [UInt8.toNat_ofNat']; omega
theorem six_at (j : Nat) (h : j < 64) : (⟨#[65, 66, 67, 68, 69, 70, 71, 72, 73, 74, 75, 76, 77, 78, 79, 80, 81, 82, 83, 84, 85, 86, 87, 88, 89, 90, 97, 98, 99, 100, 101, 102, 103, 104, 105, 106, 107, 108, 109, 110, 111, 112, 113, 114, 115, 116, 117, 118, 119, 120, 121, 122, 48, 49, 50, 51, 52, 53, 54, 55, 56, 57, 43, 47]⟩ : ByteArray)[j]'h = letB j := by
  unfold letB
  rw [List.getD_eq_getElem?_getD, List.getElem?_eq_getElem (show j < lets.length from h)]
  rfl
theorem letB_bits {n : Int} (h1 : 1 ≤ n) (h2 : n ≤ 15) : letB (n.toNat - 1) = (64 + n.toNat).toUInt8 := by
  have : ∀ k : Fin 15, letB (k.val + 1 - 1) = (64 + (k.val + 1)).toUInt8 := by decide
  have h := this ⟨n.toNat - 1, by omega⟩
  simp only at h
  rwa [show n.toNat - 1 + 1 = n.toNat by omega] at h
theorem eq49 {x : UInt8} (h : x = 49) : ((x.toNat : Int) == 49) = true := by subst h; decide
theorem ne49 {x : UInt8} (h : x ≠ 49) : ((x.toNat : Int) == 49) = false := by
  rw [beq_eq_false_iff_ne]
  intro e
  exact h (UInt8.toNat_inj.1 (by show x.toNat = 49; omega))
theorem two_v (V : Nat) : (V : Int) * 2 = ((2 * V + 0 : Nat) : Int) := by omega
theorem j_up {j : Nat} (gj : wrap64 ((j : Int) + 1) = (j : Int) + 1) : Value.int .i64 (wrap64 ((j : Int) + 1)) = .int .i64 ((j + 1 : Nat) : Int) := by rw [gj]; rfl
theorem six_meas {j : Nat} (gj : wrap64 ((j : Int) + 1) = (j : Int) + 1) (h : j < 6) : 6 - (intOf (.int .i64 (wrap64 ((j : Int) + 1)))).toNat < 6 - (intOf (.int .i64 (j : Int))).toNat := by
  rw [gj]
  simp only [intOf]
  omega
theorem oneAt_yes {ch : List UInt8} {j : Nat} {x : UInt8} (h : At ch j x) (e : x = 49) : oneAt ch j = 1 := by
  unfold oneAt
  rw [show ch[j]? = some x from h, e, if_pos rfl]
theorem oneAt_no {ch : List UInt8} {j : Nat} {x : UInt8} (h : At ch j x) (e : x ≠ 49) : oneAt ch j = 0 := by
  unfold oneAt
  rw [show ch[j]? = some x from h, if_neg (fun e2 => e (Option.some.inj e2))]
theorem oneAt_out {ch : List UInt8} {j : Nat} (h : ¬ j < ch.length) : oneAt ch j = 0 := by
  unfold oneAt
  rw [List.getElem?_eq_none (by omega), if_neg (by simp)]
set_option maxRecDepth 100000 in
set_option maxHeartbeats 4000000 in
theorem nWrite_any (v : Value) (l : List ByteArray) (H : Snap) (w : World) (hw : Holds H w) (hs : Sl H v l) (hz : ∀ s ∈ l, s.size ≤ 1000000) :
    Calls Tryz.prog 8 #[v] w (PostV w (.tuple #[.string (fileR l), .int .i64 (areE l)])) := by
  have hc := nLengths_any v l H w hw hs hz
  by_cases h : areE l = 0
  case' neg =>
    have e : fileR l = ⟨#[]⟩ := by unfold fileR; rw [if_neg h]
    have ew : lensR l = [] := by unfold lensR; rw [if_neg h]
    have hb : (areE l == 0) = false := by rw [beq_eq_false_iff_ne]; exact h
    have hb2 : (areE l != 0) = true := by rw [bne_iff_ne]; exact h
    rw [ew] at hc
    rw [e]
    generalize areE l = n at *
    clear e h ew
    replace hc := Lib.hid hc
    go_enter Tryz.func8, Tryz.ntmps8
    go_wp2_with (first | ((go_at_call 13; refine hc.out.mono ?_; rintro e w2 ⟨v2, H2, rfl, x2, o2⟩)))
    go_ret2
    exact ⟨rfl, x2.below⟩
  case' pos =>
    have e : fileR l = strB (fileA l) := by unfold fileR; rw [if_pos h]
    have ew : lensR l = lensA (msgOf l) := by unfold lensR; rw [if_pos h]
    have F := msg_ok h
    have C := lens_code F
    have h1 := wts_few F.1
    rw [← lensA_len] at h1
    have hl := (areE_zero h).1
    have hsize := areE_size h
    have hml := msgOf_len h
    have hbl := bits_bound F
    have hf : fileA l = headA l.length (lensA (msgOf l)) ++ (lensA (msgOf l)).flatMap pairB ++ sixesA (bitsA (lensA (msgOf l)) (msgOf l)) := rfl
    rw [h, ew] at hc
    rw [e, h]
    clear e h ew F
    obtain ⟨a, c, rfl, _, _⟩ := hs.form
    generalize lensA (msgOf l) = ls at *
    have hsm : (strB (msgOf l)).size ≤ 60000 := Nat.le_trans hml (by decide)
    have hhead : strB (headA l.length ls) = strB (twoB l.length) ++ strB (twoB ls.length) := by
      unfold headA
      apply ByteArray.ext
      apply Array.ext'
      simp [strB]
    have hsz2 : (strB (twoB l.length)).size = 2 := rfl
    have hsz3 : (strB (twoB ls.length)).size = 2 := rfl
    have hbh : bys (strB (headA l.length ls)) = headA l.length ls := rfl
    replace hc := Lib.hid hc
    replace hf := Lib.hid hf
    go_enter Tryz.func8, Tryz.ntmps8
    go_upto_region 4 with (go_at_call 13; refine hc.out.mono ?_; rintro e w2 ⟨v2, H2, rfl, x2, o2⟩; obtain ⟨H3, x3, _, s3, _⟩ := o2.close x2; obtain ⟨a2, c2, rfl, _, _⟩ := o2.form)
    clear hc x2 o2
    have hbu := Bu.fresh w2
    have xb := x3.alloc (.cells #[.pointer none, .slice none 0 0] 51)
    have hH3 := fun b o (e : H3 b = some o) => x3.holds.lt e
    have hBB := x3.below.size
    have hBw : w2.heap.size ≤ (w2.alloc (.cells #[.pointer none, .slice none 0 0] 51)).heap.size := by simp
    go_upto_region 5 with fail
    generalize w2.alloc (.cells #[.pointer none, .slice none 0 0] 51) = wb at *
    generalize w2.heap.size = BB at *
    clear x3
    go_upto_region 6 with (first
      | (have hgd := x5; clear hgd; go_at_call 30; go_must (rw [← hhead]; refine (bu_string (strB (headA l.length ls)) hbu5 (by show ([] : List UInt8).length + (headA l.length ls).length ≤ 1000000; simp [headA, twoB]) hB5).mono ?_); rintro e w6 ⟨rfl, hbu6, hb6⟩; have x6 := x5.stepB hH3 hBB hb6; have hB6 := Nat.le_trans hB5 hb6.size)
      | (have hgd := x4; clear hgd; go_at_call 31; go_must (refine (nTwo_any ls.length (by omega) _).mono ?_); rintro e w5 ⟨rfl, hb5⟩; have hbu5 := hbu4.below hb5; have x5 := x4.stepB hH3 hBB (hb5.mono hB4); have hB5 := Nat.le_trans hB4 hb5.size)
      | (go_at_call 31; go_must (refine (nTwo_any l.length (by omega) _).mono ?_); rintro e w4 ⟨rfl, hb4⟩; have hbu4 := hbu.below hb4; have x4 := xb.stepB hH3 hBB (hb4.mono hBw); have hB4 := Nat.le_trans hBw hb4.size))
    rw [hbh, List.nil_append] at hbu6
    clear hhead hsz2 hsz3 hbh hbu hbu4 hbu5 x4 x5 hB4 hB5 xb
    have hhl : (headA l.length ls).length = 4 := rfl
    generalize hhd : headA l.length ls = hd at *
    go_wp2
    go_loopw [31] (fun i wr => ∃ k : Nat, k ≤ ls.length ∧ i = .int .i64 (k : Int) ∧ Bu BB BB (hd ++ (ls.take k).flatMap pairB) wr ∧ Ext w H wr H3 ∧ BB ≤ wr.heap.size) (fun i _ => ls.length - (intOf i).toNat)
    case atStart => exact ⟨0, Nat.zero_le _, rfl, by simpa using hbu6, x6, hB6⟩
    case round =>
      clear hbu6 x6 hB6
      obtain ⟨k, hk, rfl, hbu, xr, hBr⟩ := hrel
      have hwr := xr.holds
      have hk0 : (0 : Int) ≤ (k : Int) := by omega
      by_cases hlk : k < ls.length
      · obtain ⟨p, hp⟩ := At.mk hlk
        obtain ⟨b, o, c', he, hi, r1, r2⟩ := s3.pr hp
        cases he
        have hk1 : (k : Int) < (ls.length : Int) := by omega
        have hps := C.pos p hp.mem
        have h15 := (C.ok p hp.mem).2
        obtain ⟨cb, hcb⟩ : ∃ cb : UInt8, cb = p.s.toNat.toUInt8 := ⟨_, rfl⟩
        have hcv : ((cb.toNat : Nat) : Int) = p.s := by rw [hcb, UInt8.toNat_ofNat']; omega
        have e0 := new_cell wr #[.int .i64 p.s, .int .i64 p.n] 47 0
        have hXh := heap_alloc_new wr (.cells #[.int .i64 p.s, .int .i64 p.n] 47)
        have hXB : wr.heap.size ≠ BB := by
          have : BB < wr.heap.size := by
            rcases hbu with h | h
            · exact h.lt
            · exact h.lt
          omega
        have hbx := hbu.alloc (.cells #[.int .i64 p.s, .int .i64 p.n] 47)
        have xx := xr.alloc (.cells #[.int .i64 p.s, .int .i64 p.n] 47)
        have hBx : BB ≤ (wr.alloc (.cells #[.int .i64 p.s, .int .i64 p.n] 47)).heap.size := by simp; omega
        have hpl : ((ls.take k).flatMap pairB).length ≤ 200 := by rw [pairs_len, List.length_take]; omega
        have hlen : (hd ++ (ls.take k).flatMap pairB).length ≤ 1000000 := by rw [List.length_append]; omega
        have hlen2 : (hd ++ (ls.take k).flatMap pairB ++ [cb]).length ≤ 1000000 := by rw [List.length_append, List.length_append, List.length_singleton]; omega
        go_upto_region 9 with fail
        generalize hX : wr.heap.size = X at *
        generalize wr.alloc (.cells #[.int .i64 p.s, .int .i64 p.n] 47) = wx at *
        go_upto_region 10 with (go_at_call 32; go_must (have hby := bu_byteK cb hbx hlen hBx; rw [hcv] at hby; refine hby.mono ?_); rintro e w4 ⟨rfl, hbu4, hb4, hk4⟩; have x4 := xx.stepB hH3 hBB hb4; have hB4 := Nat.le_trans hBx hb4.size)
        have h4X := hk4 X _ _ hXh hXB (by decide)
        have e14 := Lib.cell_of_heap (j := 1) h4X
        have g1 : wrap64 (p.n - 1) = p.n - 1 := wrap64_in _ (by omega) (by omega)
        have g2 : (0 : Int) ≤ p.n - 1 := by omega
        have g3 : p.n - 1 < 64 := by omega
        have hsix := six_at (p.n.toNat - 1) (by omega)
        have hnx : hd ++ (ls.take (k + 1)).flatMap pairB = hd ++ (ls.take k).flatMap pairB ++ [cb] ++ [letB (p.n.toNat - 1)] := by
          rw [hp.take, List.flatMap_append, letB_bits h15.1 h15.2, hcb]
          simp [pairB]
        replace hnx := Lib.hid hnx
        replace hsix := Lib.hid hsix
        clear hk4 h4X hXh
        go_wp2_with (first | (go_at_call 32; go_must (rw [hsix.out]; refine (bu_byte _ hbu4 hlen2 hB4).mono ?_); rintro e w5 ⟨rfl, hbu5, hb5⟩; have x5 := x4.stepB hH3 hBB hb5; have hB5 := Nat.le_trans hB4 hb5.size))
        go_roundw
        case rel => exact ⟨k + 1, by omega, by go_num, by rw [hnx.out]; exact hbu5, x5, hB5⟩
        case measure => simp [intOf] <;> omega
      · have hfin : ls.take k = ls := List.take_of_length_le (by omega)
        rw [hfin] at hbu
        have hplen := pairs_len ls
        generalize hhp : hd ++ ls.flatMap pairB = hp at *
        have hhpl : hp.length ≤ 1000 := by rw [← hhp, List.length_append, hplen]; omega
        have hfl := hf.out
        go_upto_region 13 with (first
          | (have hgd := hw5; clear hgd; go_at_call 34; go_must (refine (nBits_any MB ls C _ hsm H3 _ hw5 ((hb5.block MB (Array.getElem?_eq_some_iff.1 hM).1).trans hM)).mono ?_); rintro e w6 ⟨rfl, hb6⟩)
          | (have hgd := y4; clear hgd; go_at_call 35; go_must (refine (nMessage_any _ l H3 _ y4.holds (hs.mono (xr.le hw)) (by omega) hsize).mono ?_); rintro e w5 ⟨rfl, hb5⟩; have hw5 := y4.holds.below hb5; have x5 := y4.step (hb5.mono y4.below.size) hw5)
          | (go_at_call 33; go_must (refine (nCoded_any _ ls (by omega) C H3 _ hwr s3).mono ?_); rintro e w4 ⟨MB, rfl, y4, hMs, hM⟩))
        have hb7 := x5.below.trans (hb6.mono x5.below.size)
        have hbu7 := hbu.below hb7
        have x7 := xr.stepB hH3 hBB (hb7.mono hBr)
        have hB7 := Nat.le_trans hBr hb7.size
        clear hbu xr hBr hwr y4 hM hMs hb5 hb6 hw5 x5 hb7
        have hbm : bitsA ls (bys (strB (msgOf l))) = bitsA ls (msgOf l) := rfl
        rw [hbm]
        clear hbm
        generalize hBS : bitsA ls (msgOf l) = BS at *
        have hBl : BS.length ≤ 6860 := by omega
        have h00 : hp ++ sixesTo BS 0 = hp := by unfold sixesTo; simp
        go_loopw [9] (fun sv wq => ∃ k : Nat, 6 * k ≤ BS.length + 5 ∧ sv = .string (strB (BS.drop (6 * k))) ∧ Bu BB BB (hp ++ sixesTo BS k) wq ∧ Ext w H wq H3 ∧ BB ≤ wq.heap.size) (fun sv _ => strLen sv)
        case atStart => exact ⟨0, by omega, rfl, by rw [h00]; exact hbu7, x7, hB7⟩
        case round =>
          clear hbu7 x7 hB7 h00
          obtain ⟨k, hk, rfl, hbu, xr, hBr⟩ := hrel
          by_cases hlk : 6 * k < BS.length
          · obtain ⟨D, hD⟩ : ∃ D, D = BS.drop (6 * k) := ⟨_, rfl⟩
            have hDl : D.length = BS.length - 6 * k := by rw [hD, List.length_drop]
            have hD6 : D.drop 6 = BS.drop (6 * (k + 1)) := by rw [hD, List.drop_drop]; congr 1
            have hch : D.take 6 = chunk BS k := by rw [hD]; rfl
            rw [← hD]
            have hem : (strB D).toList.isEmpty = false := by
              rw [ByteArray.toList_eq]
              show D.isEmpty = false
              cases D with
              | nil => simp at hDl; omega
              | cons x D => rfl
            have hx1 : (strB D).extract 0 (min 6 (D.length : Int)).toNat = strB (chunk BS k) := by
              rw [strB_extract, List.drop_zero, ← hch]
              congr 1
              rw [show (min 6 (D.length : Int)).toNat = min 6 D.length by omega, ← List.take_eq_take_min]
            have hcl : (chunk BS k).length = min 6 D.length := by rw [← hch, List.length_take]
            have hcs : (strB (chunk BS k)).size = (chunk BS k).length := rfl
            have hx2 : (strB D).extract (chunk BS k).length D.length = strB (BS.drop (6 * (k + 1))) := by
              rw [strB_extract, List.take_length, hcl, ← hD6]
              congr 1
              by_cases h6 : 6 ≤ D.length
              · rw [Nat.min_eq_left h6]
              · rw [Nat.min_eq_right (by omega), List.drop_of_length_le (Nat.le_refl _), List.drop_of_length_le (by omega)]
            have hDs : (strB D).size = D.length := rfl
            have hc6 : (chunk BS k).length ≤ 6 := by omega
            have hcD : (chunk BS k).length ≤ D.length := by omega
            have hmin : (min 6 (D.length : Int)) ≤ (D.length : Int) := by omega
            have hmin0 : (0 : Int) ≤ (min 6 (D.length : Int)) := by omega
            have hvk : letAt BS k = letB (valK (chunk BS k) 6) := rfl
            have hsk := sixesTo_succ BS k
            have hvl := valK_lt (chunk BS k)
            replace hDl := Lib.hid hDl
            replace hcl := Lib.hid hcl
            clear hD hD6 hch
            generalize chunk BS k = ch at *
            obtain ⟨s, rfl⟩ : ∃ s, ch = bys s := ⟨strB ch, rfl⟩
            have hsb : strB (bys s) = s := rfl
            rw [hsb] at hx1 hcs
            rw [bys_len] at hx2 hc6 hcD
            clear hcs
            go_upto_region 14 with fail
            go_upto_region 15 with fail
            clear hx1
            go_upto_region 16 with fail
            clear hx2 hmin hmin0 hcD
            go_upto_region 18 with fail
            go_loopw [11, 61] (fun nv iv wx => ∃ j : Nat, j ≤ 6 ∧ iv = .int .i64 (j : Int) ∧ nv = .int .i64 ((valK (bys s) j : Nat) : Int) ∧ Bu BB BB (hp ++ sixesTo BS k) wx ∧ Ext w H wx H3 ∧ BB ≤ wx.heap.size) (fun _ iv _ => 6 - (intOf iv).toNat)
            case atStart => exact ⟨0, by omega, rfl, rfl, hbu, xr, hBr⟩
            case round =>
              clear hbu xr hBr
              obtain ⟨j, hj, rfl, rfl, hbu, xr, hBr⟩ := hrel
              have hwr := xr.holds
              have hj0 : (0 : Int) ≤ (j : Int) := by omega
              by_cases hj6 : j < 6
              · have hj1 : (j : Int) < 6 := Int.ofNat_lt.2 hj6
                have hv := hvl j
                have hv64 : valK (bys s) j < 64 := Nat.lt_of_lt_of_le hv (Nat.pow_le_pow_right (by omega) (show j ≤ 6 by omega))
                clear hv hvl hsk hvk hBl hk hlk hj
                have hstep : valK (bys s) (j + 1) = 2 * valK (bys s) j + oneAt (bys s) j := rfl
                replace hstep := Lib.hid hstep
                generalize valK (bys s) j = V at *
                have g1 : wrap64 ((V : Int) * 2) = (V : Int) * 2 := wrap64_in _ (by omega) (by omega)
                have g2 : wrap64 ((V : Int) * 2 + 1) = (V : Int) * 2 + 1 := wrap64_in _ (by omega) (by omega)
                have gj : wrap64 ((j : Int) + 1) = (j : Int) + 1 := wrap64_in _ (by omega) (by omega)
                by_cases hjc : j < s.size
                · obtain ⟨x, hx⟩ := At.mk (show j < (bys s).length from hjc)
                  have hjc1 : (j : Int) < (s.size : Int) := Int.ofNat_lt.2 hjc
                  have hxs : s[j] = x := bys_get hjc hx
                  by_cases h49 : x = 49
                  · have hone : oneAt (bys s) j = 1 := oneAt_yes hx h49
                    have hstep2 := hstep.out
                    rw [hone] at hstep2
                    replace hstep2 := Lib.hid hstep2
                    clear hstep
                    have hb : ((x.toNat : Int) == 49) = true := eq49 h49
                    clear h49 hone hx
                    go_upto_region 21 with fail
                    go_upto_region 23 with fail
                    replace hj6 := Lib.hid hj6
                    clear hj0 hj1
                    go_wp2_with fail
                    go_roundw
                    case rel => exact ⟨j + 1, hj6.out, by go_num, by rw [hstep2.out]; go_num, hbu, xr, hBr⟩
                    case measure => simp [intOf] <;> omega
                  · have hone : oneAt (bys s) j = 0 := oneAt_no hx h49
                    have hstep2 := hstep.out
                    rw [hone] at hstep2
                    replace hstep2 := Lib.hid hstep2
                    clear hstep
                    have hb : ((x.toNat : Int) == 49) = false := ne49 h49
                    clear h49 hone hx
                    go_upto_region 21 with fail
                    go_upto_region 23 with fail
                    replace hj6 := Lib.hid hj6
                    clear hj0 hj1
                    go_wp2_with fail
                    go_roundw
                    case rel => exact ⟨j + 1, hj6.out, by go_num, by rw [hstep2.out]; go_num, hbu, xr, hBr⟩
                    case measure => simp [intOf] <;> omega
                · have hone : oneAt (bys s) j = 0 := oneAt_out hjc
                  have hstep2 := hstep.out
                  rw [hone] at hstep2
                  replace hstep2 := Lib.hid hstep2
                  clear hstep
                  have hjc1 : ¬ (j : Int) < (s.size : Int) := fun e => hjc (Int.ofNat_lt.1 e)
                  go_upto_region 21 with fail
                  go_upto_region 23 with fail
                  replace hj6 := Lib.hid hj6
                  clear hj0 hj1 hjc hjc1 hone
                  go_wp2_with fail
                  go_roundw
                  case rel => exact ⟨j + 1, hj6.out, j_up gj, by rw [hstep2.out, ← two_v], hbu, xr, hBr⟩
                  case measure => exact six_meas gj hj6.out
              · have : j = 6 := by omega
                subst this
                have hv64 : valK (bys s) 6 < 64 := hvl 6
                have hsix := six_at (valK (bys s) 6) hv64
                rw [hvk] at hsk
                generalize valK (bys s) 6 = V at *
                have hV0 : (0 : Int) ≤ (V : Int) := by omega
                have hV1 : (V : Int) < 64 := by omega
                have hlen : (hp ++ sixesTo BS k).length ≤ 1000000 := by
                  rw [List.length_append]
                  unfold sixesTo
                  rw [List.length_map, List.length_range]
                  omega
                replace hsk := Lib.hid hsk
                replace hsix := Lib.hid hsix
                go_wp2_with (first | (go_at_call 32; go_must (rw [hsix.out]; refine (bu_byte _ hbu hlen hBr).mono ?_); rintro e w5 ⟨rfl, hbu5, hb5⟩; have x5 := xr.stepB hH3 hBB hb5; have hB5 := Nat.le_trans hBr hb5.size))
                go_roundw
                case rel => exact ⟨k + 1, by omega, rfl, by rw [hsk.out, ← List.append_assoc]; exact hbu5, x5, hB5⟩
                case measure =>
                  show (BS.drop (6 * (k + 1))).length < D.length
                  rw [hDl.out, List.length_drop]
                  clear hsix hbu hbu5 hlen hV0 hV1 hv64
                  omega
          · have hsix : k = six BS.length := by unfold six; omega
            have hfin : hp ++ sixesTo BS k = fileA l := by rw [hfl, hsix]; rfl
            have hnil : BS.drop (6 * k) = [] := List.drop_of_length_le (by omega)
            have hem : (strB []).toList.isEmpty = true := by rw [ByteArray.toList_eq]; rfl
            rw [hfin] at hbu
            rw [hnil]
            clear hfl hk hfin hnil hBl hlk
            go_wp2_with (first | (go_at_call 36; go_must (refine (bu_str hbu hBr).mono ?_); rintro e w5 ⟨rfl, hb5⟩; have x5 := xr.stepB hH3 hBB hb5))
            go_ret2
            exact ⟨rfl, x5.below⟩

def savesR (l : List ByteArray) : Int := if areE l = 0 then ((msgOf l).length : Int) - ((fileA l).length : Int) else 0
set_option maxRecDepth 100000 in
theorem nSaves_any (v : Value) (l : List ByteArray) (H : Snap) (w : World) (hw : Holds H w) (hs : Sl H v l) (hz : ∀ s ∈ l, s.size ≤ 1000000) :
    Calls Tryz.prog 19 #[v] w (PostV w (.tuple #[.int .i64 (savesR l), .int .i64 (areE l)])) := by
  have hc := nWrite_any v l H w hw hs hz
  by_cases h : areE l = 0
  case' neg =>
    have e : savesR l = 0 := by unfold savesR; rw [if_neg h]
    have hb : (areE l == 0) = false := by rw [beq_eq_false_iff_ne]; exact h
    have hb2 : (areE l != 0) = true := by rw [bne_iff_ne]; exact h
    rw [e]
    generalize areE l = n at *
    clear e h
    replace hc := Lib.hid hc
    go_enter Tryz.func19, Tryz.ntmps19
    go_wp2_with (first | ((go_at_call 8; refine hc.out.mono ?_; rintro e w2 ⟨rfl, hb2⟩)))
    go_ret2
    exact ⟨rfl, hb2⟩
  case' pos =>
    have e : savesR l = ((msgOf l).length : Int) - ((fileA l).length : Int) := by unfold savesR; rw [if_pos h]
    have ef : fileR l = strB (fileA l) := by unfold fileR; rw [if_pos h]
    have hl := (areE_zero h).1
    have hsize := areE_size h
    have hml := msgOf_len h
    have F := msg_ok h
    have hfl := file_len l
    have hbl := bits_bound F
    have h6 := six_le (bitsA (lensA (msgOf l)) (msgOf l)).length
    have h1 := wts_few F.1
    rw [← lensA_len] at h1
    have hs1 : (strB (msgOf l)).size = (msgOf l).length := rfl
    have hs2 : (strB (fileA l)).size = (fileA l).length := rfl
    have hwr : wrap64 (((msgOf l).length : Int) - ((fileA l).length : Int)) = ((msgOf l).length : Int) - ((fileA l).length : Int) := wrap64_in _ (by omega) (by omega)
    rw [h, ef] at hc
    rw [e, h]
    clear e h ef F hfl hbl h6 h1
    replace hc := Lib.hid hc
    go_enter Tryz.func19, Tryz.ntmps19
    go_wp2_with (first | ((have hgd := hb2; clear hgd; go_at_call 35; go_must (refine (nMessage_any _ l H _ (hw.below hb2) hs (by omega) hsize).mono ?_); rintro e w3 ⟨rfl, hb3⟩)) | ((go_at_call 8; refine hc.out.mono ?_; rintro e w2 ⟨rfl, hb2⟩)))
    go_ret2
    exact ⟨congrArg (fun n => Ending.returned (.tuple #[.int .i64 n, .int .i64 0])) hwr, hb2.trans (hb3.mono hb2.size)⟩
end Go.Proofs.YthcfhmebikcfpaaGreatDoor

namespace Go.Proofs.YthcfhmebikcfpaaGreatDoor
open Go.RowKit
open Go.ChangeMaps (setBlock heap_setBlock_same heap_setBlock_other)
open Go.MapKept (Stamped)
open Go.WideElems (Fit rg)

theorem keyed_n : Maps.Keyed Tryz.prog 3 := Maps.int_keyed Tryz.underlying3
structure FitKV (kvs : KV) : Prop where
  nd : (kvs.map Prod.fst).Nodup
  i64 : ∀ kv ∈ kvs, (Lit.int .i64 kv.1).wf = true
  sz : ∀ kv ∈ kvs, kv.2.size ≤ maxLen
  len : kvs.length ≤ maxLen
theorem keyOf_n {k : Int} (h : (Lit.int .i64 k).wf = true) : Go.keyOf Tryz.prog 3 (.int .i64 k) = some (.int .i64 k) := by
  simp [Go.keyOf, Tryz.underlying3, mapKey, h]
theorem rd_kv {kvs : KV} (h : FitKV kvs) {e : MapEntry} (he : e ∈ kvEnts kvs) : ∃ kv ∈ kvs, e.key = .int .i64 kv.1 ∧ e.val = .string kv.2 ∧ Go.WideElems.rd Tryz.prog 3 (plainElem (H := Unit) Tryz.prog 9) e = some (.int .i64 kv.1, .lit (.string kv.2.data.toList)) := by
  obtain ⟨kv, hkv, h1, h2⟩ := kvEnts_mem he
  obtain ⟨key, val, born⟩ := e
  simp only at h1 h2
  subst h1 h2
  exact ⟨kv, hkv, rfl, rfl, Go.WideElems.rd_mk (keyOf_n (h.i64 kv hkv)) (plainElem_string Tryz.underlying9 (h.sz kv hkv))⟩
theorem FitKV.fit {kvs : KV} (h : FitKV kvs) : Fit Tryz.prog 3 (plainElem (H := Unit) Tryz.prog 9) (kvEnts kvs).toArray kvs.length := by
  refine ⟨by simpa [kvEnts] using h.len, ⟨fun x hx => ?_, ?_, ?_⟩, fun x hx => ?_⟩
  · simp only [List.toList_toArray] at hx
    unfold kvEnts at hx
    obtain ⟨i, hi, rfl⟩ := List.mem_mapIdx.1 hx
    exact hi
  · have e : (kvEnts kvs).map (·.born) = List.range kvs.length := List.ext_getElem (by simp [kvEnts]) fun i h1 h2 => by simp [kvEnts]
    simp only [List.toList_toArray]
    rw [e]
    exact List.nodup_range
  · have e : (kvEnts kvs).map (·.key) = (kvs.map Prod.fst).map (Value.int .i64) := List.ext_getElem (by simp [kvEnts]) fun i h1 h2 => by simp [kvEnts]
    simp only [List.toList_toArray]
    rw [e]
    exact List.pairwise_map.2 (h.nd.imp fun hne e => hne (by simpa using e))
  · simp only [List.toList_toArray] at hx
    obtain ⟨kv, _, _, _, e⟩ := rd_kv h hx
    exact ⟨_, e⟩
theorem FitKV.owns {kvs : KV} (h : FitKV kvs) {w : World} {b : Nat} (hb : w.heap[b]? = some (mapKV kvs)) :
    ∃ D : DataW Unit, w.ownsMap Tryz.prog 3 (plainElem Tryz.prog 9) b kvs.length D ∧ ∀ kv ∈ kvs, Maps.has D (.int .i64 kv.1) = true ∧ ∀ zd, D.atKey (.int .i64 kv.1) zd = .lit (.string kv.2.data.toList) := by
  refine ⟨_, ⟨(kvEnts kvs).toArray, kvs.length, hb, h.fit, by simp [kvEnts], rfl⟩, fun kv hkv => ?_⟩
  have key : ∀ zd, (DataW.map (((kvEnts kvs).toArray.toList.map (rg Tryz.prog 3 (plainElem (H := Unit) Tryz.prog 9))).foldr DataW.insert [])).atKey (.int .i64 kv.1) zd = .lit (.string kv.2.data.toList) := by
    rcases Maps.fit_look false keyed_n Tryz.underlying59 (zero_str w) hb h.fit (keyOf_n (h.i64 kv hkv)) with ⟨_, h1, _⟩ | ⟨e0, y, he0, hk0, _, hv, hat, _⟩
    · obtain ⟨e, he, h2, _⟩ := mem_kvEnts hkv
      exact absurd h2 (h1 e (by simpa using he))
    · simp only [List.toList_toArray] at he0
      obtain ⟨kv', hm, e1, e2⟩ := kvEnts_mem he0
      rw [hk0] at e1
      simp only [Value.int.injEq, true_and] at e1
      have := kv_unique h.nd hkv hm e1
      subst this
      rw [e2, plainElem_string Tryz.underlying9 (h.sz kv hkv)] at hv
      intro zd
      rw [hat zd, ← Option.some.inj hv]
  exact ⟨Maps.has_true_of_atKey key, key⟩
theorem bytes_of_list {a b : ByteArray} (h : a.data.toList = b.data.toList) : a = b := by
  cases a; cases b
  simp only [ByteArray.mk.injEq]
  exact Array.ext' h
theorem rangesKV_of {w w' : World} {b r n : Nat} {D : DataW Unit} {left : Lit → Bool} {cnt : Nat} (k : w.ranges Tryz.prog 3 (plainElem Tryz.prog 9) b r n D left cnt) (hb : w'.heap[b]? = w.heap[b]?) (hr : w'.heap[r]? = w.heap[r]?) :
    w'.ranges Tryz.prog 3 (plainElem Tryz.prog 9) b r n D left cnt := by
  obtain ⟨es, clock, since, seen, c0, h1, h2, h3, h4, h5, h6⟩ := k
  exact ⟨es, clock, since, seen, c0, hb.trans h1, h2, h3, h4, hr.trans h5, h6⟩
section
variable {w : World} {ops : Array Oper} {rest : List Oper} {o : Oper} {a : Act} {Q : Exit → Act → World → Prop}
/-- One round of a range over the map of a code. -/
theorem wpList_nextKV (hg : o.guard = none) (it : Operand) (hop : o.op = Op.next it false) {b r n : Nat} {D : DataW Unit} {left : Lit → Bool} {cnt : Nat} {kvs : KV} (F : FitKV kvs)
    (hat : ∀ kv ∈ kvs, ∀ zd, D.atKey (.int .i64 kv.1) zd = .lit (.string kv.2.data.toList)) (hb : w.heap[b]? = some (mapKV kvs))
    (hit : a.eval it = .pointer (some ⟨r, 0, none⟩)) (h : w.ranges Tryz.prog 3 (plainElem Tryz.prog 9) b r n D left cnt)
    (hDone : cnt = 0 → (∀ kl, left kl = false) → wpList Tryz.prog ops Q rest (a.put o.dst (.tuple #[.bool false])) w)
    (hMore : ∀ (k : Int) (s : ByteArray) (w' : World) (cnt' : Nat), (k, s) ∈ kvs → left (.int .i64 k) = true → w'.ranges Tryz.prog 3 (plainElem Tryz.prog 9) b r n D (fun z => left z && !z.sameKey (.int .i64 k)) cnt' → cnt' < cnt →
      w.grownBy w' (some r) → w'.heap.size = w.heap.size → (Instr.entry (.pointer (some ⟨r, 0, none⟩))).run Tryz.prog w' = .ok (.tuple #[.int .i64 k, .string s]) w' → wpList Tryz.prog ops Q rest (a.put o.dst (.tuple #[.bool true, .int .i64 k, .string s])) w') :
    wpList Tryz.prog ops Q (o :: rest) a w := by
  refine wpList_next_ranges_is w hg it hop 3 9 .i64 keyed_n Tryz.underlying3 Tryz.underlying9 b r n D left cnt hit h hDone fun x c w' cnt' hwx hwc hlx hatx hrg hlt hgr hsz hen => ?_
  obtain ⟨es, clock, _, _, _, hb', _, _, _, _, _, _, _, hl, _⟩ := h
  have hes : es = (kvEnts kvs).toArray := by
    rw [hb] at hb'
    unfold mapKV at hb'
    simp only [Option.some.injEq, Obj.map.injEq] at hb'
    exact hb'.1.symm
  subst hes
  obtain ⟨e, he, hk⟩ := hl _ hlx
  simp only [List.toList_toArray] at he
  obtain ⟨kv, hkv, _, _, hrd⟩ := rd_kv F he
  rw [Go.WideElems.rg_of hrd] at hk
  simp only [Lit.int.injEq, true_and] at hk
  have hz := hat kv hkv .nil
  rw [hk, hatx .nil] at hz
  simp only [DataW.lit.injEq, Lit.string.injEq] at hz
  have hc := bytes_of_list hz
  have hpair : (x, c) ∈ kvs := by rw [← hk, hc]; exact hkv
  exact hMore x c w' cnt' hpair hlx hrg hlt hgr hsz hen
end

/-! ### Maps of strings to numbers, of which each key was put once -/

abbrev SK := List (ByteArray × Int)
def skEnts (kvs : SK) : List MapEntry := kvs.mapIdx fun i kv => ⟨.string kv.1, .int .i64 kv.2, i⟩
def mapSK (kvs : SK) : Obj := .map (skEnts kvs).toArray kvs.length
theorem skEnts_snoc (kvs : SK) (s : ByteArray) (k : Int) : skEnts (kvs ++ [(s, k)]) = skEnts kvs ++ [⟨.string s, .int .i64 k, kvs.length⟩] := by
  unfold skEnts
  rw [List.mapIdx_append]
  simp
theorem skEnts_mem {kvs : SK} {e : MapEntry} (h : e ∈ skEnts kvs) : ∃ kv ∈ kvs, e.key = .string kv.1 ∧ e.val = .int .i64 kv.2 := by
  unfold skEnts at h
  obtain ⟨i, hi, rfl⟩ := List.mem_mapIdx.1 h
  exact ⟨kvs[i], List.getElem_mem hi, rfl, rfl⟩
theorem mem_skEnts {kvs : SK} {kv : ByteArray × Int} (h : kv ∈ kvs) : ∃ e ∈ skEnts kvs, e.key = .string kv.1 ∧ e.val = .int .i64 kv.2 := by
  obtain ⟨i, hi, rfl⟩ := List.getElem_of_mem h
  exact ⟨_, List.mem_mapIdx.2 ⟨i, hi, rfl⟩, rfl, rfl⟩
theorem sk_unique : ∀ {kvs : SK}, (kvs.map Prod.fst).Nodup → ∀ {x y : ByteArray × Int}, x ∈ kvs → y ∈ kvs → x.1 = y.1 → x = y
  | [], _, _, _, hx, _, _ => by cases hx
  | kv :: kvs, hd, x, y, hx, hy, e => by
    rw [List.map_cons, List.nodup_cons] at hd
    rcases List.mem_cons.1 hx with ex | hx2
    · rcases List.mem_cons.1 hy with ey | hy2
      · rw [ex, ey]
      · exact absurd (show kv.1 ∈ kvs.map Prod.fst from List.mem_map.2 ⟨y, hy2, by rw [← e, ex]⟩) hd.1
    · rcases List.mem_cons.1 hy with ey | hy2
      · exact absurd (show kv.1 ∈ kvs.map Prod.fst from List.mem_map.2 ⟨x, hx2, by rw [e, ey]⟩) hd.1
      · exact sk_unique hd.2 hx2 hy2 e
theorem findG_none {kind : TypeDesc} {k : Value} : ∀ (es : List MapEntry) (i : Nat), (∀ e ∈ es, Instr.sameNow kind k e.key = some false) → Instr.findNow kind k es i = some none
  | [], _, _ => rfl
  | e :: es, i, h => by
    unfold Instr.findNow
    rw [h e (by simp)]
    exact findG_none es (i + 1) fun x hx => h x (by simp [hx])
theorem findG_some {kind : TypeDesc} {k v : Value} : ∀ (es : List MapEntry) (i : Nat), (∀ e ∈ es, Instr.sameNow kind k e.key = some false ∨ Instr.sameNow kind k e.key = some true ∧ e.val = v) → (∃ e ∈ es, Instr.sameNow kind k e.key = some true) → ∃ n, Instr.findNow kind k es i = some (some (n, v))
  | [], _, _, ⟨_, h, _⟩ => by cases h
  | e :: es, i, h1, h2 => by
    unfold Instr.findNow
    rcases h1 e (by simp) with h | ⟨h, hv⟩
    · rw [h]
      refine findG_some es (i + 1) (fun x hx => h1 x (by simp [hx])) ?_
      obtain ⟨x, hx, he⟩ := h2
      rcases List.mem_cons.1 hx with rfl | hx
      · rw [h] at he; cases he
      · exact ⟨x, hx, he⟩
    · rw [h]
      exact ⟨i, by rw [hv]⟩
theorem beq_bytes_self (a : ByteArray) : (a == a) = true := by
  cases a with
  | mk d => exact beq_self_eq_true d
theorem beq_bytes_ne {a b : ByteArray} (h : ¬ a = b) : (a == b) = false := by
  cases a with
  | mk d => cases b with
    | mk e =>
      have : ¬ d = e := fun e' => h (by rw [e'])
      show (d == e) = false
      exact beq_eq_false_iff_ne.2 this
theorem sameNow_str (a b : ByteArray) : Instr.sameNow .string (.string a) (.string b) = some (decide (a = b)) := by
  simp only [Instr.sameNow, Option.some.injEq]
  by_cases h : a = b
  · subst h; rw [decide_eq_true rfl]; exact beq_bytes_self a
  · rw [decide_eq_false h]; exact beq_bytes_ne h
def lookSK (kvs : SK) (s : ByteArray) : Int := match kvs.find? (fun kv => decide (s = kv.1)) with | some kv => kv.2 | none => 0
def hasSK (kvs : SK) (s : ByteArray) : Bool := kvs.any fun kv => decide (s = kv.1)
theorem lookSK_mem {kvs : SK} (hd : (kvs.map Prod.fst).Nodup) {kv : ByteArray × Int} (h : kv ∈ kvs) : lookSK kvs kv.1 = kv.2 ∧ hasSK kvs kv.1 = true := by
  constructor
  · unfold lookSK
    cases hf : kvs.find? (fun x => decide (kv.1 = x.1)) with
    | none => rw [List.find?_eq_none] at hf; exact absurd (by simp) (hf kv h)
    | some y =>
      have h1 := List.mem_of_find?_eq_some hf
      have h2 : kv.1 = y.1 := by simpa using List.find?_some hf
      rw [sk_unique hd h h1 h2]
  · unfold hasSK
    exact List.any_eq_true.2 ⟨kv, h, by simp⟩
theorem hasSK_mem {kvs : SK} {s : ByteArray} (h : hasSK kvs s = true) : ∃ kv ∈ kvs, kv.1 = s := by
  unfold hasSK at h
  obtain ⟨kv, hm, hk⟩ := List.any_eq_true.1 h
  exact ⟨kv, hm, (by simpa using hk : s = kv.1).symm⟩
theorem run_findSK {kvs : SK} (hd : (kvs.map Prod.fst).Nodup) (s : ByteArray) : (hasSK kvs s = true → ∃ n, Instr.findNow .string (.string s) (skEnts kvs) 0 = some (some (n, .int .i64 (lookSK kvs s)))) ∧ (hasSK kvs s = false → Instr.findNow .string (.string s) (skEnts kvs) 0 = some none ∧ lookSK kvs s = 0) := by
  constructor
  · intro h
    obtain ⟨kv, hm, rfl⟩ := hasSK_mem h
    rw [(lookSK_mem hd hm).1]
    refine findG_some _ 0 (fun e he => ?_) ?_
    · obtain ⟨x, hx, h1, h2⟩ := skEnts_mem he
      rw [h1, sameNow_str]
      by_cases hk : kv.1 = x.1
      · exact .inr ⟨by rw [decide_eq_true hk], by rw [h2, sk_unique hd hm hx hk]⟩
      · exact .inl (by rw [decide_eq_false hk])
    · obtain ⟨e, he, h1, _⟩ := mem_skEnts hm
      exact ⟨e, he, by rw [h1, sameNow_str]; simp⟩
  · intro h
    unfold hasSK at h
    rw [List.any_eq_false] at h
    refine ⟨findG_none _ 0 fun e he => ?_, ?_⟩
    · obtain ⟨x, hx, h1, _⟩ := skEnts_mem he
      rw [h1, sameNow_str]
      have := h x hx
      simpa using this
    · unfold lookSK
      rw [List.find?_eq_none.2 fun x hx => h x hx]
theorem zero_num (w : World) : (zeroValue 3).run Tryz.prog w = .ok (.int .i64 0) w := by kernel_rfl
theorem run_lookSK {w : World} {b : Nat} {kvs : SK} (hb : w.heap[b]? = some (mapSK kvs)) (hd : (kvs.map Prod.fst).Nodup) (s : ByteArray) :
    (Instr.lookup 107 (.map (some b)) (.string s) false).run Tryz.prog w = .ok (.int .i64 (lookSK kvs s)) w ∧
    (Instr.lookup 107 (.map (some b)) (.string s) true).run Tryz.prog w = .ok (.tuple #[.int .i64 (lookSK kvs s), .bool (hasSK kvs s)]) w := by
  have ht := Tryz.underlying107
  have hk := Tryz.underlying9
  have hb2 : w.heap[b]? = some (.map (skEnts kvs).toArray kvs.length) := hb
  have hck : ∀ em, (Instr.checkKey em 10000 9 (.string s)).run Tryz.prog w = .ok () w := fun em => by
    unfold Instr.checkKey
    rw [Sem.run_bind, run_underlying hk w]
    rfl
  obtain ⟨h1, h2⟩ := run_findSK hd s
  cases h : hasSK kvs s with
  | true =>
    clear h2
    obtain ⟨n, hn⟩ := h1 h
    constructor <;> simp [Instr.lookup, run_underlying ht, MapKept.run_getObj_map hb2, hck, Instr.findKey, run_underlying hk, hn, Result.andThen]
  | false =>
    obtain ⟨hn, hl⟩ := h2 h
    rw [hl]
    constructor <;> simp [Instr.lookup, run_underlying ht, MapKept.run_getObj_map hb2, hck, Instr.findKey, run_underlying hk, hn, zero_num, Result.andThen]
theorem run_putSK {w : World} {b : Nat} {kvs : SK} (hb : w.heap[b]? = some (mapSK kvs)) {s : ByteArray} (hk0 : s ∉ kvs.map Prod.fst) (k : Int) :
    (Instr.mapUpdate 107 (.map (some b)) (.string s) (.int .i64 k)).run Tryz.prog w = .ok () (setBlock w b (mapSK (kvs ++ [(s, k)]))) := by
  have ht := Tryz.underlying107
  have hk := Tryz.underlying9
  have hb2 : w.heap[b]? = some (.map (skEnts kvs).toArray kvs.length) := hb
  have hck : ∀ em, (Instr.checkKey em 10000 9 (.string s)).run Tryz.prog w = .ok () w := fun em => by
    unfold Instr.checkKey
    rw [Sem.run_bind, run_underlying hk w]
    rfl
  have hn : Instr.findNow .string (.string s) (skEnts kvs) 0 = some none := findG_none _ 0 fun e he => by
    obtain ⟨x, hx, h1, _⟩ := skEnts_mem he
    rw [h1, sameNow_str, decide_eq_false fun e => hk0 (by rw [e]; exact List.mem_map.2 ⟨x, hx, rfl⟩)]
  have e : mapSK (kvs ++ [(s, k)]) = .map ((skEnts kvs).toArray.push ⟨.string s, .int .i64 k, kvs.length⟩) (kvs.length + 1) := by
    unfold mapSK
    rw [skEnts_snoc]
    simp
  rw [e]
  simp [Instr.mapUpdate, run_underlying ht, MapKept.run_getObj_map hb2, hck, Instr.findKey, run_underlying hk, hn, MapKept.run_setObj_map _ hb2, Result.andThen, setBlock]
end Go.Proofs.YthcfhmebikcfpaaGreatDoor
