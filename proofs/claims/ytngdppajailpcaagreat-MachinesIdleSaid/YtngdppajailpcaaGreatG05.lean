/- Lemmas and walks on which the claims of this seat lean: Tr5 Bits Tr8 Tr10 Tr11 Tr13 It2 It3 It4 MSt PlanSet. -/
import Derived.Test.YtngdppajailpcaaGreatG01
import Derived.Test.YtngdppajailpcaaGreatG02
import Derived.Test.YtngdppajailpcaaGreatG04
import Derived.Deep.DeepCutAuto
import Derived.Laws.EntriesVeiled
import Derived.Lib.SliceRun
import Derived.Deep.RegionLaw

set_option linter.all false

namespace Go.Proofs.YtngdppajailpcaaGreat
open Go.RowKit

attribute [local go_sem] Holds.drew Holds.alloc Holds.drewN WB.holds

set_option maxRecDepth 100000 in
set_option maxHeartbeats 8000000 in
theorem checkT_any (vm vb vt : Value) (h : House) (H : Snap) (w : World) (hw : Holds H w) (hh : Hou H vm vb vt h) :
    Calls Tryz.prog 79 #[houV vm vb vt h] w (PostV w (.int .i64 (errT (valid h)))) := by
  obtain ⟨am, cm, rfl, hm1, hm2⟩ := hh.m.form
  obtain ⟨ab, cb, rfl, hb1, hb2⟩ := hh.b.form
  obtain ⟨at', ct, rfl, ht1, ht2⟩ := hh.t.form
  go_enter Tryz.func79, Tryz.ntmps79
  go_upto_region 2 with (refine wpList_boxF rfl _ rfl (Ext.refl hw) ?_; intro B w1 H1 hle hx hB hBw; obtain ⟨hc0, hc1, hc2, hc3⟩ := cellsHou hB; clear hB hw; have hw1 := hx.holds)
  have hmf : ∀ (fn : Fn) (first cap : Array Value) (w : World), (Instr.makeFunc fn first cap).run Tryz.prog w = .ok (.func fn first cap) w := fun _ _ _ _ => rfl
  have hn : H1 w1.heap.size = none := hw1.none_of_ge (Nat.le_refl _)
  have hxz := (hx.alloc (.cells #[.func (.func 105) #[] #[]] 135)).freeze hx.below.size (heap_alloc_new w1 _)
  have hle2 := Snap.le_put hn (.cells #[.func (.func 105) #[] #[]] 135 (0, 0))
  have hcF : ∀ w, Holds (H1.put w1.heap.size (.cells #[.func (.func 105) #[] #[]] 135 (0, 0))) w → w.cell? ⟨w1.heap.size, 0, none⟩ = some (.func (.func 105) #[] #[]) := fun w hw => cellH (Snap.put_same _ _ _) hw 0
  generalize H1.put w1.heap.size (.cells #[.func (.func 105) #[] #[]] 135 (0, 0)) = H2 at *
  generalize w1.alloc (.cells #[.func (.func 105) #[] #[]] 135) = wz at *
  generalize w1.heap.size = c at *
  replace hc0 := lift hle2 hc0
  replace hc1 := lift hle2 hc1
  replace hc2 := lift hle2 hc2
  replace hc3 := lift hle2 hc3
  have hwz := hxz.holds
  have hhz := (hh.mono hle).mono hle2
  clear hx hw1 hle hle2 hn
  cases g1 : within (h.ms.length : Int) 1 3
  · go_wp2_with (first | (go_at_call 106; refine (withinT_any _ _ _ _).mono ?_; rintro e w' ⟨rfl, rfl⟩))
    go_ret
    exact ⟨ret_int (errT_no (fun v => by rw [within_iff.2 ⟨by have := v.m1; omega, by have := v.m3; omega⟩] at g1; cases g1)).symm, hxz.below⟩
  · cases g2 : decide (5 < (h.bs.length : Int))
    rotate_left
    · go_wp2_with (first | (go_at_call 106; refine (withinT_any _ _ _ _).mono ?_; rintro e w' ⟨rfl, rfl⟩))
      go_ret
      exact ⟨ret_int (errT_no (fun v => by have := v.b5; have := of_decide_eq_true g2; omega)).symm, hxz.below⟩
    · cases g3 : decide (4 < (h.ts.length : Int))
      rotate_left
      · go_wp2_with (first | (go_at_call 106; refine (withinT_any _ _ _ _).mono ?_; rintro e w' ⟨rfl, rfl⟩))
        go_ret
        exact ⟨ret_int (errT_no (fun v => by have := v.t4; have := of_decide_eq_true g3; omega)).symm, hxz.below⟩
      · cases g4 : within h.ch 0 9
        · go_wp2_with (first | (go_at_call 106; refine (withinT_any _ _ _ _).mono ?_; rintro e w' ⟨rfl, rfl⟩))
          go_ret
          exact ⟨ret_int (errT_no (fun v => by have := v.ch; rw [this] at g4; cases g4)).symm, hxz.below⟩
        · cases g5 : h.ts.any fun n => !within n 0 99
          rotate_left
          · go_wp2_with (first | (go_at_call 106; refine (withinT_any _ _ _ _).mono ?_; rintro e w' ⟨rfl, rfl⟩) | (go_at_call 107; refine (containsInt_any _ _ _ _ _ hwz hhz.t (hcF _ hwz)).mono ?_; rintro e w' ⟨rfl, rfl⟩))
            go_ret
            exact ⟨ret_int (errT_no (fun v => by obtain ⟨x, hx, hx2⟩ := List.any_eq_true.1 g5; have := List.all_eq_true.1 v.ts x hx; rw [this] at hx2; cases hx2)).symm, hxz.below⟩
          · cases g6 : h.ms.any fun m => !okMach m
            rotate_left
            · go_wp2_with (first | (go_at_call 106; refine (withinT_any _ _ _ _).mono ?_; rintro e w' ⟨rfl, rfl⟩) | (go_at_call 107; refine (containsInt_any _ _ _ _ _ hwz hhz.t (hcF _ hwz)).mono ?_; rintro e w' ⟨rfl, rfl⟩) | (go_at_call 109; refine (containsMach_any _ _ _ _ _ hwz hhz.m hcF).mono ?_; rintro e w' ⟨rfl, hbM⟩; have hwM := hwz.below hbM; have hxM := hxz.step (hbM.mono hxz.below.size) hwM))
              go_ret
              exact ⟨ret_int (errT_no (fun v => by obtain ⟨x, hx, hx2⟩ := List.any_eq_true.1 g6; have := List.all_eq_true.1 v.ms x hx; rw [this] at hx2; cases hx2)).symm, hxM.below⟩
            · cases g7 : h.bs.any fun b => !okBund h.ts.length b
              rotate_left
              · go_wp2_with (first | (go_at_call 106; refine (withinT_any _ _ _ _).mono ?_; rintro e w' ⟨rfl, rfl⟩) | (go_at_call 107; refine (containsInt_any _ _ _ _ _ hwz hhz.t (hcF _ hwz)).mono ?_; rintro e w' ⟨rfl, rfl⟩) | (go_at_call 109; refine (containsMach_any _ _ _ _ _ hwz hhz.m hcF).mono ?_; rintro e w' ⟨rfl, hbM⟩; have hwM := hwz.below hbM; have hxM := hxz.step (hbM.mono hxz.below.size) hwM) | (go_at_call 111; refine (containsBund_any _ _ _ _ _ _ _ _ _ hwM hhz.b hhz hc0 hc1 hc2 hc3).mono ?_; rintro e w' ⟨rfl, hbB⟩; have hxB := hxM.step (hbB.mono hxM.below.size) (hwM.below hbB)))
                go_ret
                exact ⟨ret_int (errT_no (fun v => by obtain ⟨x, hx, hx2⟩ := List.any_eq_true.1 g7; have := List.all_eq_true.1 v.bs x hx; rw [this] at hx2; cases hx2)).symm, hxB.below⟩
              · have hyes : Valid h := by
                  have h1 := within_iff.1 g1
                  have h2 := of_decide_eq_false g2
                  have h3 := of_decide_eq_false g3
                  refine ⟨by omega, by omega, by omega, by omega, g4, ?_, ?_, ?_⟩
                  · rw [List.all_eq_true]; intro x hx; have := List.any_eq_false.1 g6 x hx; simpa using this
                  · rw [List.all_eq_true]; intro x hx; have := List.any_eq_false.1 g5 x hx; simpa using this
                  · rw [List.all_eq_true]; intro x hx; have := List.any_eq_false.1 g7 x hx; simpa using this
                go_wp2_with (first | (go_at_call 106; refine (withinT_any _ _ _ _).mono ?_; rintro e w' ⟨rfl, rfl⟩) | (go_at_call 107; refine (containsInt_any _ _ _ _ _ hwz hhz.t (hcF _ hwz)).mono ?_; rintro e w' ⟨rfl, rfl⟩) | (go_at_call 109; refine (containsMach_any _ _ _ _ _ hwz hhz.m hcF).mono ?_; rintro e w' ⟨rfl, hbM⟩; have hwM := hwz.below hbM; have hxM := hxz.step (hbM.mono hxz.below.size) hwM) | (go_at_call 111; refine (containsBund_any _ _ _ _ _ _ _ _ _ hwM hhz.b hhz hc0 hc1 hc2 hc3).mono ?_; rintro e w' ⟨rfl, hbB⟩; have hxB := hxM.step (hbB.mono hxM.below.size) (hwM.below hbB)))
                go_ret
                exact ⟨ret_int (errT_yes hyes).symm, hxB.below⟩

end Go.Proofs.YtngdppajailpcaaGreat

namespace Go.Proofs.YtngdppajailpcaaGreat
open Go.RowKit

def ub (acc : List Int) : Nat := acc.foldl (fun u b => u ||| 2 ^ b.toNat) 0
theorem ub_snoc (acc : List Int) (b : Int) : ub (acc ++ [b]) = ub acc ||| 2 ^ b.toNat := by unfold ub; rw [List.foldl_append]; rfl
theorem ub_lt_go {n : Nat} (hn : n ≤ 5) : ∀ (acc : List Int) (u : Nat), u < 2 ^ 5 → (∀ x ∈ acc, 0 ≤ x ∧ x ≤ (n : Int) - 1) → acc.foldl (fun u b => u ||| 2 ^ b.toNat) u < 2 ^ 5
  | [], _, hu, _ => hu
  | b :: acc, u, hu, h => by
    refine ub_lt_go hn acc _ (Nat.or_lt_two_pow hu ?_) (fun x hx => h x (by simp [hx]))
    have := h b (by simp)
    exact Nat.pow_lt_pow_right (by decide) (by omega)
theorem ub_lt {n : Nat} (hn : n ≤ 5) {acc : List Int} (h : ∀ x ∈ acc, 0 ≤ x ∧ x ≤ (n : Int) - 1) : ub acc < 32 := ub_lt_go hn acc 0 (by decide) h
theorem ub_test_go (b : Nat) : ∀ (acc : List Int) (u : Nat), (∀ x ∈ acc, 0 ≤ x) → (acc.foldl (fun u b => u ||| 2 ^ b.toNat) u).testBit b = (u.testBit b || decide ((b : Int) ∈ acc))
  | [], u, _ => by simp
  | c :: acc, u, h => by
    simp only [List.foldl_cons]
    rw [ub_test_go b acc _ (fun x hx => h x (by simp [hx])), Nat.testBit_or, Nat.testBit_two_pow]
    have hc := h c (by simp)
    have : decide (c.toNat = b) = decide ((b : Int) = c) := decide_eq_decide.2 (by omega)
    rw [this, Bool.or_assoc]
    congr 1
    simp
theorem ub_test {acc : List Int} (h : ∀ x ∈ acc, 0 ≤ x) (b : Nat) : (ub acc).testBit b = decide ((b : Int) ∈ acc) := by
  unfold ub; rw [ub_test_go b acc 0 h]; simp

theorem bits_and5 : ∀ u : Fin 32, ∀ b : Fin 5, bits .and .i64 ((u.val : Int) / 2 ^ b.val) 1 = ((u.val / 2 ^ b.val % 2 : Nat) : Int) := by decide
theorem bits_or5 : ∀ u : Fin 32, ∀ b : Fin 5, bits .or .i64 (u.val : Int) (2 ^ b.val) = ((u.val ||| 2 ^ b.val : Nat) : Int) := by decide
theorem bits_andNot5 : ∀ u : Fin 32, ∀ b : Fin 5, u.val.testBit b.val = false → bits .andNot .i64 ((u.val ||| 2 ^ b.val : Nat) : Int) (2 ^ b.val) = (u.val : Int) := by decide

/-- 'used >> b & 1' -/
theorem used_bit {n : Nat} (hn : n ≤ 5) {acc : List Int} (h : ∀ x ∈ acc, 0 ≤ x ∧ x ≤ (n : Int) - 1) {b : Nat} (hb : b < n) : bits .and .i64 ((ub acc : Int) / 2 ^ b) 1 = if (b : Int) ∈ acc then 1 else 0 := by
  have h1 := bits_and5 ⟨ub acc, ub_lt hn h⟩ ⟨b, by omega⟩
  simp only at h1
  rw [h1]
  have h2 := ub_test (fun x hx => (h x hx).1) b
  rw [Nat.testBit_eq_decide_div_mod_eq] at h2
  by_cases hm : (b : Int) ∈ acc
  · rw [decide_eq_true hm] at h2
    rw [if_pos hm, of_decide_eq_true h2]; rfl
  · rw [decide_eq_false hm] at h2
    rw [if_neg hm]
    have := of_decide_eq_false h2
    omega
/-- 'used |= 1 << b' -/
theorem used_or {n : Nat} (hn : n ≤ 5) {acc : List Int} (h : ∀ x ∈ acc, 0 ≤ x ∧ x ≤ (n : Int) - 1) {b : Nat} (hb : b < n) : bits .or .i64 (ub acc : Int) (2 ^ b) = (ub (acc ++ [(b : Int)]) : Nat) := by
  have h1 := bits_or5 ⟨ub acc, ub_lt hn h⟩ ⟨b, by omega⟩
  simp only at h1
  rw [h1, ub_snoc, Int.toNat_natCast]
theorem used_andNot {n : Nat} (hn : n ≤ 5) {acc : List Int} (h : ∀ x ∈ acc, 0 ≤ x ∧ x ≤ (n : Int) - 1) {b : Nat} (hb : b < n) (hm : (b : Int) ∉ acc) : bits .andNot .i64 (ub (acc ++ [(b : Int)]) : Nat) (2 ^ b) = (ub acc : Int) := by
  have h2 := ub_test (fun x hx => (h x hx).1) b
  rw [decide_eq_false hm] at h2
  have h1 := bits_andNot5 ⟨ub acc, ub_lt hn h⟩ ⟨b, by omega⟩ h2
  simp only at h1
  rw [ub_snoc, Int.toNat_natCast, h1]

theorem pow_small : ∀ b : Fin 5, 0 ≤ (2 : Int) ^ b.val ∧ (2 : Int) ^ b.val ≤ 16 := by decide
theorem pow_wrap {b : Nat} (hb : b < 5) : wrap64 (2 ^ b) = 2 ^ b := by
  have := pow_small ⟨b, hb⟩
  simp only at this
  unfold wrap64
  generalize (2 : Int) ^ b = x at *
  omega

end Go.Proofs.YtngdppajailpcaaGreat

namespace Go.Proofs.YtngdppajailpcaaGreat
open Go.RowKit

attribute [local go_sem] Holds.drew Holds.alloc Holds.drewN WB.holds

theorem askT_any (vm vb vt : Value) (h : House) (is : Bool) (H : Snap) (w : World) (hw : Holds H w) (hh : Hou H vm vb vt h) :
    Calls Tryz.prog 142 #[houV vm vb vt h, .bool is] w (PostV w (.int .i64 (errA (valid h) is))) := by
  cases hv : valid h
  · have he : errT (valid h) = 40 := by rw [hv]; rfl
    go_enter Tryz.func142, Tryz.ntmps142
    go_wp2_with (first | (refine wpList_boxF rfl _ rfl (Ext.refl hw) ?_; intro B w1 H1 hle hx hB hBw; obtain ⟨hc0, hc1, hc2, hc3⟩ := cellsHou hB; clear hB hw; have hw1 := hx.holds) | (go_at_call 79; refine (checkT_any _ _ _ _ _ _ hw1 (hh.mono hle)).mono ?_; rintro e w' ⟨rfl, hb2⟩))
    go_ret
    exact ⟨rfl, hx.below.trans (hb2.mono hx.below.size)⟩
  · have he : errT (valid h) = 0 := by rw [hv]; rfl
    cases is
    all_goals
      go_enter Tryz.func142, Tryz.ntmps142
      go_wp2_with (first | (refine wpList_boxF rfl _ rfl (Ext.refl hw) ?_; intro B w1 H1 hle hx hB hBw; obtain ⟨hc0, hc1, hc2, hc3⟩ := cellsHou hB; clear hB hw; have hw1 := hx.holds) | (go_at_call 79; refine (checkT_any _ _ _ _ _ _ hw1 (hh.mono hle)).mono ?_; rintro e w' ⟨rfl, hb2⟩))
      go_ret
      exact ⟨rfl, hx.below.trans (hb2.mono hx.below.size)⟩

end Go.Proofs.YtngdppajailpcaaGreat

namespace Go.Proofs.YtngdppajailpcaaGreat
open Go.RowKit

attribute [local go_sem] Holds.drew Holds.alloc Holds.drewN WB.holds

set_option maxRecDepth 100000 in
set_option maxHeartbeats 4000000 in
theorem isPlanT_any (vm vb vt vp : Value) (h : House) (plan : List (List Int)) (H : Snap) (w : World) (hw : Holds H w) (hh : Hou H vm vb vt h) (hp : Sl H vp plan) (hb5 : h.bs.length ≤ 5) :
    Calls Tryz.prog 143 #[houV vm vb vt h, vp] w (PostV w (.bool (isPlan h plan))) := by
  obtain ⟨am, cm, rfl, hm1, hm2⟩ := hh.m.form
  obtain ⟨ab, cb, rfl, hb1, hb2⟩ := hh.b.form
  obtain ⟨ap, cp, rfl, hp1, hp2⟩ := hp.form
  go_enter Tryz.func143, Tryz.ntmps143
  go_wp2_with (first | (refine wpList_boxF rfl _ rfl (Ext.refl hw) ?_; intro B w1 H1 hle hx hB hBw; obtain ⟨hc0, hc1, hc2, hc3⟩ := cellsHou hB; clear hB hw; have hw1 := hx.holds))
  have hpm := hp.mono hle
  go_loopw [5, 7, 9, 12] (fun u _ _ i wr => ∃ (k : Nat) (acc : List Int), k ≤ plan.length ∧ i = .int .i64 k ∧ u = .int .i64 (ub acc : Nat) ∧ Hid (acc = (plan.take k).flatten) ∧ Hid (goodAll h.bs.length acc = true) ∧ Ext w H wr H1) (fun _ _ _ i _ => plan.length - (intOf i).toNat)
  case atStart => exact ⟨0, [], Nat.zero_le _, rfl, rfl, rfl, goodAll_nil _, hx⟩
  case round =>
    clear hx hw1
    obtain ⟨m, acc, hm, rfl, rfl, hacc, hok, hxr⟩ := hrel
    have hwr := hxr.holds
    by_cases hlm : m < plan.length
    · obtain ⟨l, hml⟩ := At.mk hlm
      obtain ⟨b, o, c, u, he, hu, hr⟩ := hpm.list hml
      cases he
      obtain ⟨al, cl, rfl, hl1, hl2⟩ := hu.form
      go_wp2_with fail
      go_loopw [5, 9, 18] (fun u _ i wr => ∃ (k : Nat) (ac : List Int), k ≤ l.length ∧ i = .int .i64 k ∧ u = .int .i64 (ub ac : Nat) ∧ Hid (ac = acc ++ l.take k) ∧ Hid (goodAll h.bs.length ac = true) ∧ Ext w H wr H1) (fun _ _ i _ => l.length - (intOf i).toNat)
      case atStart => exact ⟨0, acc, Nat.zero_le _, rfl, rfl, by simp [Hid], hok, hxr⟩
      case round =>
        clear hxr hwr
        obtain ⟨k, ac, hk, rfl, rfl, hac, hok2, hxr⟩ := hrel
        have hwr := hxr.holds
        by_cases hlk : k < l.length
        · obtain ⟨x, hxk⟩ := At.mk hlk
          obtain ⟨b', o', c', he, hi, hr'⟩ := hu.int hxk
          cases he
          have hin := (goodAll_iff.1 hok2.out).1
          have hsplit : ∃ r, plan.flatten = (ac ++ [x]) ++ r := by
            obtain ⟨r, hr⟩ := flatten_split hml hxk
            exact ⟨r, by rw [hr, hac.out, hacc.out]⟩
          have hno : goodAll h.bs.length (ac ++ [x]) = false → Hid (isPlan h plan = false) := fun e => by
            show _ = _
            obtain ⟨r, hr⟩ := hsplit
            have : goodAll h.bs.length plan.flatten = false := by
              cases hg : goodAll h.bs.length plan.flatten with
              | false => rfl
              | true => rw [hr] at hg; rw [goodAll_pre hg] at e; cases e
            simp [isPlan, this]
          cases g1 : within x 0 ((h.bs.length : Int) - 1)
          · have hno' := hno (by
              cases hg : goodAll h.bs.length (ac ++ [x]) with
              | false => rfl
              | true => rw [within_iff.2 ((goodAll_iff.1 hg).1 x (by simp))] at g1; cases g1)
            clear hno hsplit hin
            go_wp2_with (first | (go_at_call 106; refine (withinT_any _ _ _ _).mono ?_; rintro e w' ⟨rfl, rfl⟩))
            go_ret
            exact ⟨ret_bool hno'.out.symm, hxr.below⟩
          · have g1b := within_iff.1 g1
            obtain ⟨j, rfl⟩ := Int.eq_ofNat_of_zero_le g1b.1
            have hj : j < h.bs.length := by omega
            have hubit := used_bit hb5 hin hj
            have huor := used_or hb5 hin hj
            have hub := ub_lt hb5 hin
            by_cases hmem : (j : Int) ∈ ac
            · rw [if_pos hmem] at hubit
              have hno' := hno (by
                cases hg : goodAll h.bs.length (ac ++ [(j : Int)]) with
                | false => rfl
                | true => exact absurd rfl ((List.nodup_append.1 (goodAll_iff.1 hg).2).2.2 _ hmem _ (by simp)))
              replace hmem := Lib.hid hmem
              clear hno hsplit hin
              go_wp2_with (first | (go_at_call 106; refine (withinT_any _ _ _ _).mono ?_; rintro e w' ⟨rfl, rfl⟩))
              go_ret
              exact ⟨ret_bool hno'.out.symm, hxr.below⟩
            · rw [if_neg hmem] at hubit
              have hgood := Lib.hid (goodAll_snoc hok2.out g1 hmem)
              replace hmem := Lib.hid hmem
              clear hno hsplit hin
              go_wp2_with (first | (go_at_call 106; refine (withinT_any _ _ _ _).mono ?_; rintro e w' ⟨rfl, rfl⟩))
              go_roundw
              case rel => exact ⟨k + 1, ac ++ [(j : Int)], by omega, by go_num, by rw [pow_wrap (by omega), huor], by show _ = _; rw [hac.out, hxk.take, List.append_assoc], hgood, hxr⟩
              case measure => simp [intOf]; omega
        · go_wp2_with fail
          go_roundw
          case rel => exact ⟨m + 1, ac, by omega, by go_num, rfl, by show _ = _; rw [hac.out, hacc.out, flatten_take hml, take_all (xs := l) (k := k) (by omega)], hok2, hxr⟩
          case measure => simp [intOf]; omega
    · have hall : goodAll h.bs.length plan.flatten = true := by
        have := hok.out
        rw [hacc.out, take_all (xs := plan) (k := m) (by omega)] at this
        exact this
      replace hall := Lib.hid hall
      go_wp2_with fail
      go_ret
      refine ⟨ret_bool ?_, hxr.below⟩
      unfold isPlan
      rw [hall.out, Bool.and_true]
      by_cases e : plan.length = h.ms.length
      · simp [e]
      · rw [decide_eq_false e]
        simp; omega

end Go.Proofs.YtngdppajailpcaaGreat

namespace Go.Proofs.YtngdppajailpcaaGreat
open Go.RowKit

attribute [local go_sem] Holds.drew Holds.alloc Holds.drewN WB.holds

theorem plannedT_any (vm vb vt vp : Value) (h : House) (plan : List (List Int)) (H : Snap) (w : World) (hw : Holds H w) (hh : Hou H vm vb vt h) (hp : Sl H vp plan) :
    Calls Tryz.prog 127 #[houV vm vb vt h, vp] w (PostV w (.int .i64 (errA (valid h) (isPlan h plan)))) := by
  cases hv : valid h
  · have he : errT (valid h) = 40 := by rw [hv]; rfl
    go_enter Tryz.func127, Tryz.ntmps127
    go_wp2_with (first | (refine wpList_boxF rfl _ rfl (Ext.refl hw) ?_; intro B w1 H1 hle hx hB hBw; obtain ⟨hc0, hc1, hc2, hc3⟩ := cellsHou hB; clear hB hw; have hw1 := hx.holds) | (go_at_call 79; refine (checkT_any _ _ _ _ _ _ hw1 (hh.mono hle)).mono ?_; rintro e w' ⟨rfl, hb2⟩))
    go_ret
    exact ⟨rfl, hx.below.trans (hb2.mono hx.below.size)⟩
  · have he : errT (valid h) = 0 := by rw [hv]; rfl
    have hV := valid_iff.1 hv
    go_enter Tryz.func127, Tryz.ntmps127
    go_wp2_with (first | (refine wpList_boxF rfl _ rfl (Ext.refl hw) ?_; intro B w1 H1 hle hx hB hBw; obtain ⟨hc0, hc1, hc2, hc3⟩ := cellsHou hB; clear hB hw; have hw1 := hx.holds) | (go_at_call 79; refine (checkT_any _ _ _ _ _ _ hw1 (hh.mono hle)).mono ?_; rintro e w' ⟨rfl, hb2⟩; have hw2 := hw1.below hb2))
    try clear h
    have hx2 := hx.step (hb2.mono hx.below.size) hw2
    refine wp_region_quietB H1 (by kernel_rfl) (by kernel_rfl) hw2 (fun hne => ?_)
    repeat go_big_quiet_step ((first | (go_at_call 143; exact Calls.quietB (isPlanT_any _ _ _ _ _ _ _ _ (WB.holds _) (hh.mono hle) (hp.mono hle) hV.b5)) | (go_at_call 142; exact Calls.quietB (askT_any _ _ _ _ _ _ _ (WB.holds _) (hh.mono hle)))))
    refine wpQuiet_nil ?_
    rintro ⟨w3, hw3, hb3⟩
    clear hne
    go_wp2_with fail
    go_ret
    exact ⟨by rw [hv]; rfl, (hx2.step (hb3.mono hx2.below.size) hw3).below⟩

end Go.Proofs.YtngdppajailpcaaGreat

namespace Go.Proofs.YtngdppajailpcaaGreat
open Go.RowKit

attribute [local go_sem] Holds.drew Holds.alloc Holds.drewN WB.holds

/-- The numbers of a set of bits. -/
def setTo (s : Nat) (k : Nat) : List Int := ((List.range k).filter fun i => s.testBit i).map Int.ofNat
def setList (s : Nat) : List Int := setTo s 4
theorem setTo_succ (s k : Nat) : setTo s (k + 1) = if s.testBit k then setTo s k ++ [(k : Int)] else setTo s k := by
  unfold setTo
  rw [List.range_succ, List.filter_append]
  cases e : s.testBit k <;> simp [e]
theorem setTo_len (s k : Nat) : (setTo s k).length ≤ k := by
  unfold setTo
  rw [List.length_map]
  exact Nat.le_trans (List.length_filter_le _ _) (by simp)
theorem bits_set4 : ∀ s : Fin 16, ∀ k : Fin 4, bits .and .u64 ((s.val : Int) / 2 ^ k.val) 1 = if s.val.testBit k.val then 1 else 0 := by decide

set_option maxRecDepth 100000 in
set_option maxHeartbeats 4000000 in
theorem setList_any (s : Nat) (hs : s < 16) (H : Snap) (w : World) (hw : Holds H w) :
    Calls Tryz.prog 130 #[.int .u64 s] w (Post w H fun v H' => Sl H' v (setList s)) := by
  go_enter Tryz.func130, Tryz.ntmps130
  go_wp2
  go_loopw [3, 4, 5] (fun v _ i wr => ∃ (k : Nat) (acc : List Int), k ≤ 4 ∧ i = .int .i64 k ∧ Hid (acc = setTo s k) ∧ Ext w H wr H ∧ Own H w.heap.size wr 3 v acc) (fun _ _ i _ => 4 - (intOf i).toNat)
  case atStart => exact ⟨0, [], Nat.zero_le _, rfl, rfl, Ext.refl hw, Own.nil _ _ _ _⟩
  case round =>
    obtain ⟨k, acc, hk, rfl, hacc, hxr, hown⟩ := hrel
    have hwr := hxr.holds
    by_cases hlk : k < 4
    · have hb := bits_set4 ⟨s, hs⟩ ⟨k, hlk⟩
      simp only at hb
      have hsucc := setTo_succ s k
      have hacl : acc.length ≤ 4 := by rw [hacc.out]; exact Nat.le_trans (setTo_len s k) (by omega)
      cases g : s.testBit k
      all_goals
        rw [g] at hb hsucc
        replace hsucc := Lib.hid hsucc
        replace g := Lib.hid g
      · rw [if_neg (by decide)] at hb
        go_wp2_with fail
        go_roundw
        case rel => exact ⟨k + 1, acc, by omega, by go_num, by show acc = _; rw [hacc.out, hsucc.out]; rfl, hxr, hown⟩
        case measure => simp [intOf]; omega
      · rw [if_pos rfl] at hb
        obtain ⟨av, cv, ev, _, _⟩ := hown.form
        subst ev
        go_wp2_with (first | ((at_builtin; have hgd := hown; clear hgd; refine wpList_app1I eInt _ _ hxr hown (k : Int) (by unfold I64; omega) (by omega) rfl rfl rfl rfl ?_; intro vA wA hownA hxA hwA)))
        go_roundw
        case rel => exact ⟨k + 1, acc ++ [(k : Int)], by omega, by go_num, by show _ = _; rw [hsucc.out, hacc.out]; rfl, hxA, hownA⟩
        case measure => simp [intOf]; omega
    · go_wp2_with fail
      go_ret
      obtain ⟨H', hx', hle', hs', _⟩ := hown.close hxr
      refine ⟨_, H', rfl, hx', ?_⟩
      rw [hacc.out, show k = 4 by omega] at hs'
      exact hs'

set_option maxRecDepth 100000 in
theorem cloneT_any (va : Value) (xs : List Int) (H : Snap) (w : World) (hw : Holds H w) (ha : Sl H va xs) (hl : xs.length ≤ 1000000) :
    Calls Tryz.prog 49 #[va] w (Post w H fun v H' => Sl H' v xs) := by
  have ha' := ha
  have heq : ∀ (w : World) (a : Option Addr) (n c n' c' : Nat), _ := fun w a n c n' c' => Go.Lib.run_eql_slice_nil (P := Tryz.prog) w 24 3 a n c n' c' Tryz.underlying24
  obtain ⟨aa, ca, rfl, ha1, ha2, ha3, h5⟩ := ha
  cases aa with
  | none =>
    have hx : xs = [] := by
      rcases h5 with h | ⟨b, o, cur, e, fr, h, _⟩
      · exact h
      · cases h
    subst hx
    go_enter Tryz.func49, Tryz.ntmps49
    go_wp2
    go_ret
    exact ⟨_, H, rfl, Ext.refl hw, Sl.nil0 _⟩
  | some a =>
    clear h5
    go_enter Tryz.func49, Tryz.ntmps49
    go_wp2_with (first | ((refine wpList_appX (w0 := w) (H0 := H) eInt rfl _ _ rfl ((Ext.refl hw).alloc _) rfl (Own.emptyAt (heap_alloc_new _ _) (Nat.le_refl _) (hw.none_of_ge (Nat.le_refl _))) rfl ha' (by simp [Enc.by_]; omega) (by simp; omega) ?_; intro vB wB hownB hxB hwB hgB; rw [List.nil_append] at hownB)))
    go_ret
    obtain ⟨H', hx', _, hs', _⟩ := hownB.close hxB
    exact ⟨_, H', rfl, hx', hs'⟩

end Go.Proofs.YtngdppajailpcaaGreat

namespace Go.Proofs.YtngdppajailpcaaGreat
open Go.RowKit

attribute [local go_sem] Holds.drew Holds.alloc Holds.drewN WB.holds

/-- The trains that are late, by when they are ready. -/
def lateBy (h : House) (r : List Int) (k : Nat) : List Int := ((List.range k).filter fun i => decide (h.ts.getD i 0 < r.getD i 0)).map Int.ofNat
theorem lateBy_succ (h : House) (r : List Int) (k : Nat) : lateBy h r (k + 1) = if h.ts.getD k 0 < r.getD k 0 then lateBy h r k ++ [(k : Int)] else lateBy h r k := by
  unfold lateBy
  rw [List.range_succ, List.filter_append]
  by_cases e : h.ts.getD k 0 < r.getD k 0
  · rw [if_pos e, List.map_append]; simp only [List.filter_cons, decide_eq_true e, List.filter_nil]; rfl
  · rw [if_neg e, List.map_append]; simp only [List.filter_cons, decide_eq_false e, List.filter_nil]; simp
theorem lateBy_mem {h : House} {r : List Int} {k : Nat} {x : Int} (hx : x ∈ lateBy h r k) : 0 ≤ x ∧ x ≤ (k : Int) - 1 := by
  unfold lateBy at hx
  obtain ⟨i, hi, rfl⟩ := List.mem_map.1 hx
  have := List.mem_range.1 (List.mem_filter.1 hi).1
  constructor
  · exact Int.natCast_nonneg i
  · have : (i : Int) < k := Int.ofNat_lt.2 this
    show (i : Int) ≤ _
    omega
theorem bits_or5u : ∀ u : Fin 32, ∀ b : Fin 5, bits .or .u64 (u.val : Int) (2 ^ b.val) = ((u.val ||| 2 ^ b.val : Nat) : Int) := by decide
theorem used_orU {n : Nat} (hn : n ≤ 5) {acc : List Int} (h : ∀ x ∈ acc, 0 ≤ x ∧ x ≤ (n : Int) - 1) {b : Nat} (hb : b < 5) : bits .or .u64 (ub acc : Int) (2 ^ b) = (ub (acc ++ [(b : Int)]) : Nat) := by
  have h1 := bits_or5u ⟨ub acc, ub_lt hn h⟩ ⟨b, by omega⟩
  simp only at h1
  rw [h1, ub_snoc, Int.toNat_natCast]

theorem pow_wrapU5 : ∀ b : Fin 5, IntKind.u64.wrap (2 ^ b.val) = 2 ^ b.val := by decide
theorem pow_wrapU {b : Nat} (hb : b < 5) : IntKind.u64.wrap (2 ^ b) = 2 ^ b := pow_wrapU5 ⟨b, hb⟩

set_option maxRecDepth 100000 in
set_option maxHeartbeats 4000000 in
theorem lateT_any (vm vb vt : Value) (h : House) (r0 r1 r2 r3 : Int) (H : Snap) (w : World) (hw : Holds H w) (hh : Hou H vm vb vt h) (ht4 : h.ts.length ≤ 4)
    (hr : (-1 ≤ r0 ∧ r0 ≤ 2000000) ∧ (-1 ≤ r1 ∧ r1 ≤ 2000000) ∧ (-1 ≤ r2 ∧ r2 ≤ 2000000) ∧ (-1 ≤ r3 ∧ r3 ≤ 2000000)) :
    Calls Tryz.prog 116 #[houV vm vb vt h, .agg #[.int .i64 r0, .int .i64 r1, .int .i64 r2, .int .i64 r3]] w (PostV w (.int .u64 (ub (lateBy h [r0, r1, r2, r3] h.ts.length) : Nat))) := by
  obtain ⟨at', ct, rfl, ht1, ht2⟩ := hh.t.form
  go_enter Tryz.func116, Tryz.ntmps116
  go_upto_region 1 with (refine wpList_boxF rfl _ rfl (Ext.refl hw) ?_; intro B w1 H1 hle hx hB hBw; obtain ⟨hc0, hc1, hc2, hc3⟩ := cellsHou hB; clear hB hw; have hw1 := hx.holds)
  have hn : H1 w1.heap.size = none := hw1.none_of_ge (Nat.le_refl _)
  have hxz := (hx.alloc (.cells #[.int .i64 r0, .int .i64 r1, .int .i64 r2, .int .i64 r3] 146)).freeze hx.below.size (heap_alloc_new w1 _)
  have hle2 := Snap.le_put hn (.cells #[.int .i64 r0, .int .i64 r1, .int .i64 r2, .int .i64 r3] 146 (0, 0))
  obtain ⟨r, hrr⟩ : ∃ r, Hid (r = [r0, r1, r2, r3]) := ⟨_, rfl⟩
  have hcr : ∀ k, k < 4 → ∃ x, At r k x ∧ (-1 ≤ x ∧ x ≤ 2000000) ∧ ∀ w, Holds (H1.put w1.heap.size (.cells #[.int .i64 r0, .int .i64 r1, .int .i64 r2, .int .i64 r3] 146 (0, 0))) w → w.cell? ⟨w1.heap.size, k, none⟩ = some (.int .i64 x) := by
    intro k hk
    have hc := fun (w : World) (hw : Holds (H1.put w1.heap.size (.cells #[.int .i64 r0, .int .i64 r1, .int .i64 r2, .int .i64 r3] 146 (0, 0))) w) => cellH (Snap.put_same _ _ _) hw k
    rw [hrr.out]
    match k, hk with
    | 0, _ => exact ⟨r0, rfl, hr.1, fun w hw => (hc w hw).trans rfl⟩
    | 1, _ => exact ⟨r1, rfl, hr.2.1, fun w hw => (hc w hw).trans rfl⟩
    | 2, _ => exact ⟨r2, rfl, hr.2.2.1, fun w hw => (hc w hw).trans rfl⟩
    | 3, _ => exact ⟨r3, rfl, hr.2.2.2, fun w hw => (hc w hw).trans rfl⟩
  generalize H1.put w1.heap.size (.cells #[.int .i64 r0, .int .i64 r1, .int .i64 r2, .int .i64 r3] 146 (0, 0)) = H2 at *
  generalize w1.alloc (.cells #[.int .i64 r0, .int .i64 r1, .int .i64 r2, .int .i64 r3] 146) = wz at *
  generalize w1.heap.size = c at *
  replace hc0 := lift hle2 hc0
  replace hc1 := lift hle2 hc1
  replace hc2 := lift hle2 hc2
  replace hc3 := lift hle2 hc3
  have hwz := hxz.holds
  have htz := (hh.t.mono hle).mono hle2
  replace hcr := Lib.hid hcr
  clear hx hw1 hle hle2 hn
  go_wp2_with fail
  go_loopw [5, 6, 7, 11] (fun u _ _ i wr => ∃ (k : Nat) (acc : List Int), k ≤ h.ts.length ∧ i = .int .i64 k ∧ u = .int .u64 (ub acc : Nat) ∧ Hid (acc = lateBy h r k) ∧ Ext w H wr H2) (fun _ _ _ i _ => h.ts.length - (intOf i).toNat)
  case atStart => exact ⟨0, [], Nat.zero_le _, rfl, rfl, rfl, hxz⟩
  case round =>
    clear hxz hwz
    obtain ⟨k, acc, hk, rfl, rfl, hacc, hxr⟩ := hrel
    have hwr := hxr.holds
    by_cases hlk : k < h.ts.length
    · obtain ⟨t, htk⟩ := At.mk hlk
      obtain ⟨b, o, cc, he, hi, hrt⟩ := htz.int htk
      cases he
      obtain ⟨x, hxk, hxb, hcx⟩ := hcr.out k (by omega)
      have hsucc := lateBy_succ h r k
      rw [htk.getD, hxk.getD, ← hacc.out] at hsucc
      have hor := used_orU (n := 4) (by omega) (acc := acc) (fun y hy => by rw [hacc.out] at hy; have := lateBy_mem hy; omega) (b := k) (by omega)
      cases g : decide (t < x)
      · rw [if_neg (of_decide_eq_false g)] at hsucc
        replace hsucc := Lib.hid hsucc
        go_wp2_with fail
        go_roundw
        case rel => exact ⟨k + 1, acc, by omega, by go_num, rfl, hsucc.out.symm, hxr⟩
        case measure => simp [intOf]; omega
      · rw [if_pos (of_decide_eq_true g)] at hsucc
        replace hsucc := Lib.hid hsucc
        go_wp2_with fail
        go_roundw
        case rel => exact ⟨k + 1, acc ++ [(k : Int)], by omega, by go_num, by rw [pow_wrapU (by omega), hor], hsucc.out.symm, hxr⟩
        case measure => simp [intOf]; omega
    · go_wp2_with fail
      go_ret
      exact ⟨by rw [← hrr.out, ← show k = h.ts.length by omega, ← hacc.out]; rfl, hxr.below⟩

end Go.Proofs.YtngdppajailpcaaGreat

namespace Go.Proofs.YtngdppajailpcaaGreat
open Go.RowKit

/-- Block b is an array of the call's own: these numbers. -/
structure Row (H : Snap) (base : Nat) (w : World) (t : TypeId) (b : Nat) (xs : List Int) : Prop where
  at_ : w.heap[b]? = some (.cells (xs.map (Value.int .i64)).toArray t (0, 0))
  base : base ≤ b
  free : H b = none

section
variable {H H' : Snap} {base b : Nat} {w w' : World} {t : TypeId} {xs : List Int}
theorem Row.lt (h : Row H base w t b xs) : b < w.heap.size := (Array.getElem?_eq_some_iff.1 h.at_).1
theorem Row.cell (h : Row H base w t b xs) {i : Nat} {x : Int} (hx : At xs i x) : w.cell? ⟨b, i, none⟩ = some (.int .i64 x) := by
  rw [cell_of_row w b i _ _ _ h.at_]
  simp [show xs[i]? = some x from hx]
theorem Row.fz (h : Row H base w t b xs) (i : Nat) : w.frozen? ⟨b, i, none⟩ = false := by simp [World.frozen?, h.at_]
theorem Row.set (h : Row H base w t b xs) (i : Nat) (y : Int) : Row H base (w.setCell ⟨b, i, none⟩ (.int .i64 y)) t b (xs.set i y) := by
  refine ⟨?_, h.base, h.free⟩
  have := heap_setCell_row (i := i) h.at_ (.int .i64 y)
  rw [this]
  simp [List.map_set]
theorem Row.ext (h : Row H base w t b xs) (hx : Ext w H w' H') : Row H' base w' t b xs :=
  ⟨(hx.below.block b h.lt).trans h.at_, h.base, (hx.same b h.lt).trans h.free⟩
theorem Row.snap (h : Row H base w t b xs) (hf : H' b = none) : Row H' base w t b xs := ⟨h.at_, h.base, hf⟩
theorem Row.drew (h : Row H base w t b xs) : Row H base w.drew t b xs := ⟨h.at_, h.base, h.free⟩
theorem Row.alloc (h : Row H base w t b xs) (o : Obj) : Row H base (w.alloc o) t b xs := ⟨(heap_alloc_old w o h.lt).trans h.at_, h.base, h.free⟩
theorem Row.other (h : Row H base w t b xs) {a : Addr} (ha : a.block ≠ b) (v : Value) : Row H base (w.setCell a v) t b xs := by
  refine ⟨?_, h.base, h.free⟩
  show (w.heap.modify a.block _)[b]? = _
  rw [Array.getElem?_modify, if_neg ha]
  exact h.at_
end

end Go.Proofs.YtngdppajailpcaaGreat

namespace Go.Proofs.YtngdppajailpcaaGreat

def padT (h : House) (plan : List (List Int)) : List Int := timesTo h 0 plan (List.replicate 5 (-1))

theorem runTo_pad (h : House) (mc : Mach) (r : List Int) : ∀ (l : List Int) (ts : List Int) (now : Int) (prev : Option Int), (∀ x ∈ l, 0 ≤ x ∧ x < (ts.length : Int)) → runTo h mc l (ts ++ r, now, prev) = ((runTo h mc l (ts, now, prev)).1 ++ r, (runTo h mc l (ts, now, prev)).2)
  | [], _, _, _, _ => rfl
  | b :: l, ts, now, prev, hl => by
    have hb := hl b (by simp)
    simp only [runTo]
    rw [List.set_append_left _ _ (by omega)]
    exact runTo_pad h mc r l _ _ _ (fun x hx => by rw [List.length_set]; exact hl x (by simp [hx]))
theorem timesTo_pad (h : House) (r : List Int) : ∀ (p : List (List Int)) (m : Nat) (ts : List Int), (∀ x ∈ p.flatten, 0 ≤ x ∧ x < (ts.length : Int)) → timesTo h m p (ts ++ r) = timesTo h m p ts ++ r
  | [], _, _, _ => rfl
  | l :: p, m, ts, hp => by
    simp only [timesTo, runList]
    rw [runTo_pad h (mach h m) r l ts _ none (fun x hx => hp x (by simp [hx]))]
    exact timesTo_pad h r p (m + 1) _ (fun x hx => by rw [runTo_len]; exact hp x (by simp [hx]))
theorem padT_eq {h : House} (hb : h.bs.length ≤ 5) {plan : List (List Int)} (hp : isPlan h plan = true) : padT h plan = timesOf h plan ++ List.replicate (5 - h.bs.length) (-1) := by
  unfold padT timesOf
  rw [show List.replicate 5 (-1 : Int) = List.replicate h.bs.length (-1) ++ List.replicate (5 - h.bs.length) (-1) by rw [List.replicate_append_replicate, show h.bs.length + (5 - h.bs.length) = 5 by omega]]
  refine timesTo_pad h _ plan 0 _ (fun x hx => ?_)
  simp only [isPlan, Bool.and_eq_true] at hp
  have := (goodAll_iff.1 hp.2).1 x hx
  rw [List.length_replicate]; omega
theorem padT_len (h : House) (plan : List (List Int)) : (padT h plan).length = 5 := by unfold padT; rw [timesTo_len]; rfl

end Go.Proofs.YtngdppajailpcaaGreat

namespace Go.Proofs.YtngdppajailpcaaGreat
open Go.RowKit

attribute [local go_sem] Holds.drew Holds.alloc Holds.drewN WB.holds

/-- An array of numbers as a value. -/
def arr (xs : List Int) : Value := .agg (xs.map (Value.int .i64)).toArray

set_option maxRecDepth 100000 in
set_option maxHeartbeats 4000000 in
theorem timed_any (vm vb vt vp : Value) (h : House) (plan : List (List Int)) (H : Snap) (w : World) (hw : Holds H w) (hh : Hou H vm vb vt h) (hp : Sl H vp plan) (hv : Valid h) (hpl : isPlan h plan = true) :
    Calls Tryz.prog 129 #[houV vm vb vt h, vp] w (PostV w (arr (padT h plan))) := by
  obtain ⟨am, cm, rfl, hm1, hm2⟩ := hh.m.form
  obtain ⟨ab, cb, rfl, hb1, hb2⟩ := hh.b.form
  obtain ⟨ap, cp, rfl, hp1, hp2⟩ := hp.form
  have hb5 := hv.b5
  go_enter Tryz.func129, Tryz.ntmps129
  go_upto_region 2 with (refine wpList_boxF rfl _ rfl (Ext.refl hw) ?_; intro B w1 H1 hle hx hB hBw; obtain ⟨hc0, hc1, hc2, hc3⟩ := cellsHou hB; clear hB hw; have hw1 := hx.holds)
  have hrow0 : Row H1 w.heap.size ((w1.alloc (.cells #[.int .i64 0, .int .i64 0, .int .i64 0, .int .i64 0, .int .i64 0] 153)).alloc (.cells #[.int .i64 0, .int .i64 0, .int .i64 0, .int .i64 0, .int .i64 0] 153)) 153 w1.heap.size (List.replicate 5 0) :=
    ⟨(heap_alloc_old _ _ (by simp)).trans (heap_alloc_new _ _), hx.below.size, hw1.none_of_ge (Nat.le_refl _)⟩
  have hrow1 : Row H1 w.heap.size ((w1.alloc (.cells #[.int .i64 0, .int .i64 0, .int .i64 0, .int .i64 0, .int .i64 0] 153)).alloc (.cells #[.int .i64 0, .int .i64 0, .int .i64 0, .int .i64 0, .int .i64 0] 153)) 153 (w1.heap.size + 1) (List.replicate 5 0) :=
    ⟨by have h := heap_alloc_new (w1.alloc (.cells #[.int .i64 0, .int .i64 0, .int .i64 0, .int .i64 0, .int .i64 0] 153)) (.cells #[.int .i64 0, .int .i64 0, .int .i64 0, .int .i64 0, .int .i64 0] 153); rw [World.size_alloc] at h; exact h, by have := hx.below.size; omega, hw1.none_of_ge (by omega)⟩
  have hxz := (hx.alloc (.cells #[.int .i64 0, .int .i64 0, .int .i64 0, .int .i64 0, .int .i64 0] 153)).alloc (.cells #[.int .i64 0, .int .i64 0, .int .i64 0, .int .i64 0, .int .i64 0] 153)
  have hne : w1.heap.size ≠ w1.heap.size + 1 := by omega
  generalize (w1.alloc (.cells #[.int .i64 0, .int .i64 0, .int .i64 0, .int .i64 0, .int .i64 0] 153)).alloc (.cells #[.int .i64 0, .int .i64 0, .int .i64 0, .int .i64 0, .int .i64 0] 153) = wz at *
  generalize w1.heap.size + 1 = ob at *
  generalize w1.heap.size = rb at *
  have hpm := hp.mono hle
  have hmm := hh.m.mono hle
  have hbm := hh.b.mono hle
  clear hx hw1 hle
  go_wp2_with fail
  go_loopw [6, 14] (fun _ i wr => ∃ (k : Nat) (acc : List Int), k ≤ 5 ∧ i = .int .i64 k ∧ Hid (acc = List.replicate k (-1) ++ List.replicate (5 - k) 0) ∧ Ext w H wr H1 ∧ Row H1 w.heap.size wr 153 rb (List.replicate 5 0) ∧ Row H1 w.heap.size wr 153 ob acc) (fun _ i _ => 5 - (intOf i).toNat)
  case atStart => exact ⟨0, _, Nat.zero_le _, rfl, rfl, hxz, hrow0, hrow1⟩
  case round =>
    clear hxz hrow0 hrow1
    obtain ⟨k, acc, hk, rfl, hacc, hxr, hrow0, hrow1⟩ := hrel
    have hwr := hxr.holds
    by_cases hlk : k < 5
    · obtain ⟨z, hz⟩ := At.mk (xs := acc) (k := k) (by rw [hacc.out]; simp; omega)
      have hcz := hrow1.cell hz
      have hfz := hrow1.fz k
      go_wp2_with fail
      go_roundw
      case rel =>
        refine ⟨k + 1, acc.set k (-1), by omega, by go_num, ?_, hxr.setCell (a := ⟨ob, k, none⟩) hrow1.base hrow1.free _, hrow0.other (Ne.symm hne) _, hrow1.set k (-1)⟩
        show acc.set k (-1) = _
        rw [hacc.out]
        apply List.ext_getElem
        · simp; omega
        · intro j h1 h2
          simp only [List.getElem_set, List.getElem_append, List.getElem_replicate, List.length_replicate]
          split <;> split <;> (try split) <;> first | rfl | omega
      case measure => simp [intOf]; omega
    · have hk5 : k = 5 := by omega
      replace hacc : Hid (acc = List.replicate 5 (-1)) := by show _ = _; rw [hacc.out, hk5]; rfl
      replace hk5 := Lib.hid hk5
      go_wp2_with fail
      go_loopw [7, 8, 9, 10, 12, 13, 22] (fun _ _ _ _ _ _ i wr => ∃ (m : Nat) (acc : List Int), m ≤ plan.length ∧ i = .int .i64 m ∧ Hid (acc = timesTo h 0 (plan.take m) (List.replicate 5 (-1))) ∧ Ext w H wr H1 ∧ Row H1 w.heap.size wr 153 rb (List.replicate 5 0) ∧ Row H1 w.heap.size wr 153 ob acc) (fun _ _ _ _ _ _ i _ => plan.length - (intOf i).toNat)
      case atStart => exact ⟨0, acc, Nat.zero_le _, rfl, hacc, hxr, hrow0, hrow1⟩
      case round =>
        clear hxr hwr hacc hrow0 hrow1
        obtain ⟨m, acc0, hm, rfl, hacc0, hxr, hrow0, hrow1⟩ := hrel
        have hwr := hxr.holds
        by_cases hlm : m < plan.length
        · obtain ⟨l, hml⟩ := At.mk hlm
          obtain ⟨b, o, c, u, he, hu, hr⟩ := hpm.list hml
          cases he
          obtain ⟨al, cl, rfl, hl1, hl2⟩ := hu.form
          have hpl' := hpl
          simp only [isPlan, Bool.and_eq_true, decide_eq_true_eq] at hpl'
          obtain ⟨mc, hmc⟩ := At.mk (show m < h.ms.length by omega)
          have hmlt := hmc.lt
          obtain ⟨bm, om, cm', he, ⟨hmr, hmp, hms⟩, hcr, hcp, hcs⟩ := hmm.mach hmc
          cases he
          have hlen5 : l.length ≤ 5 := Nat.le_trans (isPlan_one hpl hml) hb5
          have hrd := ready_bd hv hmc
          have hgood : ∀ x ∈ l, 0 ≤ x ∧ x ≤ (h.bs.length : Int) - 1 := fun x hx => (goodAll_iff.1 hpl'.2).1 x (List.mem_flatten.2 ⟨l, hml.mem, hx⟩)
          clear hpl'
          go_wp2_with fail
          go_loopw [9, 10, 12, 13, 35] (fun nw bf _ _ i wr => ∃ (k : Nat) (acc : List Int) (now : Int) (prev : Option Int) (pe : Int), k ≤ l.length ∧ i = .int .i64 k ∧ nw = .int .i64 now ∧ bf = .int .i64 pe ∧ Hid ((prev = none ∧ pe = -1) ∨ (prev = some pe ∧ 0 ≤ pe)) ∧ (0 ≤ now ∧ now ≤ 100 + 90 * k) ∧ Hid ((acc, now, prev) = runTo h mc (l.take k) (acc0, mc.r, none)) ∧ Ext w H wr H1 ∧ Row H1 w.heap.size wr 153 rb (List.replicate 5 0) ∧ Row H1 w.heap.size wr 153 ob acc) (fun _ _ _ _ i _ => l.length - (intOf i).toNat)
          case atStart => exact ⟨0, acc0, mc.r, none, -1, Nat.zero_le _, rfl, rfl, rfl, .inl ⟨rfl, rfl⟩, by omega, rfl, hxr, hrow0, hrow1⟩
          case round =>
            clear hxr hwr hrow0 hrow1
            obtain ⟨k, acc, now, prev, pe, hk, rfl, rfl, rfl, hpe, hnow, hst, hxr, hrow0, hrow1⟩ := hrel
            have hwr := hxr.holds
            by_cases hlk : k < l.length
            · obtain ⟨x, hxk⟩ := At.mk hlk
              obtain ⟨b', o', c', he, hi, hr'⟩ := hu.int hxk
              cases he
              obtain ⟨hx0, hx1⟩ := hgood x hxk.mem
              obtain ⟨j, rfl⟩ := Int.eq_ofNat_of_zero_le hx0
              obtain ⟨y, hyj⟩ := At.mk (show j < h.bs.length by omega)
              have hjlt := hyj.lt
              clear hx0 hx1
              obtain ⟨bb, ob', cb', he, ⟨hy1, hy2, hy3⟩, hct, hchh, hce⟩ := hbm.bund hyj
              cases he
              have hyb := List.all_eq_true.1 hv.bs y hyj.mem
              simp only [okBund, Bool.and_eq_true, within_iff] at hyb
              obtain ⟨hq1, hq2, hq3, hq4⟩ := prod_bd hv hmc hyj
              go_upto_region 15 with fail
              have hncx : H1 wr.heap.size = none := hwr.none_of_ge (Nat.le_refl _)
              have hxx := (hxr.alloc (.cells #[.int .i64 y.t, .int .i64 y.h, .int .i64 y.e] 120)).freeze hxr.below.size (heap_alloc_new wr _)
              have hlex := Snap.le_put hncx (.cells #[.int .i64 y.t, .int .i64 y.h, .int .i64 y.e] 120 (0, 0))
              have hcx := fun (w : World) (hw : Holds (H1.put wr.heap.size (.cells #[.int .i64 y.t, .int .i64 y.h, .int .i64 y.e] 120 (0, 0))) w) (i : Nat) => cellH (Snap.put_same _ _ _) hw i
              have hob2 : (H1.put wr.heap.size (.cells #[.int .i64 y.t, .int .i64 y.h, .int .i64 y.e] 120 (0, 0))) ob = none := (Snap.put_other _ _ (by have := hrow1.lt; omega)).trans hrow1.free
              have hrb2 : (H1.put wr.heap.size (.cells #[.int .i64 y.t, .int .i64 y.h, .int .i64 y.e] 120 (0, 0))) rb = none := (Snap.put_other _ _ (by have := hrow0.lt; omega)).trans hrow0.free
              have hrow0x := (hrow0.alloc (.cells #[.int .i64 y.t, .int .i64 y.h, .int .i64 y.e] 120)).snap hrb2
              have hrow1x := (hrow1.alloc (.cells #[.int .i64 y.t, .int .i64 y.h, .int .i64 y.e] 120)).snap hob2
              have hcxp := Snap.put_same H1 wr.heap.size (.cells #[.int .i64 y.t, .int .i64 y.h, .int .i64 y.e] 120 (0, 0))
              generalize H1.put wr.heap.size (.cells #[.int .i64 y.t, .int .i64 y.h, .int .i64 y.e] 120 (0, 0)) = H2 at *
              generalize wr.alloc (.cells #[.int .i64 y.t, .int .i64 y.h, .int .i64 y.e] 120) = wx at *
              generalize wr.heap.size = cx at *
              have hcx1 : ∀ w, Holds H2 w → w.cell? ⟨cx, 1, none⟩ = some (.int .i64 y.h) := fun w hw => hcx w hw 1
              have hcx2 : ∀ w, Holds H2 w → w.cell? ⟨cx, 2, none⟩ = some (.int .i64 y.e) := fun w hw => hcx w hw 2
              have hwx := hxx.holds
              have hd0 := lift hlex hc0
              have hd1 := lift hlex hc1
              have hd2 := lift hlex hc2
              have hd3 := lift hlex hc3
              have hcp' := lift hlex hcp
              have hst1 := congrArg (fun s => s.1) hst.out
              have hst2 := congrArg (fun s => s.2.1) hst.out
              have hst3 := congrArg (fun s => s.2.2) hst.out
              simp only at hst1 hst2 hst3
              have hstep : ∀ (d : Bool), prev.any (fun e => e != y.e) = d → Hid (stepT h mc now prev (j : Int) = now + (if d then h.ch else 0) + y.h * mc.p) := fun d hd => by
                show stepT h mc now prev (j : Int) = _
                unfold stepT; rw [hyj.bund, hd]
              have hfin : ∀ (n2 : Int), n2 = stepT h mc now prev (j : Int) → Hid ((acc.set j n2, n2, some y.e) = runTo h mc (l.take (k + 1)) (acc0, mc.r, none)) := fun n2 hn => by
                show _ = _
                rw [runTo_take hxk, ← hst1, ← hst2, ← hst3, ← hn, Int.toNat_natCast, hyj.bund]
              have hal : Hid (acc.length = 5) := Lib.hid (by rw [hst1, runTo_len, hacc0.out, timesTo_len]; rfl)
              clear hst1 hst2 hst3 hst
              obtain ⟨z, hz⟩ := At.mk (xs := acc) (k := j) (by rw [hal.out]; omega)
              have hocx : ob ≠ cx := by rintro rfl; exact absurd hob2 (by rw [hcxp]; simp)
              have tail : ∀ (now' : Int), now' = stepT h mc now prev (j : Int) → (0 ≤ now' ∧ now' ≤ 100 + 90 * (k + 1 : Nat)) → True := fun _ _ _ => trivial
              clear tail
              rcases hpe.out with ⟨hp0, rfl⟩ | ⟨hp0, hpe0⟩
              · replace hstep := hstep false (by rw [hp0]; rfl)
                replace hp0 := Lib.hid hp0
                · go_wp2_with fail
                  refine wp_region_quietB H2 (by kernel_rfl) (by kernel_rfl) hwx (fun hne => ?_)
                  repeat go_big_quiet_step ((first | fail))
                  refine wpQuiet_nil ?_
                  rintro ⟨w2, hw2, hb2⟩
                  clear hne
                  have hx2 := (Ext.refl hwx).step hb2 hw2
                  have hr0 := hrow0x.ext hx2
                  have hr1 := hrow1x.ext hx2
                  have hxx2 := hxx.trans hx2
                  have hcz := hr1.cell hz
                  have hfz := hr1.fz j
                  have hce2 := hcx2 _ hw2
                  go_wp2_with fail
                  go_region
                  all_goals
                    go_wp2_with fail
                    go_roundw
                    case rel => exact ⟨k + 1, acc.set j _, _, some y.e, y.e, by omega, by go_num, rfl, rfl, .inr ⟨rfl, by omega⟩, by omega, hfin _ (by rw [hstep.out]; simp), ((hxx2.drew.setCell (a := ⟨ob, j, none⟩) hr1.base hr1.free _).back hxr hlex), (hr0.drew.other (a := ⟨ob, j, none⟩) (Ne.symm hne) _).snap hrow0.free, (hr1.drew.set j _).snap hrow1.free⟩
                    case measure => simp [intOf]; omega
              · replace hstep := hstep (y.e != pe) (by rw [hp0]; exact bne_comm)
                replace hp0 := Lib.hid hp0
                cases hd : (y.e != pe)
                all_goals
                  rw [hd] at hstep
                  go_wp2_with fail
                  refine wp_region_quietB H2 (by kernel_rfl) (by kernel_rfl) hwx (fun hne => ?_)
                  repeat go_big_quiet_step ((first | fail))
                  refine wpQuiet_nil ?_
                  rintro ⟨w2, hw2, hb2⟩
                  clear hne
                  have hx2 := (Ext.refl hwx).step hb2 hw2
                  have hr0 := hrow0x.ext hx2
                  have hr1 := hrow1x.ext hx2
                  have hxx2 := hxx.trans hx2
                  have hcz := hr1.cell hz
                  have hfz := hr1.fz j
                  have hce2 := hcx2 _ hw2
                  go_wp2_with fail
                  go_region
                  all_goals
                    go_wp2_with fail
                    go_roundw
                    case rel => exact ⟨k + 1, acc.set j _, _, some y.e, y.e, by omega, by go_num, rfl, rfl, .inr ⟨rfl, by omega⟩, by omega, hfin _ (by rw [hstep.out]; simp), ((hxx2.drew.setCell (a := ⟨ob, j, none⟩) hr1.base hr1.free _).back hxr hlex), (hr0.drew.other (a := ⟨ob, j, none⟩) (Ne.symm hne) _).snap hrow0.free, (hr1.drew.set j _).snap hrow1.free⟩
                    case measure => simp [intOf]; omega
            · have hst1 := congrArg (fun s => s.1) hst.out
              simp only at hst1
              rw [take_all (xs := l) (k := k) (by omega)] at hst1
              replace hst1 := Lib.hid hst1
              go_wp2_with fail
              go_roundw
              case rel => exact ⟨m + 1, acc, by omega, by go_num, by show acc = _; rw [hst1.out, timesTo_take hml, ← hacc0.out, hmc.mach]; rfl, hxr, hrow0, hrow1⟩
              case measure => simp [intOf]; omega
        · have hl5 : acc0.length = 5 := by rw [hacc0.out, timesTo_len]; rfl
          match acc0, hl5, hacc0, hrow1 with
          | [a0, a1, a2, a3, a4], _, hacc0, hrow1 =>
            have hpad : Hid ([a0, a1, a2, a3, a4] = padT h plan) := by
              show _ = _
              rw [hacc0.out, take_all (xs := plan) (k := m) (by omega)]; rfl
            clear hacc0
            have c0 := hrow1.cell (i := 0) (x := a0) rfl
            have c1 := hrow1.cell (i := 1) (x := a1) rfl
            have c2 := hrow1.cell (i := 2) (x := a2) rfl
            have c3 := hrow1.cell (i := 3) (x := a3) rfl
            have c4 := hrow1.cell (i := 4) (x := a4) rfl
            have d0 := hrow0.cell (i := 0) (x := 0) rfl
            have d1 := hrow0.cell (i := 1) (x := 0) rfl
            have d2 := hrow0.cell (i := 2) (x := 0) rfl
            have d3 := hrow0.cell (i := 3) (x := 0) rfl
            have d4 := hrow0.cell (i := 4) (x := 0) rfl
            have f0 := hrow0.fz 0
            have f1 := hrow0.fz 1
            have f2 := hrow0.fz 2
            have f3 := hrow0.fz 3
            have f4 := hrow0.fz 4
            go_wp2_with fail
            have hr := ((((hrow0.set 0 a0).set 1 a1).set 2 a2).set 3 a3).set 4 a4
            refine bodyPost_ret (results_cell_row rfl _ _ rb 153 _ (0, 0) _ rfl hr.at_ Tryz.underlying153 rfl (by kernel_rfl)) rfl ?_
            refine ⟨?_, ?_⟩
            · rw [← hpad.out]; rfl
            · exact (((((hxr.setCell (a := ⟨rb, 0, none⟩) hrow0.base hrow0.free _).setCell (a := ⟨rb, 1, none⟩) hrow0.base hrow0.free _).setCell (a := ⟨rb, 2, none⟩) hrow0.base hrow0.free _).setCell (a := ⟨rb, 3, none⟩) hrow0.base hrow0.free _).setCell (a := ⟨rb, 4, none⟩) hrow0.base hrow0.free _).below

end Go.Proofs.YtngdppajailpcaaGreat

namespace Go.Proofs.YtngdppajailpcaaGreat
open Go.RowKit

attribute [local go_sem] Holds.drew Holds.alloc Holds.drewN WB.holds

/-- When all bundles of each train are printed, after the first k bundles. -/
def readyTo (h : House) (ts : List Int) : Nat → List Int
  | 0 => [0, 0, 0, 0]
  | k + 1 => (readyTo h ts k).set (bund h (k : Nat)).t.toNat (max ((readyTo h ts k).getD (bund h (k : Nat)).t.toNat 0) (if ts.getD k 0 = -1 then 1048576 else ts.getD k 0))
def readyT (h : House) (ts : List Int) : List Int := readyTo h ts h.bs.length
theorem readyTo_len (h : House) (ts : List Int) : ∀ k, (readyTo h ts k).length = 4
  | 0 => rfl
  | k + 1 => by simp only [readyTo, List.length_set]; exact readyTo_len h ts k
theorem getD_bd {l : List Int} {lo hi : Int} (h0 : lo ≤ 0 ∧ 0 ≤ hi) (h : ∀ x ∈ l, lo ≤ x ∧ x ≤ hi) (i : Nat) : lo ≤ l.getD i 0 ∧ l.getD i 0 ≤ hi := by
  by_cases hi' : i < l.length
  · rw [List.getD_eq_getElem?_getD, List.getElem?_eq_getElem hi']; exact h _ (List.getElem_mem hi')
  · rw [List.getD_eq_getElem?_getD, List.getElem?_eq_none (by omega)]; exact h0
theorem readyTo_bd {h : House} {ts : List Int} (ht : ∀ x ∈ ts, -1 ≤ x ∧ x ≤ 1000) : ∀ k, ∀ x ∈ readyTo h ts k, 0 ≤ x ∧ x ≤ 1048576
  | 0, x, hx => by simp [readyTo] at hx; omega
  | k + 1, x, hx => by
    have ih := readyTo_bd (h := h) ht k
    simp only [readyTo] at hx
    rcases List.mem_or_eq_of_mem_set hx with hx | rfl
    · exact ih x hx
    · have h1 := getD_bd (lo := 0) (hi := 1048576) (by omega) ih (bund h (k : Nat)).t.toNat
      have h2 := getD_bd (lo := -1) (hi := 1000) (by omega) ht k
      split <;> omega

theorem Row.new {H : Snap} {base g : Nat} {w : World} {t : TypeId} {xs : List Int} (hw : Holds H w) (hb : base ≤ w.heap.size) (hg : g = w.heap.size) : Row H base (w.alloc (.cells (xs.map (Value.int .i64)).toArray t)) t g xs := by
  subst hg
  exact ⟨heap_alloc_new _ _, hb, hw.none_of_ge (Nat.le_refl _)⟩

set_option maxRecDepth 100000 in
set_option maxHeartbeats 4000000 in
theorem readied_any (vm vb vt : Value) (h : House) (ts : List Int) (H : Snap) (w : World) (hw : Holds H w) (hh : Hou H vm vb vt h) (hv : Valid h) (hts : ts.length = 5) (htb : ∀ x ∈ ts, -1 ≤ x ∧ x ≤ 1000) :
    Calls Tryz.prog 128 #[houV vm vb vt h, arr ts] w (PostV w (arr (readyT h ts))) := by
  obtain ⟨ab, cb, rfl, hb1, hb2⟩ := hh.b.form
  have hb5 := hv.b5
  have ht4 := hv.t4
  match ts, hts, htb with
  | [t0, t1, t2, t3, t4], _, htb =>
  obtain ⟨ts, hts⟩ : ∃ ts, Hid (ts = [t0, t1, t2, t3, t4]) := ⟨_, rfl⟩
  have hpost : Hid (PostV w (arr (readyT h [t0, t1, t2, t3, t4])) = PostV w (arr (readyT h ts))) := by show _ = _; rw [hts.out]
  rw [hpost.out]
  rw [← hts.out] at htb
  show Calls Tryz.prog 128 #[houV _ _ _ h, .agg #[.int .i64 t0, .int .i64 t1, .int .i64 t2, .int .i64 t3, .int .i64 t4]] w (PostV w (arr (readyT h ts)))
  go_enter Tryz.func128, Tryz.ntmps128
  go_upto_region 2 with (refine wpList_boxF rfl _ rfl (Ext.refl hw) ?_; intro B w1 H1 hle hx hB hBw; obtain ⟨hc0, hc1, hc2, hc3⟩ := cellsHou hB; clear hB hw; have hw1 := hx.holds)
  have hsz1 := hx.below.size
  have hrowT : Row H1 w.heap.size (((w1.alloc (.cells #[.int .i64 t0, .int .i64 t1, .int .i64 t2, .int .i64 t3, .int .i64 t4] 153)).alloc (.cells #[.int .i64 0, .int .i64 0, .int .i64 0, .int .i64 0] 146)).alloc (.cells #[.int .i64 0, .int .i64 0, .int .i64 0, .int .i64 0] 146)) 153 w1.heap.size ts := by
    rw [hts.out]; exact ((Row.new (xs := [t0, t1, t2, t3, t4]) hw1 hsz1 rfl).alloc _).alloc _
  have hrowR : Row H1 w.heap.size (((w1.alloc (.cells #[.int .i64 t0, .int .i64 t1, .int .i64 t2, .int .i64 t3, .int .i64 t4] 153)).alloc (.cells #[.int .i64 0, .int .i64 0, .int .i64 0, .int .i64 0] 146)).alloc (.cells #[.int .i64 0, .int .i64 0, .int .i64 0, .int .i64 0] 146)) 146 (w1.heap.size + 1) [0, 0, 0, 0] :=
    (Row.new (xs := [0, 0, 0, 0]) (hw1.alloc _) (by simp; omega) (by simp)).alloc _
  have hrowO : Row H1 w.heap.size (((w1.alloc (.cells #[.int .i64 t0, .int .i64 t1, .int .i64 t2, .int .i64 t3, .int .i64 t4] 153)).alloc (.cells #[.int .i64 0, .int .i64 0, .int .i64 0, .int .i64 0] 146)).alloc (.cells #[.int .i64 0, .int .i64 0, .int .i64 0, .int .i64 0] 146)) 146 (w1.heap.size + 1 + 1) [0, 0, 0, 0] :=
    Row.new (xs := [0, 0, 0, 0]) ((hw1.alloc _).alloc _) (by simp; omega) (by simp)
  have hxz := ((hx.alloc (.cells #[.int .i64 t0, .int .i64 t1, .int .i64 t2, .int .i64 t3, .int .i64 t4] 153)).alloc (.cells #[.int .i64 0, .int .i64 0, .int .i64 0, .int .i64 0] 146)).alloc (.cells #[.int .i64 0, .int .i64 0, .int .i64 0, .int .i64 0] 146)
  have hn1 : w1.heap.size ≠ w1.heap.size + 1 + 1 := by omega
  have hn2 : w1.heap.size + 1 ≠ w1.heap.size + 1 + 1 := by omega
  have hn3 : w1.heap.size ≠ w1.heap.size + 1 := by omega
  generalize ((w1.alloc (.cells #[.int .i64 t0, .int .i64 t1, .int .i64 t2, .int .i64 t3, .int .i64 t4] 153)).alloc (.cells #[.int .i64 0, .int .i64 0, .int .i64 0, .int .i64 0] 146)).alloc (.cells #[.int .i64 0, .int .i64 0, .int .i64 0, .int .i64 0] 146) = wz at *
  generalize w1.heap.size + 1 + 1 = ob at *
  generalize w1.heap.size + 1 = rb at *
  generalize w1.heap.size = tb at *
  have hbm := hh.b.mono hle
  have htl : Hid (ts.length = 5) := by show _ = _; rw [hts.out]; rfl
  clear hx hw1 hle hsz1
  have hwz := hxz.holds
  go_wp2_with fail
  go_loopw [6, 7, 11] (fun _ _ i wr => ∃ (k : Nat) (acc tt : List Int), k ≤ h.bs.length ∧ i = .int .i64 k ∧ Hid (acc = readyTo h ts k) ∧ Hid (tt.length = 5 ∧ ∀ i, k ≤ i → tt.getD i 0 = ts.getD i 0) ∧ Ext w H wr H1 ∧ Row H1 w.heap.size wr 153 tb tt ∧ Row H1 w.heap.size wr 146 rb [0, 0, 0, 0] ∧ Row H1 w.heap.size wr 146 ob acc) (fun _ _ i _ => h.bs.length - (intOf i).toNat)
  case atStart => exact ⟨0, _, ts, Nat.zero_le _, rfl, rfl, ⟨htl.out, fun _ _ => rfl⟩, hxz, hrowT, hrowR, hrowO⟩
  case round =>
    clear hxz hwz hrowT hrowR hrowO
    obtain ⟨k, acc, tt, hk, rfl, hacc, htt, hxr, hrowT, hrowR, hrowO⟩ := hrel
    have hwr := hxr.holds
    by_cases hlk : k < h.bs.length
    · obtain ⟨y, hyk⟩ := At.mk hlk
      obtain ⟨bb, ob', cb', he, ⟨hy1, hy2, hy3⟩, hct, hchh, hce⟩ := hbm.bund hyk
      cases he
      have hyb := List.all_eq_true.1 hv.bs y hyk.mem
      simp only [okBund, Bool.and_eq_true, within_iff] at hyb
      obtain ⟨⟨⟨hyt0, hyt1⟩, _⟩, _⟩ := hyb
      obtain ⟨j, hyj⟩ := Int.eq_ofNat_of_zero_le hyt0
      have hj4 : j < 4 := by omega
      replace hyj := Lib.hid hyj
      clear hyt0 hyt1
      obtain ⟨x, hxk⟩ := At.mk (xs := tt) (k := k) (by rw [htt.out.1]; omega)
      obtain ⟨z, hzj⟩ := At.mk (xs := acc) (k := j) (by rw [hacc.out, readyTo_len]; exact hj4)
      have hxts : Hid (x = ts.getD k 0) := by show _ = _; rw [← htt.out.2 k (Nat.le_refl _), hxk.getD]
      have hxb : -1 ≤ x ∧ x ≤ 1000 := by rw [hxts.out]; exact getD_bd (by omega) htb k
      have hzb : 0 ≤ z ∧ z ≤ 1048576 := readyTo_bd htb k z (by rw [← hacc.out]; exact hzj.mem)
      have hsucc : ∀ v, v = max z (if x = -1 then 1048576 else x) → Hid (acc.set j v = readyTo h ts (k + 1)) := fun v hv => by
        show _ = _
        simp only [readyTo]
        rw [hyk.bund, hyj.out, Int.toNat_natCast, ← hacc.out, hzj.getD, ← hxts.out, hv]
      go_upto_region 5 with fail
      have hrowX : Row H1 w.heap.size (wr.alloc (.cells #[.int .i64 y.t, .int .i64 y.h, .int .i64 y.e] 120)) 120 wr.heap.size [y.t, y.h, y.e] := Row.new (xs := [y.t, y.h, y.e]) hwr hxr.below.size rfl
      replace hxr := hxr.alloc (.cells #[.int .i64 y.t, .int .i64 y.h, .int .i64 y.e] 120)
      have hltT := hrowT.lt
      have hltO := hrowO.lt
      replace hrowT := hrowT.alloc (.cells #[.int .i64 y.t, .int .i64 y.h, .int .i64 y.e] 120)
      replace hrowR := hrowR.alloc (.cells #[.int .i64 y.t, .int .i64 y.h, .int .i64 y.e] 120)
      replace hrowO := hrowO.alloc (.cells #[.int .i64 y.t, .int .i64 y.h, .int .i64 y.e] 120)
      have hnX : tb ≠ wr.heap.size := by omega
      have hnX2 : ob ≠ wr.heap.size := by omega
      clear hwr hltT hltO
      generalize wr.alloc (.cells #[.int .i64 y.t, .int .i64 y.h, .int .i64 y.e] 120) = wx at *
      generalize wr.heap.size = cx at *
      have hcX := hrowX.cell (i := 0) (x := y.t) rfl
      rw [hyj.out] at hcX
      have hcT := hrowT.cell hxk
      have hfT := hrowT.fz k
      have hcO := hrowO.cell hzj
      have hfO := hrowO.fz j
      by_cases hx1 : x = -1
      · subst hx1
        go_upto_region 7 with fail
        have hrowX' := hrowX.other (a := ⟨tb, k, none⟩) hnX (.int .i64 1048576)
        have hrowO' := hrowO.other (a := ⟨tb, k, none⟩) hn1 (.int .i64 1048576)
        have hrowR' := hrowR.other (a := ⟨tb, k, none⟩) hn3 (.int .i64 1048576)
        have hrowT' := hrowT.set k 1048576
        have hxr' := hxr.setCell (a := ⟨tb, k, none⟩) hrowT.base hrowT.free (.int .i64 1048576)
        have hdX := hrowX'.cell (i := 0) (x := y.t) rfl
        rw [hyj.out] at hdX
        have hdT := hrowT'.cell (i := k) (x := 1048576) (by show _ = _; rw [List.getElem?_set_self hxk.lt])
        have hdO := hrowO'.cell hzj
        have hgO := hrowO'.fz j
        generalize wx.setCell ⟨tb, k, none⟩ (.int .i64 1048576) = wy at *
        go_region
        all_goals
          go_wp2_with fail
          go_roundw
          case rel => exact ⟨k + 1, acc.set j _, tt.set k 1048576, by omega, by go_num, (hsucc _ (by rw [if_pos rfl]; split <;> omega)).out, ⟨by rw [List.length_set]; exact htt.out.1, fun i hi => by rw [List.getD_eq_getElem?_getD, List.getElem?_set_ne (by omega), ← List.getD_eq_getElem?_getD]; exact htt.out.2 i (by omega)⟩, (hxr'.setCell (a := ⟨ob, j, none⟩) hrowO'.base hrowO'.free _).drew, (hrowT'.other (a := ⟨ob, j, none⟩) (Ne.symm hn1) _).drew, (hrowR'.other (a := ⟨ob, j, none⟩) (Ne.symm hn2) _).drew, (hrowO'.set j _).drew⟩
          case measure => simp [intOf]; omega
      · have hx2 : (x == -1) = false := by simpa using hx1
        replace hx1 := Lib.hid hx1
        go_upto_region 7 with fail
        go_region
        all_goals
          go_wp2_with fail
          go_roundw
          case rel => exact ⟨k + 1, acc.set j _, tt, by omega, by go_num, (hsucc _ (by rw [if_neg hx1.out]; split <;> omega)).out, ⟨htt.out.1, fun i hi => htt.out.2 i (by omega)⟩, (hxr.setCell (a := ⟨ob, j, none⟩) hrowO.base hrowO.free _).drew, (hrowT.other (a := ⟨ob, j, none⟩) (Ne.symm hn1) _).drew, (hrowR.other (a := ⟨ob, j, none⟩) (Ne.symm hn2) _).drew, (hrowO.set j _).drew⟩
          case measure => simp [intOf]; omega
    · have hl4 : acc.length = 4 := by rw [hacc.out, readyTo_len]
      match acc, hl4, hacc, hrowO with
      | [a0, a1, a2, a3], _, hacc, hrowO =>
        have hpad : Hid ([a0, a1, a2, a3] = readyT h ts) := by
          show _ = _
          rw [hacc.out, show k = h.bs.length by omega]; rfl
        clear hacc
        have c0 := hrowO.cell (i := 0) (x := a0) rfl
        have c1 := hrowO.cell (i := 1) (x := a1) rfl
        have c2 := hrowO.cell (i := 2) (x := a2) rfl
        have c3 := hrowO.cell (i := 3) (x := a3) rfl
        have d0 := hrowR.cell (i := 0) (x := 0) rfl
        have d1 := hrowR.cell (i := 1) (x := 0) rfl
        have d2 := hrowR.cell (i := 2) (x := 0) rfl
        have d3 := hrowR.cell (i := 3) (x := 0) rfl
        have f0 := hrowR.fz 0
        have f1 := hrowR.fz 1
        have f2 := hrowR.fz 2
        have f3 := hrowR.fz 3
        go_wp2_with fail
        have hr := (((hrowR.set 0 a0).set 1 a1).set 2 a2).set 3 a3
        refine bodyPost_ret (results_cell_row rfl _ _ rb 146 _ (0, 0) _ rfl hr.at_ Tryz.underlying146 rfl (by kernel_rfl)) rfl ?_
        refine ⟨?_, ?_⟩
        · rw [← hpad.out]; rfl
        · exact ((((hxr.setCell (a := ⟨rb, 0, none⟩) hrowR.base hrowR.free _).setCell (a := ⟨rb, 1, none⟩) hrowR.base hrowR.free _).setCell (a := ⟨rb, 2, none⟩) hrowR.base hrowR.free _).setCell (a := ⟨rb, 3, none⟩) hrowR.base hrowR.free _).below
end Go.Proofs.YtngdppajailpcaaGreat

namespace Go.Proofs.YtngdppajailpcaaGreat

theorem bund_nat (h : House) (i : Nat) : bund h (i : Nat) = h.bs.getD i default := rfl
theorem bs_bd {h : House} (hv : Valid h) {i : Nat} (hi : i < h.bs.length) : 0 ≤ (bund h (i : Nat)).t ∧ (bund h (i : Nat)).t < h.ts.length := by
  obtain ⟨y, hy⟩ := At.mk hi
  have := List.all_eq_true.1 hv.bs y hy.mem
  simp only [okBund, Bool.and_eq_true, within_iff] at this
  rw [hy.bund]; omega
theorem tsD_bd {h : House} (hv : Valid h) (t : Nat) : 0 ≤ h.ts.getD t 0 ∧ h.ts.getD t 0 ≤ 99 :=
  getD_bd (by omega) (fun x hx => by have := List.all_eq_true.1 hv.ts x hx; exact within_iff.1 this) t

theorem late_arith (a b c : Int) (hb : -1 ≤ b) (hc : c ≤ 99) (hc0 : 0 ≤ c) : decide (c < max a (if b = -1 then 1048576 else b)) = (decide (c < a) || (decide (b < 0) || decide (c < b))) := by
  rw [Bool.eq_iff_iff]
  simp only [decide_eq_true_eq, Bool.or_eq_true]
  split <;> omega
theorem readyTo_late {h : House} (hv : Valid h) {ts : List Int} (hts : ∀ x ∈ ts, -1 ≤ x ∧ x ≤ 1000) {t : Nat} (ht : t < 4) : ∀ k, k ≤ h.bs.length → decide (h.ts.getD t 0 < (readyTo h ts k).getD t 0) = lateTo h ts t k
  | 0, _ => by
    have h1 := tsD_bd hv t
    have h2 : (readyTo h ts 0).getD t 0 = 0 := by
      simp only [readyTo]
      match t, ht with
      | 0, _ => rfl
      | 1, _ => rfl
      | 2, _ => rfl
      | 3, _ => rfl
    rw [h2, decide_eq_false (by omega)]
    simp [lateTo]
  | k + 1, hk => by
    have ih := readyTo_late hv hts ht k (by omega)
    have hb := bs_bd hv (i := k) (by omega)
    have h1 := tsD_bd hv t
    have h2 := getD_bd (lo := -1) (hi := 1000) (by omega) hts k
    have hl : lateTo h ts t (k + 1) = (lateTo h ts t k || (((bund h (k : Nat)).t == (t : Int)) && (decide (ts.getD k 0 < 0) || decide (h.ts.getD t 0 < ts.getD k 0)))) := by
      unfold lateTo
      rw [List.range_succ, List.any_append]
      simp [bund_nat]
    rw [hl, ← ih]
    have hlen := readyTo_len h ts k
    have hval : (readyTo h ts (k + 1)).getD t 0 = if (bund h (k : Nat)).t = (t : Int) then max ((readyTo h ts k).getD t 0) (if ts.getD k 0 = -1 then 1048576 else ts.getD k 0) else (readyTo h ts k).getD t 0 := by
      simp only [readyTo]
      by_cases e : (bund h (k : Nat)).t = (t : Int)
      · rw [if_pos e, e, Int.toNat_natCast, List.getD_eq_getElem?_getD, List.getElem?_set_self (by omega)]; rfl
      · rw [if_neg e, List.getD_eq_getElem?_getD, List.getElem?_set_ne (by omega), ← List.getD_eq_getElem?_getD]
    rw [hval]
    by_cases e : (bund h (k : Nat)).t = (t : Int)
    · have e2 : ((bund h (k : Nat)).t == (t : Int)) = true := by simpa using e
      rw [if_pos e, e2, Bool.true_and]
      exact late_arith _ _ _ h2.1 h1.2 h1.1
    · have e2 : ((bund h (k : Nat)).t == (t : Int)) = false := by simpa using e
      rw [if_neg e, e2, Bool.false_and, Bool.or_false]

theorem lateTo_congr {h : House} {a b : List Int} {t k : Nat} (e : ∀ i, i < k → a.getD i 0 = b.getD i 0) : lateTo h a t k = lateTo h b t k := by
  unfold lateTo
  rw [Bool.eq_iff_iff, List.any_eq_true, List.any_eq_true]
  constructor
  · rintro ⟨i, hi, hx⟩
    exact ⟨i, hi, by rw [← e i (List.mem_range.1 hi)]; exact hx⟩
  · rintro ⟨i, hi, hx⟩
    exact ⟨i, hi, by rw [e i (List.mem_range.1 hi)]; exact hx⟩

/-- When the trains are ready by a plan. -/
def readyP (h : House) (p : List (List Int)) : List Int := readyT h (padT h p)
theorem padT_bd {h : House} (hv : Valid h) {p : List (List Int)} (hp : isPlan h p = true) : ∀ x ∈ padT h p, -1 ≤ x ∧ x ≤ 1000 := by
  rw [padT_eq hv.b5 hp]
  intro x hx
  rcases List.mem_append.1 hx with hx | hx
  · exact timesOf_bd hv hp x hx
  · rw [List.eq_of_mem_replicate hx]; omega
theorem readyP_len (h : House) (p : List (List Int)) : (readyP h p).length = 4 := readyTo_len _ _ _
theorem readyP_bd {h : House} (hv : Valid h) {p : List (List Int)} (hp : isPlan h p = true) : ∀ x ∈ readyP h p, 0 ≤ x ∧ x ≤ 1048576 := readyTo_bd (padT_bd hv hp) _
theorem padT_getD {h : House} (hv : Valid h) {p : List (List Int)} (hp : isPlan h p = true) {i : Nat} (hi : i < h.bs.length) : (padT h p).getD i 0 = (timesOf h p).getD i 0 := by
  rw [padT_eq hv.b5 hp, List.getD_eq_getElem?_getD, List.getElem?_append_left (by rw [timesOf_len]; exact hi), ← List.getD_eq_getElem?_getD]
theorem late_spec {h : House} (hv : Valid h) {p : List (List Int)} (hp : isPlan h p = true) : lateBy h (readyP h p) h.ts.length = lateOf h p := by
  unfold lateBy lateOf lateList
  congr 1
  refine List.filter_congr fun t ht => ?_
  have := hv.t4
  have := List.mem_range.1 ht
  rw [lateB, readyP, readyT, readyTo_late hv (padT_bd hv hp) (by omega) _ (Nat.le_refl _)]
  exact lateTo_congr fun i hi => padT_getD hv hp hi

/-- The numbers of a set of bits are those of the list. -/
theorem setList_ub {l : List Int} (hl : ∀ x ∈ l, 0 ≤ x ∧ x ≤ 3) (hs : l.Pairwise (· < ·)) : setList (ub l) = l := by
  have h1 : ∀ x ∈ l, (0:Int) ≤ x := fun x hx => (hl x hx).1
  unfold setList setTo
  have e : (List.range 4).filter (fun i => (ub l).testBit i) = (List.range 4).filter (fun i : Nat => decide ((i : Int) ∈ l)) := List.filter_congr fun i _ => ub_test h1 i
  rw [e]
  have hnd : (((List.range 4).filter (fun i : Nat => decide ((i : Int) ∈ l))).map Int.ofNat).Pairwise (· < ·) := by
    rw [List.pairwise_map]
    refine List.Pairwise.imp ?_ ((List.pairwise_lt_range (n := 4)).filter _)
    intro a b hab
    exact Int.ofNat_lt.2 hab
  have hmem : ∀ x, x ∈ ((List.range 4).filter (fun i : Nat => decide ((i : Int) ∈ l))).map Int.ofNat ↔ x ∈ l := by
    intro x
    simp only [List.mem_map, List.mem_filter, List.mem_range, decide_eq_true_eq]
    constructor
    · rintro ⟨i, ⟨_, hi⟩, rfl⟩; exact hi
    · intro hx
      have := hl x hx
      exact ⟨x.toNat, ⟨by omega, by rw [Int.toNat_of_nonneg this.1]; exact hx⟩, by simp [Int.toNat_of_nonneg this.1]⟩
  have hperm : (((List.range 4).filter (fun i : Nat => decide ((i : Int) ∈ l))).map Int.ofNat).Perm l := by
    refine (List.perm_ext_iff_of_nodup ?_ ?_).2 hmem
    · exact hnd.imp (fun h => by omega)
    · exact hs.imp (fun h => by omega)
  exact hperm.eq_of_pairwise (fun a b _ _ h1 h2 => by omega) hnd hs
theorem lateBy_sorted (h : House) (r : List Int) (k : Nat) : (lateBy h r k).Pairwise (· < ·) := by
  unfold lateBy
  rw [List.pairwise_map]
  refine List.Pairwise.imp ?_ ((List.pairwise_lt_range (n := k)).filter _)
  intro a b hab
  exact Int.ofNat_lt.2 hab
theorem setList_late {h : House} (hv : Valid h) (r : List Int) : setList (ub (lateBy h r h.ts.length)) = lateBy h r h.ts.length :=
  setList_ub (fun x hx => by have := lateBy_mem hx; have := hv.t4; omega) (lateBy_sorted h r _)
theorem ub_late_lt {h : House} (hv : Valid h) (r : List Int) : ub (lateBy h r h.ts.length) < 16 := by
  have h1 : ∀ x ∈ lateBy h r h.ts.length, (0:Int) ≤ x := fun x hx => (lateBy_mem hx).1
  have h2 : ub (lateBy h r h.ts.length) < 32 := ub_lt (n := 4) (by omega) (fun x hx => by have := lateBy_mem hx; have := hv.t4; omega)
  have h4 : (ub (lateBy h r h.ts.length)).testBit 4 = false := by
    rw [ub_test h1]
    refine decide_eq_false fun hm => ?_
    have := lateBy_mem hm; have := hv.t4; omega
  rw [Nat.testBit_eq_decide_div_mod_eq] at h4
  have := of_decide_eq_false h4
  omega

end Go.Proofs.YtngdppajailpcaaGreat

namespace Go.Proofs.YtngdppajailpcaaGreat
open Go.RowKit

attribute [local go_sem] Holds.drew Holds.alloc Holds.drewN WB.holds

theorem lateL_any (vm vb vt : Value) (h : House) (r : List Int) (H : Snap) (w : World) (hw : Holds H w) (hh : Hou H vm vb vt h) (ht4 : h.ts.length ≤ 4) (hl : r.length = 4) (hr : ∀ x ∈ r, 0 ≤ x ∧ x ≤ 1048576) :
    Calls Tryz.prog 116 #[houV vm vb vt h, arr r] w (PostV w (.int .u64 (ub (lateBy h r h.ts.length) : Nat))) := by
  match r, hl, hr with
  | [r0, r1, r2, r3], _, hr =>
    have b0 := hr r0 (by simp); have b1 := hr r1 (by simp); have b2 := hr r2 (by simp); have b3 := hr r3 (by simp)
    exact lateT_any vm vb vt h r0 r1 r2 r3 H w hw hh ht4 ⟨by omega, by omega, by omega, by omega⟩

def lateA (h : House) (p : List (List Int)) : List Int := if valid h && isPlan h p then lateOf h p else []
def timesA (h : House) (p : List (List Int)) : List Int := if valid h && isPlan h p then timesOf h p else []

set_option maxRecDepth 100000 in
set_option maxHeartbeats 4000000 in
theorem lateA_any (vm vb vt vp : Value) (h : House) (plan : List (List Int)) (H : Snap) (w : World) (hw : Holds H w) (hh : Hou H vm vb vt h) (hp : Sl H vp plan) :
    Calls Tryz.prog 98 #[houV vm vb vt h, vp] w (Post w H fun v H' => ∃ u, v = .tuple #[u, .int .i64 (errA (valid h) (isPlan h plan))] ∧ Sl H' u (lateA h plan)) := by
  cases hv : (valid h && isPlan h plan)
  · have he : (errA (valid h) (isPlan h plan) != 0) = true := by
      cases h1 : valid h
      · rfl
      · rw [h1] at hv; simp at hv; rw [hv]; rfl
    have hA : Hid (lateA h plan = []) := by show _ = _; unfold lateA; rw [hv]; rfl
    go_enter Tryz.func98, Tryz.ntmps98
    go_wp2_with (first | (refine wpList_boxF rfl _ rfl (Ext.refl hw) ?_; intro B w1 H1 hle hx hB hBw; obtain ⟨hc0, hc1, hc2, hc3⟩ := cellsHou hB; clear hB hw; have hw1 := hx.holds) | (go_at_call 127; refine (plannedT_any _ _ _ _ _ _ _ _ hw1 (hh.mono hle) (hp.mono hle)).mono ?_; rintro e w' ⟨rfl, hb2⟩))
    go_ret2
    exact ⟨_, H1, rfl, hx.step (hb2.mono hx.below.size) (hw1.below hb2), _, rfl, by rw [hA.out]; exact Sl.nil0 _⟩
  · simp only [Bool.and_eq_true] at hv
    have hV := valid_iff.1 hv.1
    have he : errA (valid h) (isPlan h plan) = 0 := by rw [hv.1, hv.2]; rfl
    have hpl := Lib.hid hv.2
    have hlate : Hid (setList (ub (lateBy h (readyP h plan) h.ts.length)) = lateA h plan) := by
      show _ = _
      unfold lateA; rw [setList_late hV, late_spec hV hpl.out, hv.1, hv.2]; rfl
    have hub := ub_late_lt hV (readyP h plan)
    clear hv
    go_enter Tryz.func98, Tryz.ntmps98
    go_wp2_with (first | (refine wpList_boxF rfl _ rfl (Ext.refl hw) ?_; intro B w1 H1 hle hx hB hBw; obtain ⟨hc0, hc1, hc2, hc3⟩ := cellsHou hB; clear hB hw; have hw1 := hx.holds) | (go_at_call 127; refine (plannedT_any _ _ _ _ _ _ _ _ hw1 (hh.mono hle) (hp.mono hle)).mono ?_; rintro e w' ⟨rfl, hb2⟩; have hw2 := hw1.below hb2))
    have hx2 := hx.step (hb2.mono hx.below.size) hw2
    go_region_held3 (fun w' => Holds H1 w' ∧ Ext w H w' H1) (first | assumption | exact ⟨by assumption, by assumption⟩ | (go_split_ands; exact ⟨Holds.drew (by assumption), Ext.drew (by assumption)⟩) | (go_split_ands; exact ⟨Holds.alloc (by assumption) _, Ext.alloc (by assumption) _⟩) | (go_split_ands; exact ⟨Holds.drew (Holds.alloc (by assumption) _), Ext.drew (Ext.alloc (by assumption) _)⟩)) (first | ((go_split_ands; go_at_call 130; refine (setList_any _ hub H1 _ (by assumption)).mono ?_; rintro e w' ⟨v, H', rfl, hx', hs'⟩; obtain ⟨a', c', rfl, _, _⟩ := hs'.form; have hk1 : Holds H1 w' := hx'.old (by assumption); have hkF := (by assumption : Ext w H _ H1).trans hx'; have hk2 : Ext w H w' H1 := (by assumption : Ext w H _ H1).step (hx'.below.mono (by assumption : Ext w H _ H1).below.size) hk1)) | ((go_split_ands; go_at_call 116; refine (lateL_any _ _ _ _ (readyP h plan) H1 _ (by assumption) (hh.mono hle) hV.t4 (readyP_len _ _) (readyP_bd hV hpl.out)).mono ?_; rintro e w' ⟨rfl, hb⟩; have hk1 : Holds H1 w' := Holds.below (by assumption) hb; have hk2 : Ext w H w' H1 := (by assumption : Ext w H _ H1).step (hb.mono (by assumption : Ext w H _ H1).below.size) hk1)) | ((go_split_ands; go_at_call 128; refine (readied_any _ _ _ _ (padT h plan) H1 _ (by assumption) (hh.mono hle) hV (padT_len _ _) (padT_bd hV hpl.out)).mono ?_; rintro e w' ⟨rfl, hb⟩; have hk1 : Holds H1 w' := Holds.below (by assumption) hb; have hk2 : Ext w H w' H1 := (by assumption : Ext w H _ H1).step (hb.mono (by assumption : Ext w H _ H1).below.size) hk1)) | ((go_split_ands; go_at_call 129; refine (timed_any _ _ _ _ _ _ H1 _ (by assumption) (hh.mono hle) (hp.mono hle) hV hpl.out).mono ?_; rintro e w' ⟨rfl, hb⟩; have hk1 : Holds H1 w' := Holds.below (by assumption) hb; have hk2 : Ext w H w' H1 := (by assumption : Ext w H _ H1).step (hb.mono (by assumption : Ext w H _ H1).below.size) hk1)))
    go_wp2_with fail
    go_ret2
    rw [he]
    exact ⟨_, H', rfl, hkF, _, rfl, by rw [← hlate.out]; exact hs'⟩

theorem Sl.ofRow {H : Snap} {b : Nat} {t : TypeId} {xs : List Int} {n : Nat} (hb : H b = some (.cells (xs.map (Value.int .i64)).toArray t (0, 0))) (hx : ∀ x ∈ xs, I64 x) (hn : n ≤ xs.length) (hs : xs.length ≤ 1000) : Sl H (.slice (some ⟨b, 0, none⟩) n xs.length) (xs.take n) := by
  refine ⟨some ⟨b, 0, none⟩, xs.length, by rw [List.length_take, Nat.min_eq_left hn], by rw [List.length_take]; omega, by omega, by rw [List.length_take]; simp only [Enc.by_]; omega, .inr ⟨b, 0, _, t, (0, 0), rfl, hb, by simp [Enc.sz]; omega, ?_⟩⟩
  rw [reps_int]
  refine ⟨?_, fun x hx' => hx x (List.mem_of_mem_take hx')⟩
  simp [Enc.sz, List.map_take]

theorem run_sliceTimes (n b : Nat) (hn : n ≤ 5) (w : World) : (Instr.sliceAt 153 (.pointer (some ⟨b, 0, none⟩)) none (some (.int .i64 (n : Int))) none).run Tryz.prog w = .ok (.slice (some ⟨b, 0, none⟩) n 5) w := by
  have hal : Tryz.prog.arrayLen 153 = 5 := by kernel_rfl
  rw [run_sliceAt_array_h w 153 ⟨b, 0, none⟩ (by kernel_rfl) .i64 _ (by omega) (by rw [hal]; omega), show (sizeOf (Tryz.prog.elem 153)).run Tryz.prog w = .ok 1 w by kernel_rfl, hal]
  simp [Result.andThen, slicedAt, Addr.add_lit]

end Go.Proofs.YtngdppajailpcaaGreat

namespace Go.Proofs.YtngdppajailpcaaGreat
open Go.RowKit

attribute [local go_sem] Holds.drew Holds.alloc Holds.drewN WB.holds Oper.semAt_some

theorem FW_fn (r : Option Nat) (f : FuncId) : (FW r).fn f = True := rfl
theorem FW_dep (r : Option Nat) : (FW r).depth = none := rfl
theorem FW_round (r : Option Nat) : (FW r).round = r := rfl
theorem Calls.ofWide {r : Option Nat} {n : Nat} {P : Program} {f : FuncId} {args : Array Value} {w : World} {R : Ending → World → Prop} (h : CallsIn (FW r) n P f args w R) : Calls P f args w R := (callsIn_wide (n := n)).1 h
attribute [local go_sem] FW_fn FW_dep FW_round

theorem casesTo_prefix (h : House) {j n : Nat} (hj : j ≤ n) : casesTo h j <+: casesTo h n := by
  induction n with
  | zero => rw [show j = 0 by omega]; exact List.prefix_refl _
  | succ n ih =>
    by_cases e : j = n + 1
    · rw [e]; exact List.prefix_refl _
    · refine (ih (by omega)).trans ?_
      rw [casesTo_succ]
      split
      · exact List.prefix_append _ _
      · exact List.prefix_refl _

def encC (_ : Snap) (c : Int) (args : Array Value) : Prop := args = #[.int .i64 c]
/-- What a ranged function leaves. -/
def IterEnd {α : Type} (HW : Snap) (xs : List α) (J Jx : Snap → List α → World → Prop) (e : Ending) (W' : World) : Prop :=
  (∃ v, e = .returned v) ∧ ∃ Hc, Holds Hc W' ∧ SLe HW Hc ∧ (J Hc xs W' ∨ ∃ pre, pre <+: xs ∧ Jx Hc pre W')

set_option maxRecDepth 100000 in
set_option maxHeartbeats 4000000 in
theorem cases1_any (vm vb vt : Value) (h : House) (B : Nat) (H : Snap) (w : World) (hw : Holds H w) (hh : Hou H vm vb vt h) (hB : H B = some (.cells (houV vm vb vt h).cells 26 (0, 0))) (_hm3 : h.ms.length ≤ 3) :
    Iter Tryz.prog 138 #[.pointer (some ⟨B, 0, none⟩)] encC (casesOf h) w H := by
  obtain ⟨am, cm, rfl, hm1, hm2⟩ := hh.m.form
  intro l J Jx W HW hx hJ hJx hY h0
  have hleW := hx.le hw
  have hW := hx.holds
  obtain ⟨hc0, hc1, hc2, hc3⟩ := cellsHou hB
  refine Calls.mono (R := IterEnd HW (casesOf h) J Jx) (Calls.ofWide (r := none) (n := 3) ?_) (fun _ _ h => h)
  obtain ⟨fn, tmps, assign, body, hy, hR⟩ := hY HW [] (-1) W #[.int .i64 (-1)] 2 hW (SLe.refl _) h0 rfl (casesTo_prefix h (Nat.zero_le _))
  refine callsIn_of_wp Tryz.func138 rfl trivial ?_ rfl
  simp only [Tryz.ntmps138, List.size_toArray, List.length_cons, List.length_nil, Nat.reduceAdd, Nat.reduceSub, Array.replicate_succ, Array.replicate_zero, List.push_toArray, List.append_toArray, List.nil_append, List.cons_append]
  gi_wp2
  refine hR.mono ?_
  clear hR hy
  rintro e W1 ⟨hW1, hz1, (⟨rfl, hJ1⟩ | ⟨rfl, hJx1⟩)⟩
  · have hcW1 := lift hleW hc0
    gi_wp2
    gi_loopw [3, 4, 11] (fun _ _ i wr => ∃ (k : Nat) (Hc : Snap), k ≤ h.ms.length ∧ i = .int .i64 k ∧ Holds Hc wr ∧ SLe HW Hc ∧ W.heap.size ≤ wr.heap.size ∧ J Hc (casesTo h k) wr) (fun _ _ i _ => h.ms.length - (intOf i).toNat)
    case atStart => exact ⟨0, HW, Nat.zero_le _, rfl, hW1, SLe.refl _, hz1, hJ1⟩
    case round =>
      clear hJ1 hW1 hcW1
      obtain ⟨k, Hc, hk, rfl, hwc, hlec, hsz, hJk⟩ := hrel
      by_cases hlk : k < h.ms.length
      · obtain ⟨mc, hmc⟩ := At.mk hlk
        obtain ⟨bm, om, cm', he, ⟨hmr, hmp, hms⟩, hcr, hcp, hcs⟩ := hh.m.mach hmc
        cases he
        replace hcr := lift (hleW.trans hlec) hcr
        replace hcp := lift (hleW.trans hlec) hcp
        replace hcs := lift (hleW.trans hlec) hcs
        have hsucc := casesTo_succ h k
        rw [hmc.mach] at hsucc
        have hbA := (Below.refl wr.heap.size wr).alloc (Nat.le_refl _) (.cells #[.int .i64 mc.r, .int .i64 mc.p, .int .i64 mc.s] 97)
        have hJA := hJ _ _ _ _ _ hJk hwc (Turn.ext hwc hbA hsz)
        cases g : (mc.s == 1)
        · have g1 : ¬ mc.s = 1 := by simpa using g
          rw [if_neg g1] at hsucc
          replace hsucc := Lib.hid hsucc
          replace g1 := Lib.hid g1
          gi_wp2
          go_roundw
          case rel => exact ⟨k + 1, Hc, by omega, by go_num, hwc.alloc _, hlec, by simp; omega, by rw [hsucc.out]; exact hJA⟩
          case measure => simp [intOf]; omega
        · have g1 : mc.s = 1 := by simpa using g
          rw [if_pos g1] at hsucc
          obtain ⟨fn, tmps, assign, body, hy, hR⟩ := hY Hc (casesTo h k) (k : Int) _ #[.int .i64 k] 2 (hwc.alloc _) hlec hJA rfl (by rw [← hsucc]; exact casesTo_prefix h (by omega))
          rw [← hsucc] at hR
          replace hsucc := Lib.hid hsucc
          replace g1 := Lib.hid g1
          gi_wp2
          refine hR.mono ?_
          clear hR hy
          rintro e W3 ⟨hW3, hz3, (⟨rfl, hJ3⟩ | ⟨rfl, hJx3⟩)⟩
          · gi_wp2
            go_roundw
            case rel => exact ⟨k + 1, Hc, by omega, by go_num, hW3, hlec, hz3, hJ3⟩
            case measure => simp [intOf]; omega
          · gi_wp2
            refine bodyPost_ret (results_none rfl _ _ _) rfl ?_
            exact ⟨⟨_, rfl⟩, Hc, hW3, hlec, .inr ⟨_, casesTo_prefix h (by omega), hJx3⟩⟩
      · gi_wp2
        go_end0
        have hk' : k = h.ms.length := by omega
        subst hk'
        exact ⟨⟨_, rfl⟩, Hc, hwc, hlec, .inl hJk⟩
  · gi_wp2
    refine bodyPost_ret (results_none rfl _ _ _) rfl ?_
    exact ⟨⟨_, rfl⟩, HW, hW1, SLe.refl _, .inr ⟨_, casesTo_prefix h (Nat.zero_le _), hJx1⟩⟩

end Go.Proofs.YtngdppajailpcaaGreat

namespace Go.Proofs.YtngdppajailpcaaGreat
open Go.RowKit

/-- Block k is one of those in which the plan lies: the used bundles, the rows, a row. -/
def ownB (UB R : Nat) (vs : List Value) (k : Nat) : Bool := (k == UB) || ((k == R) || vs.any fun v => v.ownBlock == some k)
theorem ownB_iff {UB R : Nat} {vs : List Value} {k : Nat} : ownB UB R vs k = true ↔ k = UB ∨ k = R ∨ ∃ v ∈ vs, v.ownBlock = some k := by
  simp [ownB, List.any_eq_true]

/-- What is frozen, and the plan as it lies now. -/
def snapI (HF : Snap) (UB R : Nat) (vs : List Value) (W : World) : Snap := fun k => match HF k with
  | some o => some o
  | none => if ownB UB R vs k then W.heap[k]? else none

section
variable {HF : Snap} {n0 UB R : Nat} {tI tL : TypeId} {W W' : World} {vs vs' : List Value} {u u' : Nat} {plan plan' : List (List Int)}

theorem snapI_hf (W : World) {k : Nat} {o : Obj} (h : HF k = some o) : snapI HF UB R vs W k = some o := by simp [snapI, h]
theorem snapI_own (W : World) {k : Nat} (h : HF k = none) (ho : ownB UB R vs k = true) : snapI HF UB R vs W k = W.heap[k]? := by simp [snapI, h, ho]
theorem snapI_none (W : World) {k : Nat} (h : HF k = none) (ho : ownB UB R vs k = false) : snapI HF UB R vs W k = none := by simp [snapI, h, ho]
theorem snapI_le (W : World) : SLe HF (snapI HF UB R vs W) := fun _ _ h => snapI_hf W h

structure St (HF : Snap) (n0 UB R : Nat) (tI tL : TypeId) (W : World) (vs : List Value) (u : Nat) (plan : List (List Int)) : Prop where
  hf : Holds HF W
  ub : W.heap[UB]? = some (.cells #[.int .i64 (u : Int)] tI (0, 0))
  rr : W.heap[R]? = some (.cells vs.toArray tL (0, 0))
  len : vs.length = plan.length
  rows : ∀ m l v, At plan m l → At vs m v → W.ownsRow n0 tI 1 v l.length (l.map (Value.int .i64))
  new : ∀ k, ownB UB R vs k = true → HF k = none ∧ n0 ≤ k
  ne : UB ≠ R
  rne : ∀ v ∈ vs, v.ownBlock ≠ some UB ∧ v.ownBlock ≠ some R
  apart : ∀ m m' v v', m ≠ m' → At vs m v → At vs m' v' → v.ownBlock = none ∨ v.ownBlock ≠ v'.ownBlock
  i64 : ∀ x ∈ plan.flatten, I64 x

theorem St.row (s : St HF n0 UB R tI tL W vs u plan) {v : Value} (hv : v ∈ vs) : ∃ m l, At plan m l ∧ At vs m v := by
  obtain ⟨m, hm, rfl⟩ := List.getElem_of_mem hv
  exact ⟨m, plan[m]'(by rw [← s.len]; exact hm), List.getElem?_eq_getElem (by rw [← s.len]; exact hm), List.getElem?_eq_getElem hm⟩
theorem St.ownLt (s : St HF n0 UB R tI tL W vs u plan) {k : Nat} (hk : ownB UB R vs k = true) : k < W.heap.size := by
  rcases ownB_iff.1 hk with rfl | rfl | ⟨v, hv, e⟩
  · exact (Array.getElem?_eq_some_iff.1 s.ub).1
  · exact (Array.getElem?_eq_some_iff.1 s.rr).1
  · obtain ⟨m, l, hl, hv'⟩ := s.row hv
    exact ((s.rows m l v hl hv').lt k e).2
theorem St.holds (s : St HF n0 UB R tI tL W vs u plan) : Holds (snapI HF UB R vs W) W := ⟨fun k o e => by
  cases hk : HF k with
  | some o' => rw [snapI_hf W hk] at e; cases e; exact s.hf.at_ _ _ hk
  | none =>
    cases ho : ownB UB R vs k with
    | true => rw [snapI_own W hk ho] at e; exact e
    | false => rw [snapI_none W hk ho] at e; cases e⟩

/-- What turns in memory where only the plan's own blocks are written, and new ones made. -/
theorem St.turn (s : St HF n0 UB R tI tL W vs u plan) (s' : St HF n0 UB R tI tL W' vs' u' plan') (hB : Below n0 W W') (hoth : ∀ k, k < W.heap.size → ownB UB R vs k = false → W'.heap[k]? = W.heap[k]?)
    (hsub : ∀ k, ownB UB R vs' k = true → ownB UB R vs k = true ∨ W.heap.size ≤ k) : Turn n0 W (snapI HF UB R vs W) W' (snapI HF UB R vs' W') := by
  refine ⟨hB, fun b cs t fr e hb => ?_, fun b hb => ?_, s'.holds⟩
  · have hlt := (Array.getElem?_eq_some_iff.1 e).1
    have hF : HF b = none := by
      cases hk : HF b with
      | some o => rw [snapI_hf W hk] at hb; cases hb
      | none => rfl
    have ho : ownB UB R vs b = false := by
      cases ho : ownB UB R vs b with
      | false => rfl
      | true => rw [snapI_own W hF ho, e] at hb; cases hb
    refine ⟨(hoth b hlt ho).trans e, snapI_none W' hF ?_⟩
    cases ho' : ownB UB R vs' b with
    | false => rfl
    | true =>
      rcases hsub b ho' with h | h
      · rw [ho] at h; cases h
      · omega
  · cases hk : HF b with
    | some o => rw [snapI_hf W hk, snapI_hf W' hk]
    | none =>
      have h1 : ownB UB R vs b = false := by
        cases ho : ownB UB R vs b with
        | false => rfl
        | true => have := (s.new b ho).2; omega
      have h2 : ownB UB R vs' b = false := by
        cases ho : ownB UB R vs' b with
        | false => rfl
        | true => have := (s'.new b ho).2; omega
      rw [snapI_none W hk h1, snapI_none W' hk h2]

/-- A round of the caller's leaves the plan as it lies. -/
theorem St.kept (s : St HF n0 UB R tI tL W vs u plan) (h : Holds (snapI HF UB R vs W) W') : St HF n0 UB R tI tL W' vs u plan ∧ snapI HF UB R vs W' = snapI HF UB R vs W := by
  have same : ∀ k, ownB UB R vs k = true → W'.heap[k]? = W.heap[k]? := fun k ho => by
    obtain ⟨o, ho'⟩ : ∃ o, W.heap[k]? = some o := ⟨_, Array.getElem?_eq_getElem (s.ownLt ho)⟩
    have := h.at_ k o (by rw [snapI_own W (s.new k ho).1 ho]; exact ho')
    rw [this, ho']
  refine ⟨⟨h.mono (snapI_le W), (same UB (ownB_iff.2 (.inl rfl))).trans s.ub, (same R (ownB_iff.2 (.inr (.inl rfl)))).trans s.rr, s.len, fun m l v hl hv => ?_, s.new, s.ne, s.rne, s.apart, s.i64⟩, ?_⟩
  · have h1 := s.rows m l v hl hv
    refine ⟨h1.1, ?_⟩
    rcases h1.2 with h2 | ⟨g, cap, cur, hv', hb, hg, rest⟩
    · exact .inl h2
    · exact .inr ⟨g, cap, cur, hv', hb, (same g (ownB_iff.2 (.inr (.inr ⟨v, hv.mem, by rw [hv']; rfl⟩)))).trans hg, rest⟩
  · funext k
    cases hk : HF k with
    | some o => rw [snapI_hf W hk, snapI_hf W' hk]
    | none =>
      cases ho : ownB UB R vs k with
      | true => rw [snapI_own W hk ho, snapI_own W' hk ho, same k ho]
      | false => rw [snapI_none W hk ho, snapI_none W' hk ho]

/-- A step that leaves all that was there. -/
theorem St.ext (s : St HF n0 UB R tI tL W vs u plan) (h : Below W.heap.size W W') : St HF n0 UB R tI tL W' vs u plan ∧ snapI HF UB R vs W' = snapI HF UB R vs W := s.kept (s.holds.below h)
theorem St.drew (s : St HF n0 UB R tI tL W vs u plan) : St HF n0 UB R tI tL W.drew vs u plan := (s.ext (Below.refl _ _).drew).1
theorem snapI_drew (W : World) : snapI HF UB R vs W.drew = snapI HF UB R vs W := rfl

/-- The used bundles are written. -/
theorem St.setUsed (s : St HF n0 UB R tI tL W vs u plan) (u' : Nat) : St HF n0 UB R tI tL (W.setCell ⟨UB, 0, none⟩ (.int .i64 (u' : Int))) vs u' plan ∧
    Turn n0 W (snapI HF UB R vs W) (W.setCell ⟨UB, 0, none⟩ (.int .i64 (u' : Int))) (snapI HF UB R vs (W.setCell ⟨UB, 0, none⟩ (.int .i64 (u' : Int)))) := by
  have hU := s.new UB (ownB_iff.2 (.inl rfl))
  have s' : St HF n0 UB R tI tL (W.setCell ⟨UB, 0, none⟩ (.int .i64 (u' : Int))) vs u' plan := by
    refine ⟨s.hf.setCell hU.1 _, by have := heap_setCell_row (i := 0) s.ub (.int .i64 (u' : Int)); simpa using this, (Below.heap_setCell _ _ _ _ (Ne.symm s.ne)).trans s.rr, s.len, fun m l v hl hv => ?_, s.new, s.ne, s.rne, s.apart, s.i64⟩
    exact ownsRow_setCell_other (s.rows m l v hl hv) (s.rne v hv.mem).1 _
  refine ⟨s', s.turn s' ((Below.refl _ _).setCell hU.2 _) (fun k _ ho => Below.heap_setCell _ _ _ _ ?_) (fun k hk => .inl hk)⟩
  rintro rfl
  rw [ownB_iff.2 (.inl rfl)] at ho; cases ho

theorem St.cellU (s : St HF n0 UB R tI tL W vs u plan) : W.cell? ⟨UB, 0, none⟩ = some (.int .i64 (u : Int)) ∧ W.frozen? ⟨UB, 0, none⟩ = false := by
  constructor <;> simp [World.cell?, World.frozen?, s.ub]
theorem St.cellR (s : St HF n0 UB R tI tL W vs u plan) {m : Nat} {v : Value} (hv : At vs m v) : W.cell? ⟨R, m, none⟩ = some v ∧ W.frozen? ⟨R, m, none⟩ = false := by
  constructor
  · rw [cell_of_row W R m _ _ _ s.rr]; simpa using (show vs[m]? = some v from hv)
  · simp [World.frozen?, s.rr]

theorem At.set_same {α : Type} {xs : List α} {m : Nat} {x : α} (h : At xs m x) (y : α) : At (xs.set m y) m y := by
  show _ = _; rw [List.getElem?_set_self h.lt]
theorem At.set_inv {α : Type} {xs : List α} {m k : Nat} {y z : α} (h : At (xs.set m y) k z) : (k = m ∧ z = y) ∨ (k ≠ m ∧ At xs k z) := by
  have h' : (xs.set m y)[k]? = some z := h
  by_cases e : k = m
  · subst e
    have hl := (List.getElem?_eq_some_iff.1 h').1
    rw [List.length_set] at hl
    rw [List.getElem?_set_self hl] at h'
    cases h'
    exact .inl ⟨rfl, rfl⟩
  · rw [List.getElem?_set_ne (Ne.symm e)] at h'
    exact .inr ⟨e, h'⟩

/-- Row m is written anew, behind a step that wrote at most its block. -/
theorem St.setRow (s : St HF n0 UB R tI tL W vs u plan) {m : Nat} {l l' : List Int} {v v' : Value} (hl : At plan m l) (hv : At vs m v)
    (hB : Below n0 W W') (hoth : ∀ k, k < W.heap.size → some k ≠ v.ownBlock → W'.heap[k]? = W.heap[k]?)
    (hrow : W'.ownsRow n0 tI 1 v' l'.length (l'.map (Value.int .i64))) (hat : v'.ownBlock = v.ownBlock ∨ ∃ g, v'.ownBlock = some g ∧ W.heap.size ≤ g) (hi : ∀ x ∈ l', I64 x) (hpl : ∀ x ∈ (plan.set m l').flatten, I64 x) :
    St HF n0 UB R tI tL (W'.setCell ⟨R, m, none⟩ v') (vs.set m v') u (plan.set m l') ∧
    Turn n0 W (snapI HF UB R vs W) (W'.setCell ⟨R, m, none⟩ v') (snapI HF UB R (vs.set m v') (W'.setCell ⟨R, m, none⟩ v')) := by
  have hR := s.new R (ownB_iff.2 (.inr (.inl rfl)))
  have hU := s.new UB (ownB_iff.2 (.inl rfl))
  have hltR := (Array.getElem?_eq_some_iff.1 s.rr).1
  have hltU := (Array.getElem?_eq_some_iff.1 s.ub).1
  have hvb := s.rne v hv.mem
  have hWR : W'.heap[R]? = some (.cells vs.toArray tL (0, 0)) := (hoth R hltR (Ne.symm hvb.2)).trans s.rr
  have hsz := hB.size
  have hv'ne : v'.ownBlock ≠ some UB ∧ v'.ownBlock ≠ some R := by
    rcases hat with h | ⟨g, h, hg⟩
    · rw [h]; exact hvb
    · rw [h]; exact ⟨fun e => by cases e; omega, fun e => by cases e; omega⟩
  have hsub : ∀ k, ownB UB R (vs.set m v') k = true → ownB UB R vs k = true ∨ W.heap.size ≤ k := by
    intro k hk
    rcases ownB_iff.1 hk with e | e | ⟨x, hx, e⟩
    · exact .inl (ownB_iff.2 (.inl e))
    · exact .inl (ownB_iff.2 (.inr (.inl e)))
    · rcases List.mem_or_eq_of_mem_set hx with hx | rfl
      · exact .inl (ownB_iff.2 (.inr (.inr ⟨x, hx, e⟩)))
      · rcases hat with h | ⟨g, h, hg⟩
        · exact .inl (ownB_iff.2 (.inr (.inr ⟨v, hv.mem, by rw [← h]; exact e⟩)))
        · rw [h] at e; cases e; exact .inr hg
  have hHF : Holds HF W' := ⟨fun k o e => by
    refine (hoth k (s.hf.lt e) ?_).trans (s.hf.at_ _ _ e)
    intro ek
    have := (s.new k (ownB_iff.2 (.inr (.inr ⟨v, hv.mem, ek.symm⟩)))).1
    rw [this] at e; cases e⟩
  have s' : St HF n0 UB R tI tL (W'.setCell ⟨R, m, none⟩ v') (vs.set m v') u (plan.set m l') := by
    refine ⟨hHF.setCell hR.1 _, (Below.heap_setCell _ _ _ _ s.ne).trans ((hoth UB hltU (Ne.symm hvb.1)).trans s.ub), ?_, by simp [s.len], ?_, ?_, s.ne, ?_, ?_, hpl⟩
    · have := heap_setCell_row (i := m) hWR v'
      rw [this]
      simp
    · intro k lk x hlk hx
      rcases hx.set_inv with ⟨rfl, rfl⟩ | ⟨hkm, hx⟩
      · have : lk = l' := hlk.uniq (hl.set_same l')
        subst this
        exact ownsRow_setCell_other hrow hv'ne.2 _
      · have hlk' : At plan k lk := by
          rcases hlk.set_inv with ⟨e, _⟩ | ⟨_, h⟩
          · exact absurd e hkm
          · exact h
        refine ownsRow_setCell_other ?_ (s.rne x hx.mem).2 _
        have h1 := s.rows k lk x hlk' hx
        refine ⟨h1.1, ?_⟩
        rcases h1.2 with h2 | ⟨g, cap, cur, hxv, hb, hg, rest⟩
        · exact .inl h2
        · refine .inr ⟨g, cap, cur, hxv, hb, (hoth g (Array.getElem?_eq_some_iff.1 hg).1 ?_).trans hg, rest⟩
          have := s.apart k m x v hkm hx hv
          rw [hxv] at this
          rcases this with h | h
          · cases h
          · exact h
    · intro k hk
      rcases hsub k hk with h | h
      · exact s.new k h
      · refine ⟨s.hf.none_of_ge h, ?_⟩
        omega
    · intro x hx
      rcases List.mem_or_eq_of_mem_set hx with hx | rfl
      · exact s.rne x hx
      · exact hv'ne
    · intro j k x y hjk hx hy
      rcases hx.set_inv with ⟨hjm, hxv⟩ | ⟨hjm, hx2⟩
      · rcases hy.set_inv with ⟨e, _⟩ | ⟨hkm, hy2⟩
        · exact absurd (hjm.trans e.symm) hjk
        · rw [hxv]
          rcases hat with h | ⟨g, h, hg⟩
          · rw [h]; exact s.apart m k v y (Ne.symm hkm) hv hy2
          · rw [h]
            refine .inr fun e => ?_
            have := s.ownLt (ownB_iff.2 (.inr (.inr ⟨y, hy2.mem, e.symm⟩)))
            omega
      · rcases hy.set_inv with ⟨hkm, hyv⟩ | ⟨hkm, hy2⟩
        · rw [hyv]
          rcases hat with h | ⟨g, h, hg⟩
          · rw [h]; exact s.apart j m x v hjm hx2 hv
          · rw [h]
            cases hxo : x.ownBlock with
            | none => exact .inl rfl
            | some g' =>
              refine .inr fun e => ?_
              cases e
              have := s.ownLt (ownB_iff.2 (.inr (.inr ⟨x, hx2.mem, hxo⟩)))
              omega
        · exact s.apart j k x y hjk hx2 hy2
  refine ⟨s', s.turn s' (hB.setCell hR.2 _) (fun k hk ho => ?_) hsub⟩
  have hkR : k ≠ R := by rintro rfl; rw [ownB_iff.2 (.inr (.inl rfl))] at ho; cases ho
  refine (Below.heap_setCell _ _ _ _ hkR).trans (hoth k hk ?_)
  intro e
  rw [ownB_iff.2 (.inr (.inr ⟨v, hv.mem, e.symm⟩))] at ho; cases ho

/-- The plan as a slice of slices. -/
theorem St.sl (s : St HF n0 UB R tI tL W vs u plan) (hn : plan.length ≤ 1000) (hl : ∀ l ∈ plan, l.length ≤ 1000) : Sl (snapI HF UB R vs W) (.slice (some ⟨R, 0, none⟩) plan.length plan.length) plan := by
  have hR := s.new R (ownB_iff.2 (.inr (.inl rfl)))
  have key : ∀ (n : Nat), reps (snapI HF UB R vs W) (plan.drop n) (vs.drop n) := by
    intro n
    generalize hd : plan.length - n = d
    induction d generalizing n with
    | zero =>
      rw [List.drop_eq_nil_iff.2 (by omega), List.drop_eq_nil_iff.2 (by rw [s.len]; omega)]; rfl
    | succ d ih =>
      have hnp : n < plan.length := by omega
      have hnv : n < vs.length := by rw [s.len]; exact hnp
      rw [List.drop_eq_getElem_cons hnp, List.drop_eq_getElem_cons hnv]
      refine ⟨[vs[n]], vs.drop (n + 1), rfl, ⟨_, rfl, ?_⟩, ih (n + 1) (by omega)⟩
      have hlA : At plan n plan[n] := List.getElem?_eq_getElem hnp
      have hvA : At vs n vs[n] := List.getElem?_eq_getElem hnv
      have hr := s.rows n _ _ hlA hvA
      have hlen := hl _ hlA.mem
      have hi : ∀ x ∈ plan[n], I64 x := fun x hx => s.i64 x (List.mem_flatten.2 ⟨_, hlA.mem, hx⟩)
      rcases hr.2 with ⟨hv, hz⟩ | ⟨g, cap, cur, hv, hb, hg, hnc, hcm, hcs, htake⟩
      · rw [hv, List.eq_nil_of_length_eq_zero hz]; exact Sl.nil0 _
      · have hown : ownB UB R vs g = true := ownB_iff.2 (.inr (.inr ⟨_, hvA.mem, by rw [hv]; rfl⟩))
        rw [hv]
        refine ⟨_, cap, rfl, hnc, by simp only [maxLen] at hcm; omega, by simp only [Enc.by_]; omega, .inr ⟨g, 0, cur, tI, (0, 0), rfl, (snapI_own W (s.new g hown).1 hown).trans hg, by simp [Enc.sz, hcs]; omega, ?_⟩⟩
        rw [List.drop_zero, reps_int]
        exact ⟨by simpa [Enc.sz] using htake, hi⟩
  refine ⟨_, plan.length, rfl, Nat.le_refl _, by omega, by simp only [Enc.by_]; omega, .inr ⟨R, 0, vs.toArray, tL, (0, 0), rfl, (snapI_own W hR.1 (ownB_iff.2 (.inr (.inl rfl)))).trans s.rr, by simp [Enc.sz, s.len], ?_⟩⟩
  have h0 := key 0
  simp only [List.drop_zero] at h0
  simp only [List.drop_zero, Enc.sz, Nat.mul_one, ← s.len]
  rw [List.take_length]
  exact h0
end

end Go.Proofs.YtngdppajailpcaaGreat

namespace Go.Proofs.YtngdppajailpcaaGreat
open Go.RowKit

attribute [local go_sem] Holds.drew Holds.alloc Holds.drewN WB.holds Oper.semAt_some FW_fn FW_dep FW_round

/-- A plan of which the first lists are made. -/
def fullP (n : Nat) (first : List (List Int)) : List (List Int) := first ++ List.replicate (n - first.length) []
theorem fullP_len {n : Nat} {first : List (List Int)} (h : first.length ≤ n) : (fullP n first).length = n := by unfold fullP; simp; omega
theorem fullP_all {n : Nat} {first : List (List Int)} (h : first.length = n) : fullP n first = first := by unfold fullP; rw [h]; simp
theorem fullP_flatten (n : Nat) (first : List (List Int)) : (fullP n first).flatten = first.flatten := by
  unfold fullP
  rw [List.flatten_append]
  have : ∀ k, (List.replicate k ([] : List Int)).flatten = [] := fun k => by induction k with
    | zero => rfl
    | succ k ih => rw [List.replicate_succ, List.flatten_cons, ih]; rfl
  rw [this, List.append_nil]
theorem fullP_nil {n : Nat} {first : List (List Int)} (h : first.length < n) : fullP n (first ++ [[]]) = fullP n first := by
  unfold fullP
  rw [List.length_append, List.length_singleton, List.append_assoc]
  congr 1
  rw [show n - first.length = (n - (first.length + 1)) + 1 by omega, List.replicate_succ]; rfl

def encP (h : House) (H : Snap) (p : List (List Int)) (args : Array Value) : Prop := ∃ vp, args = #[vp, arr (readyP h p)] ∧ Sl H vp p

/-- What 'from' finds in memory: its captured variables. -/
structure Env (HF : Snap) (l : Nat) (vm vb vt : Value) (h : House) (stop : Int) (PB YB HB FB SB UB R : Nat) : Prop where
  pb : HF PB = some (.cells #[.slice (some ⟨R, 0, none⟩) h.ms.length h.ms.length] 27 (0, 0))
  yb : HF YB = some (.cells #[.func (.yield l) #[] #[]] 160 (0, 0))
  hb : HF HB = some (.cells (houV vm vb vt h).cells 26 (0, 0))
  fb : HF FB = some (.cells #[.func (.func 140) #[] #[.pointer (some ⟨PB, 0, none⟩), .pointer (some ⟨YB, 0, none⟩), .pointer (some ⟨HB, 0, none⟩), .pointer (some ⟨FB, 0, none⟩), .pointer (some ⟨SB, 0, none⟩), .pointer (some ⟨UB, 0, none⟩)]] 135 (0, 0))
  sb : HF SB = some (.cells #[.int .i64 stop] 3 (0, 0))
  hh : Hou HF vm vb vt h

/-- What 'from' leaves. -/
def FromEnd (HF : Snap) (n0 UB R n : Nat) (first : List (List Int)) (xs pre : List (List (List Int))) (J Jx : Snap → List (List (List Int)) → World → Prop) (e : Ending) (W' : World) : Prop :=
  ∃ vs, St HF n0 UB R 3 24 W' vs (ub first.flatten) (fullP n first) ∧
    ((e = .returned (.bool true) ∧ J (snapI HF UB R vs W') (pre ++ xs) W') ∨ (e = .returned (.bool false) ∧ ∃ q, q <+: xs ∧ Jx (snapI HF UB R vs W') (pre ++ q) W'))

/-- What the rounds do. -/
def Rounds (h : House) (HF : Snap) (l W0 : Nat) (xs : List (List (List Int))) (J Jx : Snap → List (List (List Int)) → World → Prop) : Prop :=
  ∀ Hc pre x W1 args m, Holds Hc W1 → SLe HF Hc → J Hc pre W1 → encP h Hc x args → pre ++ [x] <+: xs →
      YieldAt (FW none) m Tryz.prog l args W1 fun e W' => Holds Hc W' ∧ W0 ≤ W'.heap.size ∧ ((e = .returned (.bool true) ∧ J Hc (pre ++ [x]) W') ∨ (e = .returned (.bool false) ∧ Jx Hc (pre ++ [x]) W'))

set_option maxRecDepth 100000 in
set_option maxHeartbeats 8000000 in
theorem yield_any (HF : Snap) (n0 l W0 : Nat) (vm vb vt : Value) (h : House) (hv : Valid h) (stop : Int) (PB YB HB FB SB UB R : Nat) (E : Env HF l vm vb vt h stop PB YB HB FB SB UB R)
    (xs : List (List (List Int))) (J Jx : Snap → List (List (List Int)) → World → Prop) (hJ : Abides n0 J) (hY : Rounds h HF l W0 xs J Jx) (first : List (List Int)) (hg : GoodF h first) (hlen : first.length = h.ms.length)
    (pre : List (List (List Int))) (hpre : pre ++ [first] <+: xs) (W : World) (vs : List Value) (s : St HF n0 UB R 3 24 W vs (ub first.flatten) first) (hj : J (snapI HF UB R vs W) pre W) :
    Calls Tryz.prog 140 #[.int .i64 h.ms.length, .pointer (some ⟨PB, 0, none⟩), .pointer (some ⟨YB, 0, none⟩), .pointer (some ⟨HB, 0, none⟩), .pointer (some ⟨FB, 0, none⟩), .pointer (some ⟨SB, 0, none⟩), .pointer (some ⟨UB, 0, none⟩)] W
      (FromEnd HF n0 UB R h.ms.length first [first] pre J Jx) := by
  have hpl : isPlan h first = true := by simp [isPlan, hlen, hg.good]
  have hb5 := hv.b5
  have hm3 := hv.m3
  have hsl := s.sl (by omega) (fun l' hl' => by
    obtain ⟨k, hk, rfl⟩ := List.getElem_of_mem hl'
    have := isPlan_one hpl (m := k) (l := first[k]) (List.getElem?_eq_getElem hk); omega)
  rw [hlen] at hsl
  have hle := snapI_le (HF := HF) (UB := UB) (R := R) (vs := vs) W
  have hw := s.holds
  obtain ⟨Hc, hHc⟩ : ∃ Hc, Hid (snapI HF UB R vs W = Hc) := ⟨_, rfl⟩
  rw [hHc.out] at hsl hle hw hj
  have hcP := fun (w : World) (hw : Holds Hc w) => cellH (hle _ _ E.pb) hw 0
  have hcY := fun (w : World) (hw : Holds Hc w) => cellH (hle _ _ E.yb) hw 0
  obtain ⟨hh0, hh1, hh2, hh3⟩ := cellsHou (hle _ _ E.hb)
  simp at hcP hcY
  have hhc := E.hh.mono hle
  have hplH := Lib.hid hpl
  replace hlen := Lib.hid hlen
  have hr := readyP_bd hv hpl
  clear hpl
  refine Calls.ofWide (r := none) (n := 3) ?_
  refine callsIn_of_wp Tryz.func140 rfl trivial ?_ rfl
  simp only [Tryz.ntmps140, List.size_toArray, List.length_cons, List.length_nil, Nat.reduceAdd, Nat.reduceSub, Array.replicate_succ, Array.replicate_zero, List.push_toArray, List.append_toArray, List.nil_append, List.cons_append]
  gi_wp2
  refine wpIn_region_qtail (C := fun w' => ∃ x : WB Hc W, w' = x.w) 7 (by kernel_rfl) (by kernel_rfl) (by kernel_rfl) ⟨⟨W.drew, hw.drew, (Below.refl _ _).drew⟩, rfl⟩ ?_
  simp only [List.take_succ_cons, List.take_zero, List.drop_succ_cons, List.drop_zero]
  have hne : Nonempty (WB Hc W) := ⟨⟨W, hw, Below.refl _ _⟩⟩
  repeat go_big_quiet_step ((first | (go_at_call 128; exact Calls.quietB (readied_any _ _ _ _ _ _ _ (WB.holds _) hhc hv (padT_len _ _) (padT_bd hv hplH.out))) | (go_at_call 129; exact Calls.quietB (timed_any _ _ _ _ _ _ _ _ (WB.holds _) hhc hsl hv hplH.out))))
  refine wpQuiet_nil ?_
  clear hne
  rintro w2 ⟨⟨_, hw2, hb2⟩, rfl⟩
  have hnW : n0 ≤ W.heap.size := by have := (s.new UB (ownB_iff.2 (.inl rfl))).2; have := s.ownLt (ownB_iff.2 (.inl rfl)); omega
  have hj2 := hJ _ _ _ _ _ hj hw (Turn.ext hw hb2 hnW)
  obtain ⟨fn, tmps, assign, body, hy, hR⟩ := hY Hc pre first w2 #[.slice (some ⟨R, 0, none⟩) h.ms.length h.ms.length, arr (readyT h (padT h first))] 2 hw2 (by rw [← hHc.out]; exact snapI_le W) hj2 ⟨_, rfl, hsl⟩ hpre
  gi_wp2
  refine hR.mono ?_
  clear hR hy
  rintro e W3 ⟨hW3, hz3, (⟨rfl, hJ3⟩ | ⟨rfl, hJx3⟩)⟩
  · gi_wp2
    go_ret
    obtain ⟨s3, he3⟩ := s.kept (by rw [hHc.out]; exact hW3)
    rw [← hHc.out, ← he3] at hJ3
    exact ⟨vs, by rw [fullP_all hlen.out]; exact s3, .inl ⟨rfl, hJ3⟩⟩
  · gi_wp2
    go_ret
    obtain ⟨s3, he3⟩ := s.kept (by rw [hHc.out]; exact hW3)
    rw [← hHc.out, ← he3] at hJx3
    exact ⟨vs, by rw [fullP_all hlen.out]; exact s3, .inr ⟨rfl, [first], List.prefix_refl _, hJx3⟩⟩

end Go.Proofs.YtngdppajailpcaaGreat

namespace Go.Proofs.YtngdppajailpcaaGreat
open Go.RowKit

attribute [local go_sem] Holds.drew Holds.alloc Holds.drewN WB.holds

section
variable {HF : Snap} {n0 UB R : Nat} {tI tL : TypeId} {W W' : World} {vs vs' : List Value} {u u' : Nat} {plan plan' : List (List Int)}
theorem St.own (s : St HF n0 UB R tI tL W vs u plan) {m : Nat} {l : List Int} {v : Value} (hl : At plan m l) (hv : At vs m v) (hlen : l.length ≤ 1000) : Own HF n0 W tI v l :=
  ⟨_, s.rows m l v hl hv, reps_int.2 ⟨rfl, fun x hx => s.i64 x (List.mem_flatten.2 ⟨l, hl.mem, hx⟩)⟩, fun k hk => (s.new k (ownB_iff.2 (.inr (.inr ⟨v, hv.mem, hk⟩)))).1, by simp only [Enc.by_]; omega⟩
theorem Own.ints {H : Snap} {base : Nat} {w : World} {e : TypeId} {v : Value} {xs : List Int} (h : Own H base w e v xs) : w.ownsRow base e 1 v xs.length (xs.map (Value.int .i64)) := by
  obtain ⟨cells, ho, hr, _⟩ := h
  obtain ⟨rfl, _⟩ := reps_int.1 hr
  exact ho
theorem St.size (s : St HF n0 UB R tI tL W vs u plan) : n0 ≤ W.heap.size := by have := (s.new UB (ownB_iff.2 (.inl rfl))).2; have := s.ownLt (ownB_iff.2 (.inl rfl)); omega
end

theorem growP_set {n : Nat} {first : List (List Int)} {m : Nat} {l : List Int} (hl : At first m l) (hm : first.length = m + 1) (b : Nat) : (fullP n first).set m (l ++ [(b : Int)]) = fullP n (growP first b) := by
  unfold fullP
  rw [growP_len (by omega), List.set_append_left _ _ (by omega)]
  congr 1
  unfold growP
  have h2 : first.getD (first.length - 1) [] = l := by rw [List.getD_eq_getElem?_getD, show first.length - 1 = m by omega, show first[m]? = some l from hl]; rfl
  rw [h2, show first.length - 1 = m by omega, List.set_eq_take_append_cons_drop, if_pos (by omega), List.drop_eq_nil_of_le (by omega)]
theorem fullP_at {n : Nat} {first : List (List Int)} {m : Nat} {l : List Int} (hl : At first m l) : At (fullP n first) m l := by
  unfold fullP
  show _ = _
  rw [List.getElem?_append_left hl.lt]; exact hl
theorem growP_at {first : List (List Int)} {m : Nat} {l : List Int} (hl : At first m l) (hm : first.length = m + 1) (b : Nat) : At (growP first b) m (l ++ [(b : Int)]) := by
  unfold growP
  have h2 : first.getD (first.length - 1) [] = l := by rw [List.getD_eq_getElem?_getD, show first.length - 1 = m by omega, show first[m]? = some l from hl]; rfl
  show _ = _
  rw [h2, List.getElem?_append_right (by rw [List.length_take]; omega), List.length_take]
  simp [hm]
theorem growP_back {n : Nat} {first : List (List Int)} {m : Nat} {l : List Int} (hl : At first m l) (hm : first.length = m + 1) (b : Nat) : (fullP n (growP first b)).set m l = fullP n first := by
  rw [← growP_set hl hm, List.set_set]
  have := fullP_at (n := n) hl
  obtain ⟨hk, e⟩ := List.getElem?_eq_some_iff.1 (show (fullP n first)[m]? = some l from this)
  rw [← e, List.set_getElem_self]

theorem plansB_prefix (h : House) (rec : List (List Int) → List (List (List Int))) (first : List (List Int)) {j n : Nat} (hj : j ≤ n) : plansB h rec first j <+: plansB h rec first n := by
  induction n with
  | zero => rw [show j = 0 by omega]; exact List.prefix_refl _
  | succ n ih =>
    by_cases e : j = n + 1
    · rw [e]; exact List.prefix_refl _
    · refine (ih (by omega)).trans ?_
      rw [plansB_succ]
      exact List.prefix_append _ _

section
variable {α : Type}
/-- 's[:k]' of a row of the call's own. -/
theorem ownsRow_cut {w : World} {base : Nat} {e : TypeId} {g n cap : Nat} {xs : List Value} (h : w.ownsRow base e 1 (.slice (some ⟨g, 0, none⟩) n cap) n xs) {k : Nat} (hk : k ≤ n) : w.ownsRow base e 1 (.slice (some ⟨g, 0, none⟩) k cap) k (xs.take k) := by
  obtain ⟨hl, h2⟩ := h
  rcases h2 with ⟨hv, _⟩ | ⟨g', cap', cur, hv, hb, hg, hnc, hcm, hcs, ht⟩
  · cases hv
  · cases hv
    refine ⟨by rw [List.length_take]; omega, .inr ⟨g, cap, cur, rfl, hb, hg, by omega, hcm, hcs, ?_⟩⟩
    rw [← ht, List.take_take]; congr 1; omega
theorem ownsRow_form {w : World} {base : Nat} {e : TypeId} {v : Value} {n : Nat} {xs : List Value} (h : w.ownsRow base e 1 v (n + 1) xs) : ∃ g cap, v = .slice (some ⟨g, 0, none⟩) (n + 1) cap ∧ n + 1 ≤ cap ∧ cap ≤ maxLen := by
  obtain ⟨hl, h2⟩ := h
  rcases h2 with ⟨_, hn⟩ | ⟨g', cap', cur, hv, hb, hg, hnc, hcm, hcs, ht⟩
  · omega
  · exact ⟨g', cap', hv, hnc, hcm⟩
end

set_option maxRecDepth 100000 in
set_option maxHeartbeats 8000000 in
theorem from_step (HF : Snap) (n0 l W0 : Nat) (vm vb vt : Value) (h : House) (hv : Valid h) (stop : Int) (_hstop : I64 stop) (PB YB HB FB SB UB R : Nat) (E : Env HF l vm vb vt h stop PB YB HB FB SB UB R)
    (xs : List (List (List Int))) (J Jx : Snap → List (List (List Int)) → World → Prop) (hJ : Abides n0 J) (hJx : Abides n0 Jx) (hY : Rounds h HF l W0 xs J Jx) (rec : List (List Int) → List (List (List Int))) (first : List (List Int)) (hg : GoodF h first)
    (hrec : ∀ f pre W vs, GoodF h f → mu h f < mu h first → pre ++ rec f <+: xs → St HF n0 UB R 3 24 W vs (ub f.flatten) (fullP h.ms.length f) → J (snapI HF UB R vs W) pre W → ∀ i : Int, i + 1 = f.length →
      Calls Tryz.prog 140 #[.int .i64 i, .pointer (some ⟨PB, 0, none⟩), .pointer (some ⟨YB, 0, none⟩), .pointer (some ⟨HB, 0, none⟩), .pointer (some ⟨FB, 0, none⟩), .pointer (some ⟨SB, 0, none⟩), .pointer (some ⟨UB, 0, none⟩)] W
        (FromEnd HF n0 UB R h.ms.length f (rec f) pre J Jx))
    (pre : List (List (List Int))) (hpre : pre ++ plansStep h stop rec first <+: xs) (W : World) (vs : List Value) (s : St HF n0 UB R 3 24 W vs (ub first.flatten) (fullP h.ms.length first)) (hj : J (snapI HF UB R vs W) pre W) (m : Nat) (hm : first.length = m + 1) :
    Calls Tryz.prog 140 #[.int .i64 m, .pointer (some ⟨PB, 0, none⟩), .pointer (some ⟨YB, 0, none⟩), .pointer (some ⟨HB, 0, none⟩), .pointer (some ⟨FB, 0, none⟩), .pointer (some ⟨SB, 0, none⟩), .pointer (some ⟨UB, 0, none⟩)] W
      (FromEnd HF n0 UB R h.ms.length first (plansStep h stop rec first) pre J Jx) := by
  have hmn := hg.le
  have hm3 := hv.m3
  have hb5 := hv.b5
  obtain ⟨ab, cb, rfl, hb1, hb2⟩ := E.hh.b.form
  -- the first call
  have hA : Calls Tryz.prog 140 #[.int .i64 ((m : Int) + 1), .pointer (some ⟨PB, 0, none⟩), .pointer (some ⟨YB, 0, none⟩), .pointer (some ⟨HB, 0, none⟩), .pointer (some ⟨FB, 0, none⟩), .pointer (some ⟨SB, 0, none⟩), .pointer (some ⟨UB, 0, none⟩)] W
      (FromEnd HF n0 UB R h.ms.length first (plansA h rec first) pre J Jx) := by
    by_cases hl : first.length = h.ms.length
    · have hpa : plansA h rec first = [first] := by unfold plansA; rw [if_pos hl]
      rw [hpa, show (m : Int) + 1 = (h.ms.length : Nat) by omega]
      refine yield_any HF n0 l W0 vm _ vt h hv stop PB YB HB FB SB UB R E xs J Jx hJ hY first hg hl pre ?_ W vs (by rw [fullP_all hl] at s; exact s) hj
      refine List.IsPrefix.trans ?_ hpre
      unfold plansStep; rw [hpa]
      exact (List.prefix_append_right_inj pre).2 (List.prefix_append _ _)
    · have hpa : plansA h rec first = rec (first ++ [[]]) := by unfold plansA; rw [if_neg hl]
      have hfl : (first ++ [[]]).flatten = first.flatten := by simp
      have hfp := fullP_nil (n := h.ms.length) (first := first) (by omega)
      rw [hpa]
      refine (hrec (first ++ [[]]) pre W vs (hg.nil_ok hl).1 (hg.nil_ok hl).2 ?_ (by rw [hfl, hfp]; exact s) hj ((m : Int) + 1) (by simp [hm])).mono ?_
      · refine List.IsPrefix.trans ?_ hpre
        unfold plansStep; rw [hpa]
        exact (List.prefix_append_right_inj pre).2 (List.prefix_append _ _)
      · rintro e W' ⟨vs', s', hh⟩
        exact ⟨vs', by rw [hfl, hfp] at s'; exact s', hh⟩
  obtain ⟨hh0, hh1, hh2, hh3⟩ := cellsHou E.hb
  have hcP := fun (w : World) (hw : Holds HF w) => cellH E.pb hw 0
  have hcF := fun (w : World) (hw : Holds HF w) => cellH E.fb hw 0
  have hcS := fun (w : World) (hw : Holds HF w) => cellH E.sb hw 0
  simp at hcP hcF hcS
  have hmne : ((m : Int) == h.ms.length) = false := by simp; omega
  unfold I64 at _hstop
  have hW := s.hf
  go_enter Tryz.func140, Tryz.ntmps140
  go_wp2_with fail
  go_at_call 140
  refine hA.mono ?_
  clear hA
  rintro e W1 ⟨vs1, s1, (⟨rfl, hj1⟩ | ⟨rfl, q, hq, hjx⟩)⟩
  · have hW1 := s1.hf
    cases hst : ((m : Int) == stop)
    · have hstep : plansStep h stop rec first = plansA h rec first ++ plansB h rec first h.bs.length := by
        unfold plansStep; rw [if_neg (by have : ¬ (m : Int) = stop := by simpa using hst
                                         rw [hm]; omega)]
      replace hstep := Lib.hid hstep
      have hgood := (goodAll_iff.1 hg.good).1
      obtain ⟨lr, hlr⟩ := At.mk (xs := first) (k := m) (by omega)
      have hlrlen : lr.length ≤ 5 := by
        have h1 := hg.len
        have h2 := congrArg List.length (congrArg List.flatten hlr.split)
        simp at h2 h1; omega
      obtain ⟨acc, hacc⟩ : ∃ acc, Hid (acc = first.flatten) := ⟨_, rfl⟩
      have hgoodA : ∀ x ∈ acc, 0 ≤ x ∧ x ≤ (h.bs.length : Int) - 1 := by rw [hacc.out]; exact hgood
      clear hgood
      go_wp2_with fail
      go_loopw [9, 10, 34] (fun _ _ i wr => ∃ (k : Nat) (vs2 : List Value), k ≤ h.bs.length ∧ i = .int .i64 k ∧ St HF n0 UB R 3 24 wr vs2 (ub acc) (fullP h.ms.length first) ∧ J (snapI HF UB R vs2 wr) (pre ++ (plansA h rec first ++ plansB h rec first k)) wr) (fun _ _ i _ => h.bs.length - (intOf i).toNat)
      case atStart =>
        refine ⟨0, vs1, Nat.zero_le _, rfl, by rw [hacc.out]; exact s1, ?_⟩
        rw [show plansB h rec first 0 = [] from rfl, List.append_nil]; exact hj1
      case round =>
        clear hj1 s1 hW1 hj s hW
        obtain ⟨k, vs2, hk, rfl, s2, hj2⟩ := hrel
        have hw2 := s2.hf
        by_cases hlk : k < h.bs.length
        · have hbit := used_bit hb5 hgoodA hlk
          have hsucc := plansB_succ h rec first k
          rw [← hacc.out] at hsucc
          have hcU := s2.cellU.1
          have hfU := s2.cellU.2
          by_cases hin : (k : Int) ∈ acc
          · rw [if_pos hin] at hbit
            rw [decide_eq_true hin, if_pos rfl, List.append_nil] at hsucc
            replace hsucc := Lib.hid hsucc
            replace hin := Lib.hid hin
            go_wp2_with fail
            go_roundw
            case rel => exact ⟨k + 1, vs2, by omega, by go_num, s2, by rw [hsucc.out]; exact hj2⟩
            case measure => simp [intOf]; omega
          · rw [if_neg hin] at hbit
            rw [decide_eq_false hin, if_neg (by decide)] at hsucc
            have hor := used_or hb5 hgoodA hlk
            have hpw := pow_wrap (b := k) (by omega)
            have hno := used_andNot hb5 hgoodA hlk hin
            replace hsucc := Lib.hid hsucc
            replace hin := Lib.hid hin
            go_wp2_with fail
            go_region
            obtain ⟨s3, t3⟩ := s2.setUsed (ub (acc ++ [(k : Int)]))
            have hj3 := hJ _ _ _ _ _ hj2 s2.holds t3
            clear hcU hfU hw2
            replace hj3 := hJ _ _ _ _ _ hj3 t3.holds (Turn.refl t3.holds).drew
            replace s3 := s3.drew
            rw [← snapI_drew] at hj3
            generalize (wr.setCell ⟨UB, 0, none⟩ (.int .i64 (ub (acc ++ [(k : Int)]) : Nat))).drew = w3 at *
            clear t3 s2 hj2
            have hw3 := s3.hf
            have hlrF := fullP_at (n := h.ms.length) hlr
            obtain ⟨rv, hrv⟩ := At.mk (xs := vs2) (k := m) (by rw [s3.len, fullP_len hg.le]; omega)
            have hcR := (s3.cellR hrv).1
            have hfR := (s3.cellR hrv).2
            have hRn := (s3.new R (ownB_iff.2 (.inr (.inl rfl)))).1
            have hltR := s3.ownLt (ownB_iff.2 (.inr (.inl rfl)))
            have hown := s3.own hlrF hrv (by omega)
            have hsz3 := s3.size
            obtain ⟨ra, rc, hrve, hrl, hrc⟩ := hown.form
            subst hrve
            have hrne := (s3.rne _ hrv.mem).2
            go_wp2_with fail
            have hm0 : (0 : Int) ≤ (m : Int) := by omega
            have hm1 : (m : Int) < (h.ms.length : Int) := by omega
            go_cut [] (fun wc => ∃ vs4, St HF n0 UB R 3 24 wc vs4 (ub (acc ++ [(k : Int)])) (fullP h.ms.length (growP first k)) ∧ J (snapI HF UB R vs4 wc) (pre ++ (plansA h rec first ++ plansB h rec first k)) wc)
            case first =>
              go_region_law ((refine step_appC (H := HF) (base := n0) eInt rfl _ _ rfl rfl (by exact (hown.alloc _).drew) (x := (k : Int)) rfl ⟨rfl, by omega, by omega⟩ (one_cell (by simp [go_sem])) (by first | exact hw3.drew.alloc _ | exact (hw3.alloc _).drew) (by simp [Enc.by_]; omega) (by omega) (by simp; omega) ?_; intro v' w' hown' hgr hwA hat; have hRh : w'.heap[R]? = some (.cells vs2.toArray 24 (0, 0)) := (hgr.block R (by simp; omega) (Ne.symm hrne)).trans ((Below.heap_alloc _ _ _ hltR).trans s3.rr); have hcR2 : w'.cell? ⟨R, m, none⟩ = some (.slice ra lr.length rc) := (cell_of_row w' R m _ _ _ hRh).trans (by simpa using (show vs2[m]? = some (.slice ra lr.length rc) from hrv)); have hfR2 : w'.frozen? ⟨R, m, none⟩ = false := (by simp [World.frozen?, hRh]); obtain ⟨a', c', rfl, _, _⟩ := hown'.form))
              all_goals
                go_wp2_with fail
                go_meet
                have hflat : ∀ x ∈ ((fullP h.ms.length first).set m (lr ++ [(k : Int)])).flatten, I64 x := by
                  rw [growP_set hlr hm, fullP_flatten, growP_flatten hg.ne, ← hacc.out]
                  intro x hx
                  rcases List.mem_append.1 hx with hx | hx
                  · have := hgoodA x hx; unfold I64; omega
                  · rw [List.mem_singleton.1 hx]; unfold I64; omega
                have hlI : ∀ x ∈ lr ++ [(k : Int)], I64 x := fun x hx => hflat x (List.mem_flatten.2 ⟨_, (hlrF.set_same _).mem, hx⟩)
                obtain ⟨s4, t4⟩ := s3.setRow (W' := w') (l' := lr ++ [(k : Int)]) hlrF hrv (((Below.refl n0 w3).alloc hsz3 (.cells #[.int .i64 (k : Int)] 3)).drew.grown hgr (by simp; omega) (fun q e => (hown.lt q e).1)) (fun q hq hne => (hgr.block q (by simp; omega) hne).trans (Below.heap_alloc _ _ _ hq))
                  hown'.ints (hat.imp id (fun e => ⟨_, e, by simp⟩)) hlI hflat
                rw [growP_set hlr hm] at s4
                rw [show (lr ++ [(k : Int)]).length = lr.length + 1 from by simp] at s4 t4
                exact ⟨_, s4, hJ _ _ _ _ _ hj3 s3.holds t4⟩
            case rest =>
              obtain ⟨vs4, s4, hj4⟩ := hcut
              have hlrI : ∀ x ∈ lr, I64 x := fun x hx => s3.i64 x (List.mem_flatten.2 ⟨_, hlrF.mem, hx⟩)
              clear hcR hfR hown hw3 s3 hj3
              have hinF : (k : Int) ∉ first.flatten := by rw [← hacc.out]; exact hin.out
              have hgf : (growP first k).flatten = acc ++ [(k : Int)] := by rw [growP_flatten hg.ne, hacc.out]
              have hpreK : (pre ++ (plansA h rec first ++ plansB h rec first k)) ++ rec (growP first k) <+: xs := by
                refine List.IsPrefix.trans ?_ hpre
                rw [hstep.out, List.append_assoc, List.append_assoc]
                refine (List.prefix_append_right_inj pre).2 ((List.prefix_append_right_inj _).2 ?_)
                rw [← hsucc.out]; exact plansB_prefix h rec first (by omega)
              have hcall := hrec (growP first k) (pre ++ (plansA h rec first ++ plansB h rec first k)) wc vs4 (hg.grow_ok hlk hinF).1 (hg.grow_ok hlk hinF).2 hpreK (by rw [hgf]; exact s4) hj4 (m : Int) (by rw [growP_len hg.ne]; omega)
              replace hgf := Lib.hid hgf
              have hw4 := s4.hf
              go_wp2_with fail
              go_at_call 140
              refine hcall.mono ?_
              clear hcall hpreK
              rintro e W5 ⟨vs5, s5, (⟨rfl, hj5⟩ | ⟨rfl, q, hq, hj5⟩)⟩
              all_goals rw [hgf.out] at s5
              · have hw5 := s5.hf
                have hgrow := growP_at hlr hm k
                have hlr5 := fullP_at (n := h.ms.length) hgrow
                obtain ⟨rv5, hrv5⟩ := At.mk (xs := vs5) (k := m) (by rw [s5.len, fullP_len (by rw [growP_len hg.ne]; exact hg.le)]; omega)
                have hrow5 := s5.rows m _ _ hlr5 hrv5
                rw [show (lr ++ [(k : Int)]).length = lr.length + 1 from by simp] at hrow5
                obtain ⟨g5, cap5, hrve5, hcap5, hcap5'⟩ := ownsRow_form hrow5
                subst hrve5
                unfold maxLen at hcap5'
                have hcR5 := (s5.cellR hrv5).1
                have hfR5 := (s5.cellR hrv5).2
                have hsz5 := s5.size
                go_wp2_with fail
                go_cut [] (fun wd => ∃ vs6, St HF n0 UB R 3 24 wd vs6 (ub (acc ++ [(k : Int)])) (fullP h.ms.length first) ∧ J (snapI HF UB R vs6 wd) (pre ++ (plansA h rec first ++ plansB h rec first k) ++ rec (growP first k)) wd)
                case first =>
                  go_region
                  all_goals
                    go_wp2_with fail
                    go_meet
                    have hcutrow := ownsRow_cut hrow5 (Nat.le_succ lr.length)
                    rw [show (List.map (Value.int .i64) (lr ++ [(k : Int)])).take lr.length = lr.map (Value.int .i64) from by simp] at hcutrow
                    have h5f : ∀ x ∈ ((fullP h.ms.length (growP first k)).set m lr).flatten, I64 x := by
                      rw [growP_back hlr hm, fullP_flatten, ← hacc.out]
                      intro x hx; have := hgoodA x hx; unfold I64; omega
                    obtain ⟨s6, t6⟩ := s5.drew.setRow (W' := W5.drew) (l' := lr) (v' := .slice (some ⟨g5, 0, none⟩) lr.length cap5) hlr5 hrv5 (Below.refl _ _) (fun _ _ _ => rfl) hcutrow (.inl rfl) (fun x hx => hlrI x hx) h5f
                    rw [growP_back hlr hm] at s6
                    exact ⟨_, s6, hJ _ _ _ _ _ (hJ _ _ _ _ _ hj5 s5.holds (Turn.refl s5.holds).drew) s5.drew.holds t6⟩
                case rest =>
                  obtain ⟨vs6, s6, hj6⟩ := hcut
                  clear hcR5 hfR5 hw5 hrow5 s5 hj5
                  have hcU6 := s6.cellU.1
                  have hfU6 := s6.cellU.2
                  go_wp2_with fail
                  go_region
                  obtain ⟨s7, t7⟩ := s6.setUsed (ub acc)
                  have hj7 := hJ _ _ _ _ _ hj6 s6.holds t7
                  replace hj7 := hJ _ _ _ _ _ hj7 t7.holds (Turn.refl t7.holds).drew
                  replace s7 := s7.drew
                  rw [← snapI_drew] at hj7
                  go_wp2_with fail
                  go_roundw
                  case rel => exact ⟨k + 1, vs6, by omega, by go_num, s7, by rw [hsucc.out, ← List.append_assoc (plansA h rec first), ← List.append_assoc pre]; exact hj7⟩
                  case measure => simp [intOf]; omega
              · have hw5 := s5.hf
                have hgrow := growP_at hlr hm k
                have hlr5 := fullP_at (n := h.ms.length) hgrow
                obtain ⟨rv5, hrv5⟩ := At.mk (xs := vs5) (k := m) (by rw [s5.len, fullP_len (by rw [growP_len hg.ne]; exact hg.le)]; omega)
                have hrow5 := s5.rows m _ _ hlr5 hrv5
                rw [show (lr ++ [(k : Int)]).length = lr.length + 1 from by simp] at hrow5
                obtain ⟨g5, cap5, hrve5, hcap5, hcap5'⟩ := ownsRow_form hrow5
                subst hrve5
                unfold maxLen at hcap5'
                have hcR5 := (s5.cellR hrv5).1
                have hfR5 := (s5.cellR hrv5).2
                have hsz5 := s5.size
                go_wp2_with fail
                go_cut [] (fun wd => ∃ vs6, St HF n0 UB R 3 24 wd vs6 (ub (acc ++ [(k : Int)])) (fullP h.ms.length first) ∧ Jx (snapI HF UB R vs6 wd) (pre ++ (plansA h rec first ++ plansB h rec first k) ++ q) wd)
                case first =>
                  go_region
                  all_goals
                    go_wp2_with fail
                    go_meet
                    have hcutrow := ownsRow_cut hrow5 (Nat.le_succ lr.length)
                    rw [show (List.map (Value.int .i64) (lr ++ [(k : Int)])).take lr.length = lr.map (Value.int .i64) from by simp] at hcutrow
                    have h5f : ∀ x ∈ ((fullP h.ms.length (growP first k)).set m lr).flatten, I64 x := by
                      rw [growP_back hlr hm, fullP_flatten, ← hacc.out]
                      intro x hx; have := hgoodA x hx; unfold I64; omega
                    obtain ⟨s6, t6⟩ := s5.drew.setRow (W' := W5.drew) (l' := lr) (v' := .slice (some ⟨g5, 0, none⟩) lr.length cap5) hlr5 hrv5 (Below.refl _ _) (fun _ _ _ => rfl) hcutrow (.inl rfl) (fun x hx => hlrI x hx) h5f
                    rw [growP_back hlr hm] at s6
                    exact ⟨_, s6, hJx _ _ _ _ _ (hJx _ _ _ _ _ hj5 s5.holds (Turn.refl s5.holds).drew) s5.drew.holds t6⟩
                case rest =>
                  obtain ⟨vs6, s6, hj6⟩ := hcut
                  clear hcR5 hfR5 hw5 hrow5 s5 hj5
                  have hcU6 := s6.cellU.1
                  have hfU6 := s6.cellU.2
                  go_wp2_with fail
                  go_region
                  obtain ⟨s7, t7⟩ := s6.setUsed (ub acc)
                  have hj7 := hJx _ _ _ _ _ hj6 s6.holds t7
                  replace hj7 := hJx _ _ _ _ _ hj7 t7.holds (Turn.refl t7.holds).drew
                  replace s7 := s7.drew
                  rw [← snapI_drew] at hj7
                  go_wp2_with fail
                  go_ret
                  refine ⟨vs6, by rw [← hacc.out]; exact s7, .inr ⟨rfl, plansA h rec first ++ plansB h rec first k ++ q, ?_, ?_⟩⟩
                  · rw [hstep.out, List.append_assoc]
                    refine (List.prefix_append_right_inj _).2 ?_
                    refine List.IsPrefix.trans ?_ (plansB_prefix h rec first (show k + 1 ≤ h.bs.length by omega))
                    rw [hsucc.out]; exact (List.prefix_append_right_inj _).2 hq
                  · rw [← List.append_assoc pre]; exact hj7
        · go_wp2_with fail
          go_ret
          exact ⟨vs2, by rw [← hacc.out]; exact s2, .inl ⟨rfl, by rw [hstep.out, ← show k = h.bs.length by omega]; exact hj2⟩⟩
    · have hstep : plansStep h stop rec first = plansA h rec first := by
        unfold plansStep; rw [if_pos (by have : (m : Int) = stop := by simpa using hst
                                         rw [hm]; omega), List.append_nil]
      replace hstep := Lib.hid hstep
      go_wp2_with fail
      go_ret
      exact ⟨vs1, s1, .inl ⟨rfl, by rw [hstep.out]; exact hj1⟩⟩
  · have hW1 := s1.hf
    go_wp2_with fail
    go_ret
    exact ⟨vs1, s1, .inr ⟨rfl, q, hq.trans (by unfold plansStep; exact List.prefix_append _ _), hjx⟩⟩

end Go.Proofs.YtngdppajailpcaaGreat

namespace Go.Proofs.YtngdppajailpcaaGreat
open Go.RowKit

section
variable {HF : Snap} {n0 UB R : Nat} {tI tL : TypeId} {W W' : World} {vs vs' : List Value} {u u' : Obj} {plan plan' : List (List Int)}

structure MSt (HF : Snap) (n0 UB R : Nat) (tI tL : TypeId) (W : World) (vs : List Value) (u : Obj) (plan : List (List Int)) : Prop where
  hf : Holds HF W
  ub : W.heap[UB]? = some u
  rr : W.heap[R]? = some (.cells vs.toArray tL (0, 0))
  len : vs.length = plan.length
  rows : ∀ m l v, At plan m l → At vs m v → W.ownsRow n0 tI 1 v l.length (l.map (Value.int .i64))
  new : ∀ k, ownB UB R vs k = true → HF k = none ∧ n0 ≤ k
  ne : UB ≠ R
  rne : ∀ v ∈ vs, v.ownBlock ≠ some UB ∧ v.ownBlock ≠ some R
  apart : ∀ m m' v v', m ≠ m' → At vs m v → At vs m' v' → v.ownBlock = none ∨ v.ownBlock ≠ v'.ownBlock
  i64 : ∀ x ∈ plan.flatten, I64 x

theorem MSt.row (s : MSt HF n0 UB R tI tL W vs u plan) {v : Value} (hv : v ∈ vs) : ∃ m l, At plan m l ∧ At vs m v := by
  obtain ⟨m, hm, rfl⟩ := List.getElem_of_mem hv
  exact ⟨m, plan[m]'(by rw [← s.len]; exact hm), List.getElem?_eq_getElem (by rw [← s.len]; exact hm), List.getElem?_eq_getElem hm⟩
theorem MSt.ownLt (s : MSt HF n0 UB R tI tL W vs u plan) {k : Nat} (hk : ownB UB R vs k = true) : k < W.heap.size := by
  rcases ownB_iff.1 hk with rfl | rfl | ⟨v, hv, e⟩
  · exact (Array.getElem?_eq_some_iff.1 s.ub).1
  · exact (Array.getElem?_eq_some_iff.1 s.rr).1
  · obtain ⟨m, l, hl, hv'⟩ := s.row hv
    exact ((s.rows m l v hl hv').lt k e).2
theorem MSt.holds (s : MSt HF n0 UB R tI tL W vs u plan) : Holds (snapI HF UB R vs W) W := ⟨fun k o e => by
  cases hk : HF k with
  | some o' => rw [snapI_hf W hk] at e; cases e; exact s.hf.at_ _ _ hk
  | none =>
    cases ho : ownB UB R vs k with
    | true => rw [snapI_own W hk ho] at e; exact e
    | false => rw [snapI_none W hk ho] at e; cases e⟩

/-- A round of the caller's leaves the plan as it lies. -/
theorem MSt.kept (s : MSt HF n0 UB R tI tL W vs u plan) (h : Holds (snapI HF UB R vs W) W') : MSt HF n0 UB R tI tL W' vs u plan ∧ snapI HF UB R vs W' = snapI HF UB R vs W := by
  have same : ∀ k, ownB UB R vs k = true → W'.heap[k]? = W.heap[k]? := fun k ho => by
    obtain ⟨o, ho'⟩ : ∃ o, W.heap[k]? = some o := ⟨_, Array.getElem?_eq_getElem (s.ownLt ho)⟩
    have := h.at_ k o (by rw [snapI_own W (s.new k ho).1 ho]; exact ho')
    rw [this, ho']
  refine ⟨⟨h.mono (snapI_le W), (same UB (ownB_iff.2 (.inl rfl))).trans s.ub, (same R (ownB_iff.2 (.inr (.inl rfl)))).trans s.rr, s.len, fun m l v hl hv => ?_, s.new, s.ne, s.rne, s.apart, s.i64⟩, ?_⟩
  · have h1 := s.rows m l v hl hv
    refine ⟨h1.1, ?_⟩
    rcases h1.2 with h2 | ⟨g, cap, cur, hv', hb, hg, rest⟩
    · exact .inl h2
    · exact .inr ⟨g, cap, cur, hv', hb, (same g (ownB_iff.2 (.inr (.inr ⟨v, hv.mem, by rw [hv']; rfl⟩)))).trans hg, rest⟩
  · funext k
    cases hk : HF k with
    | some o => rw [snapI_hf W hk, snapI_hf W' hk]
    | none =>
      cases ho : ownB UB R vs k with
      | true => rw [snapI_own W hk ho, snapI_own W' hk ho, same k ho]
      | false => rw [snapI_none W hk ho, snapI_none W' hk ho]

/-- A step that leaves all that was there. -/
theorem MSt.ext (s : MSt HF n0 UB R tI tL W vs u plan) (h : Below W.heap.size W W') : MSt HF n0 UB R tI tL W' vs u plan ∧ snapI HF UB R vs W' = snapI HF UB R vs W := s.kept (s.holds.below h)
theorem MSt.drew (s : MSt HF n0 UB R tI tL W vs u plan) : MSt HF n0 UB R tI tL W.drew vs u plan := (s.ext (Below.refl _ _).drew).1
theorem MSt.cellR (s : MSt HF n0 UB R tI tL W vs u plan) {m : Nat} {v : Value} (hv : At vs m v) : W.cell? ⟨R, m, none⟩ = some v ∧ W.frozen? ⟨R, m, none⟩ = false := by
  constructor
  · rw [cell_of_row W R m _ _ _ s.rr]; simpa using (show vs[m]? = some v from hv)
  · simp [World.frozen?, s.rr]

/-- Row m is written anew, behind a step that wrote at most its block. -/
theorem MSt.setRow (s : MSt HF n0 UB R tI tL W vs u plan) {m : Nat} {l l' : List Int} {v v' : Value} (hl : At plan m l) (hv : At vs m v)
    (hB : Below n0 W W') (hoth : ∀ k, k < W.heap.size → some k ≠ v.ownBlock → W'.heap[k]? = W.heap[k]?)
    (hrow : W'.ownsRow n0 tI 1 v' l'.length (l'.map (Value.int .i64))) (hat : v'.ownBlock = v.ownBlock ∨ ∃ g, v'.ownBlock = some g ∧ W.heap.size ≤ g) (hi : ∀ x ∈ l', I64 x) (hpl : ∀ x ∈ (plan.set m l').flatten, I64 x) :
    MSt HF n0 UB R tI tL (W'.setCell ⟨R, m, none⟩ v') (vs.set m v') u (plan.set m l') := by
  have hR := s.new R (ownB_iff.2 (.inr (.inl rfl)))
  have hU := s.new UB (ownB_iff.2 (.inl rfl))
  have hltR := (Array.getElem?_eq_some_iff.1 s.rr).1
  have hltU := (Array.getElem?_eq_some_iff.1 s.ub).1
  have hvb := s.rne v hv.mem
  have hWR : W'.heap[R]? = some (.cells vs.toArray tL (0, 0)) := (hoth R hltR (Ne.symm hvb.2)).trans s.rr
  have hsz := hB.size
  have hv'ne : v'.ownBlock ≠ some UB ∧ v'.ownBlock ≠ some R := by
    rcases hat with h | ⟨g, h, hg⟩
    · rw [h]; exact hvb
    · rw [h]; exact ⟨fun e => by cases e; omega, fun e => by cases e; omega⟩
  have hsub : ∀ k, ownB UB R (vs.set m v') k = true → ownB UB R vs k = true ∨ W.heap.size ≤ k := by
    intro k hk
    rcases ownB_iff.1 hk with e | e | ⟨x, hx, e⟩
    · exact .inl (ownB_iff.2 (.inl e))
    · exact .inl (ownB_iff.2 (.inr (.inl e)))
    · rcases List.mem_or_eq_of_mem_set hx with hx | rfl
      · exact .inl (ownB_iff.2 (.inr (.inr ⟨x, hx, e⟩)))
      · rcases hat with h | ⟨g, h, hg⟩
        · exact .inl (ownB_iff.2 (.inr (.inr ⟨v, hv.mem, by rw [← h]; exact e⟩)))
        · rw [h] at e; cases e; exact .inr hg
  have hHF : Holds HF W' := ⟨fun k o e => by
    refine (hoth k (s.hf.lt e) ?_).trans (s.hf.at_ _ _ e)
    intro ek
    have := (s.new k (ownB_iff.2 (.inr (.inr ⟨v, hv.mem, ek.symm⟩)))).1
    rw [this] at e; cases e⟩
  have s' : MSt HF n0 UB R tI tL (W'.setCell ⟨R, m, none⟩ v') (vs.set m v') u (plan.set m l') := by
    refine ⟨hHF.setCell hR.1 _, (Below.heap_setCell _ _ _ _ s.ne).trans ((hoth UB hltU (Ne.symm hvb.1)).trans s.ub), ?_, by simp [s.len], ?_, ?_, s.ne, ?_, ?_, hpl⟩
    · have := heap_setCell_row (i := m) hWR v'
      rw [this]
      simp
    · intro k lk x hlk hx
      rcases hx.set_inv with ⟨rfl, rfl⟩ | ⟨hkm, hx⟩
      · have : lk = l' := hlk.uniq (hl.set_same l')
        subst this
        exact ownsRow_setCell_other hrow hv'ne.2 _
      · have hlk' : At plan k lk := by
          rcases hlk.set_inv with ⟨e, _⟩ | ⟨_, h⟩
          · exact absurd e hkm
          · exact h
        refine ownsRow_setCell_other ?_ (s.rne x hx.mem).2 _
        have h1 := s.rows k lk x hlk' hx
        refine ⟨h1.1, ?_⟩
        rcases h1.2 with h2 | ⟨g, cap, cur, hxv, hb, hg, rest⟩
        · exact .inl h2
        · refine .inr ⟨g, cap, cur, hxv, hb, (hoth g (Array.getElem?_eq_some_iff.1 hg).1 ?_).trans hg, rest⟩
          have := s.apart k m x v hkm hx hv
          rw [hxv] at this
          rcases this with h | h
          · cases h
          · exact h
    · intro k hk
      rcases hsub k hk with h | h
      · exact s.new k h
      · refine ⟨s.hf.none_of_ge h, ?_⟩
        omega
    · intro x hx
      rcases List.mem_or_eq_of_mem_set hx with hx | rfl
      · exact s.rne x hx
      · exact hv'ne
    · intro j k x y hjk hx hy
      rcases hx.set_inv with ⟨hjm, hxv⟩ | ⟨hjm, hx2⟩
      · rcases hy.set_inv with ⟨e, _⟩ | ⟨hkm, hy2⟩
        · exact absurd (hjm.trans e.symm) hjk
        · rw [hxv]
          rcases hat with h | ⟨g, h, hg⟩
          · rw [h]; exact s.apart m k v y (Ne.symm hkm) hv hy2
          · rw [h]
            refine .inr fun e => ?_
            have := s.ownLt (ownB_iff.2 (.inr (.inr ⟨y, hy2.mem, e.symm⟩)))
            omega
      · rcases hy.set_inv with ⟨hkm, hyv⟩ | ⟨hkm, hy2⟩
        · rw [hyv]
          rcases hat with h | ⟨g, h, hg⟩
          · rw [h]; exact s.apart j m x v hjm hx2 hv
          · rw [h]
            cases hxo : x.ownBlock with
            | none => exact .inl rfl
            | some g' =>
              refine .inr fun e => ?_
              cases e
              have := s.ownLt (ownB_iff.2 (.inr (.inr ⟨x, hx2.mem, hxo⟩)))
              omega
        · exact s.apart j k x y hjk hx2 hy2
  exact s'

/-- The plan as a slice of slices. -/
theorem MSt.sl (s : MSt HF n0 UB R tI tL W vs u plan) (hn : plan.length ≤ 1000) (hl : ∀ l ∈ plan, l.length ≤ 1000) : Sl (snapI HF UB R vs W) (.slice (some ⟨R, 0, none⟩) plan.length plan.length) plan := by
  have hR := s.new R (ownB_iff.2 (.inr (.inl rfl)))
  have key : ∀ (n : Nat), reps (snapI HF UB R vs W) (plan.drop n) (vs.drop n) := by
    intro n
    generalize hd : plan.length - n = d
    induction d generalizing n with
    | zero =>
      rw [List.drop_eq_nil_iff.2 (by omega), List.drop_eq_nil_iff.2 (by rw [s.len]; omega)]; rfl
    | succ d ih =>
      have hnp : n < plan.length := by omega
      have hnv : n < vs.length := by rw [s.len]; exact hnp
      rw [List.drop_eq_getElem_cons hnp, List.drop_eq_getElem_cons hnv]
      refine ⟨[vs[n]], vs.drop (n + 1), rfl, ⟨_, rfl, ?_⟩, ih (n + 1) (by omega)⟩
      have hlA : At plan n plan[n] := List.getElem?_eq_getElem hnp
      have hvA : At vs n vs[n] := List.getElem?_eq_getElem hnv
      have hr := s.rows n _ _ hlA hvA
      have hlen := hl _ hlA.mem
      have hi : ∀ x ∈ plan[n], I64 x := fun x hx => s.i64 x (List.mem_flatten.2 ⟨_, hlA.mem, hx⟩)
      rcases hr.2 with ⟨hv, hz⟩ | ⟨g, cap, cur, hv, hb, hg, hnc, hcm, hcs, htake⟩
      · rw [hv, List.eq_nil_of_length_eq_zero hz]; exact Sl.nil0 _
      · have hown : ownB UB R vs g = true := ownB_iff.2 (.inr (.inr ⟨_, hvA.mem, by rw [hv]; rfl⟩))
        rw [hv]
        refine ⟨_, cap, rfl, hnc, by simp only [maxLen] at hcm; omega, by simp only [Enc.by_]; omega, .inr ⟨g, 0, cur, tI, (0, 0), rfl, (snapI_own W (s.new g hown).1 hown).trans hg, by simp [Enc.sz, hcs]; omega, ?_⟩⟩
        rw [List.drop_zero, reps_int]
        exact ⟨by simpa [Enc.sz] using htake, hi⟩
  refine ⟨_, plan.length, rfl, Nat.le_refl _, by omega, by simp only [Enc.by_]; omega, .inr ⟨R, 0, vs.toArray, tL, (0, 0), rfl, (snapI_own W hR.1 (ownB_iff.2 (.inr (.inl rfl)))).trans s.rr, by simp [Enc.sz, s.len], ?_⟩⟩
  have h0 := key 0
  simp only [List.drop_zero] at h0
  simp only [List.drop_zero, Enc.sz, Nat.mul_one, ← s.len]
  rw [List.take_length]
  exact h0
end

section
variable {HF : Snap} {n0 UB R : Nat} {tI tL : TypeId} {W W' : World} {vs vs' : List Value} {u u' : Obj} {plan plan' : List (List Int)}
/-- The map is written. -/
theorem MSt.found (s : MSt HF n0 UB R tI tL W vs u plan) (hu : W'.heap[UB]? = some u') (hoth : ∀ k, k ≠ UB → W'.heap[k]? = W.heap[k]?) : MSt HF n0 UB R tI tL W' vs u' plan := by
  have hU := s.new UB (ownB_iff.2 (.inl rfl))
  refine ⟨⟨fun k o e => ?_⟩, hu, (hoth R (Ne.symm s.ne)).trans s.rr, s.len, fun m l v hl hv => ?_, s.new, s.ne, s.rne, s.apart, s.i64⟩
  · have hk : k ≠ UB := by rintro rfl; rw [hU.1] at e; cases e
    exact (hoth k hk).trans (s.hf.at_ _ _ e)
  · have h1 := s.rows m l v hl hv
    refine ⟨h1.1, ?_⟩
    rcases h1.2 with h2 | ⟨g, cap, cur, hv', hb, hg, rest⟩
    · exact .inl h2
    · have hne := (s.rne v hv.mem).1
      rw [hv'] at hne
      exact .inr ⟨g, cap, cur, hv', hb, (hoth g (fun e => hne (by rw [e]; rfl))).trans hg, rest⟩
theorem MSt.own' (s : MSt HF n0 UB R tI tL W vs u plan) {m : Nat} {l : List Int} {v : Value} (hl : At plan m l) (hv : At vs m v) (hlen : l.length ≤ 1000) : Own HF n0 W tI v l :=
  ⟨_, s.rows m l v hl hv, reps_int.2 ⟨rfl, fun x hx => s.i64 x (List.mem_flatten.2 ⟨l, hl.mem, hx⟩)⟩, fun k hk => (s.new k (ownB_iff.2 (.inr (.inr ⟨v, hv.mem, hk⟩)))).1, by simp only [Enc.by_]; omega⟩
theorem MSt.size (s : MSt HF n0 UB R tI tL W vs u plan) : n0 ≤ W.heap.size := by have := (s.new UB (ownB_iff.2 (.inl rfl))).2; have := s.ownLt (ownB_iff.2 (.inl rfl)); omega
end

end Go.Proofs.YtngdppajailpcaaGreat

namespace Go.Proofs.YtngdppajailpcaaGreat

theorem plansStep_mem {h : House} {stop : Int} {rec : List (List Int) → List (List (List Int))} {first p : List (List Int)} (hp : p ∈ plansStep h stop rec first) :
    (first.length = h.ms.length ∧ p = first) ∨ (first.length ≠ h.ms.length ∧ p ∈ rec (first ++ [[]])) ∨ ((first.length : Int) - 1 ≠ stop ∧ ∃ b, b < h.bs.length ∧ (b : Int) ∉ first.flatten ∧ p ∈ rec (growP first b)) := by
  unfold plansStep at hp
  rcases List.mem_append.1 hp with hp | hp
  · unfold plansA at hp
    split at hp
    · exact .inl ⟨by assumption, List.mem_singleton.1 hp⟩
    · exact .inr (.inl ⟨by assumption, hp⟩)
  · split at hp
    · simp at hp
    · unfold plansB at hp
      obtain ⟨b, hb, hp⟩ := List.mem_flatMap.1 hp
      rw [List.mem_range] at hb
      split at hp
      · simp at hp
      · rename_i hs _ hn
        exact .inr (.inr ⟨hs, b, hb, by simpa using hn, hp⟩)

theorem getD_append_nil (first : List (List Int)) (i : Nat) : (first ++ [[]]).getD i [] = first.getD i [] := by
  rw [List.getD_eq_getElem?_getD, List.getD_eq_getElem?_getD]
  by_cases hi : i < first.length
  · rw [List.getElem?_append_left hi]
  · rw [List.getElem?_append_right (by omega), List.getElem?_eq_none (by omega : first.length ≤ i)]
    cases e : i - first.length with
    | zero => rfl
    | succ n => rfl
theorem growP_getD {first : List (List Int)} (hn : 0 < first.length) (b i : Nat) (hi : i ≠ first.length - 1) : (growP first b).getD i [] = first.getD i [] := by
  unfold growP
  simp only [List.getD_eq_getElem?_getD]
  by_cases hlt : i < first.length - 1
  · rw [List.getElem?_append_left (by rw [List.length_take]; omega), List.getElem?_take_of_lt hlt]
  · rw [List.getElem?_eq_none (by rw [List.length_append, List.length_take]; simp; omega), List.getElem?_eq_none (by omega)]

theorem plansF_stop {h : House} {stop : Int} : ∀ (n : Nat) {first : List (List Int)}, GoodF h first → ∀ p ∈ plansF h stop n first, ∀ i : Nat, (i : Int) = stop → p.getD i [] = first.getD i []
  | 0, first, hg, p, hp, i, hi => by
    rcases plansStep_mem hp with ⟨_, rfl⟩ | ⟨_, hp⟩ | ⟨_, b, _, _, hp⟩
    · rfl
    · cases hp
    · cases hp
  | n + 1, first, hg, p, hp, i, hi => by
    rcases plansStep_mem hp with ⟨_, rfl⟩ | ⟨hl, hp⟩ | ⟨hs, b, hb, hn, hp⟩
    · rfl
    · rw [plansF_stop n (hg.nil_ok hl).1 p hp i hi, getD_append_nil]
    · rw [plansF_stop n (hg.grow_ok hb hn).1 p hp i hi, growP_getD hg.ne]
      have := hg.ne
      omega

theorem growP_last (init : List (List Int)) (l : List Int) (b : Nat) : growP (init ++ [l]) b = init ++ [l ++ [(b : Int)]] := by
  unfold growP
  simp

theorem plansF_all {h : House} {stop : Int} : ∀ (n : Nat) (init : List (List Int)) (l r : List Int) (rest : List (List Int)), mu h (init ++ [l]) ≤ n → GoodF h (init ++ [l]) →
    isPlan h (init ++ (l ++ r) :: rest) = true → (∀ i : Nat, (i : Int) = stop → (init ++ (l ++ r) :: rest).getD i [] = (init ++ [l]).getD i []) → init ++ (l ++ r) :: rest ∈ plansF h stop n (init ++ [l]) := by
  intro n
  induction n with
  | zero =>
    intro init l r rest hm hg hp hs
    simp only [isPlan, Bool.and_eq_true, decide_eq_true_eq] at hp
    obtain ⟨hl, hgood⟩ := hp
    obtain ⟨hb, hn⟩ := goodAll_iff.1 hgood
    have hlen := nodup_len _ _ hb hn
    have hle := hg.le
    unfold mu at hm
    simp only [List.length_append, List.length_cons, List.length_nil, List.flatten_append, List.flatten_cons, List.flatten_nil, List.append_nil] at hm hl hlen hle
    have hr : r = [] := List.eq_nil_of_length_eq_zero (by omega)
    have hrest : rest = [] := List.eq_nil_of_length_eq_zero (by omega)
    subst hr; subst hrest
    show _ ∈ plansStep h stop _ _
    unfold plansStep plansA
    rw [if_pos (by simp; omega)]
    simp
  | succ n ih =>
    intro init l r rest hm hg hp hs
    show _ ∈ plansStep h stop (plansF h stop n) _
    have hp' := hp
    simp only [isPlan, Bool.and_eq_true, decide_eq_true_eq] at hp'
    obtain ⟨hl, hgood⟩ := hp'
    obtain ⟨hb, hn⟩ := goodAll_iff.1 hgood
    unfold plansStep
    cases r with
    | nil =>
      refine List.mem_append_left _ ?_
      unfold plansA
      cases rest with
      | nil =>
        rw [if_pos (by simpa using hl)]
        simp
      | cons x rest =>
        have hne : (init ++ [l]).length ≠ h.ms.length := by simp at hl ⊢; omega
        rw [if_neg hne]
        have h1 := hg.nil_ok hne
        have := ih (init ++ [l]) [] x rest (by omega) h1.1 (by simpa using hp) (fun i hi => by
          rw [getD_append_nil]
          have := hs i hi
          simpa using this)
        simpa using this
    | cons b r =>
      refine List.mem_append_right _ ?_
      have hmem : b ∈ (init ++ (l ++ b :: r) :: rest).flatten := by simp
      obtain ⟨hb0, hb1⟩ := hb b hmem
      obtain ⟨k, rfl⟩ := Int.eq_ofNat_of_zero_le hb0
      have hk : k < h.bs.length := by omega
      have hnot : (k : Int) ∉ (init ++ [l]).flatten := by
        have e : (init ++ (l ++ (k : Int) :: r) :: rest).flatten = (init ++ [l]).flatten ++ ((k : Int) :: (r ++ rest.flatten)) := by simp
        rw [e, List.nodup_append] at hn
        exact fun hm => hn.2.2 _ hm _ (by simp) rfl
      have hst : ((init ++ [l]).length : Int) - 1 ≠ stop := fun e => by
        have := hs init.length (by simp at e; omega)
        rw [List.getD_eq_getElem?_getD, List.getD_eq_getElem?_getD, List.getElem?_append_right (Nat.le_refl _), List.getElem?_append_right (Nat.le_refl _)] at this
        simp at this
      rw [if_neg hst]
      unfold plansB
      refine List.mem_flatMap.2 ⟨k, List.mem_range.2 hk, ?_⟩
      rw [if_neg (by simpa using hnot)]
      have h1 := hg.grow_ok hk hnot
      rw [growP_last] at h1 ⊢
      have := ih init (l ++ [(k : Int)]) r rest (by omega) h1.1 (by simpa using hp) (fun i hi => by
        have h2 := hs i hi
        have h3 : i ≠ init.length := fun e => hst (by simp; omega)
        have h4 : (init ++ [l ++ [(k : Int)]]).getD i [] = (init ++ [l]).getD i [] := by
          rw [List.getD_eq_getElem?_getD, List.getD_eq_getElem?_getD]
          by_cases hlt : i < init.length
          · rw [List.getElem?_append_left hlt, List.getElem?_append_left hlt]
          · rw [List.getElem?_eq_none (by simp; omega), List.getElem?_eq_none (by simp; omega)]
        rw [h4, ← h2]
        simp)
      simpa using this

/-- All plans by which the stopped machine prints nothing. -/
theorem plansOf_iff {h : House} (hv : Valid h) (stop : Int) (p : List (List Int)) : p ∈ plansOf h stop ↔ isPlan h p = true ∧ ∀ i : Nat, (i : Int) = stop → p.getD i [] = [] := by
  constructor
  · intro hp
    refine ⟨plansOf_isPlan hv stop p hp, fun i hi => ?_⟩
    rw [plansF_stop _ (goodF_start hv) p hp i hi]
    cases i <;> rfl
  · rintro ⟨hp, hs⟩
    have hl : p.length = h.ms.length := by
      simp only [isPlan, Bool.and_eq_true, decide_eq_true_eq] at hp
      exact hp.1
    have hm := hv.m1
    cases p with
    | nil => simp at hl; omega
    | cons l rest =>
      have := plansF_all (h := h) (stop := stop) (mu h [[]]) [] [] l rest (by simp) (goodF_start hv) (by simpa using hp) (fun i hi => by
        have := hs i hi
        rw [show ([] ++ ([] ++ l) :: rest : List (List Int)) = l :: rest by simp, this]
        cases i <;> rfl)
      simpa [plansOf] using this

end Go.Proofs.YtngdppajailpcaaGreat
