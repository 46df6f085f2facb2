/- Lemmas and walks on which the claims of this seat lean: MProg1. -/
import Derived.Test.YtngdppajailpcaaGreatG11

set_option linter.all false

namespace Go.Proofs.YtngdppajailpcaaGreat
open Go.RowKit

attribute [local go_sem] Holds.drew Holds.alloc Holds.drewN WB.holds Oper.semAt_some FW_fn FW_dep FW_round run_loadShV run_indexShV run_indexRow
attribute [local go_sem ↓] loadAt_sh index_sh index_row

theorem withinM_any (n lo hi : Int) (w : World) :
    Calls Tryz.prog 87 #[.int .i64 n, .int .i64 lo, .int .i64 hi] w fun e w' => e = .returned (.bool (within n lo hi)) ∧ w = w' := by
  go_enter Tryz.func87, Tryz.ntmps87
  go_wp2
  all_goals
    go_ret
    simp [within]
  all_goals (intros; omega)

theorem isMachineM_any (vm vb vt vo ve : Value) (h : Hall) (n : Int) (H : Snap) (w : World) (hw : Holds H w) (hh : Hal H vm vb vt vo ve h) :
    Calls Tryz.prog 48 #[halV vm vb vt vo ve h, .int .i64 n] w (PostV w (.bool (isMachA h n))) := by
  obtain ⟨am, cm, rfl, hm1, hm2⟩ := hh.hs.m.form
  go_enter Tryz.func48, Tryz.ntmps48
  go_wp2_with (first | (refine wpList_boxF rfl _ rfl (Ext.refl hw) ?_; intro B w1 H1 hle hx hB hBw; obtain ⟨hc0, hc1, hc2, hc3, hc4, hc5⟩ := cellsHal hB; clear hB hw; have hw1 := hx.holds) | (go_at_call 87; refine (withinM_any _ _ _ _).mono ?_; rintro e w' ⟨rfl, rfl⟩))
  go_ret
  exact ⟨rfl, hx.below⟩

theorem isCaseM_any (vm vb vt vo ve : Value) (h : Hall) (n : Int) (hn : I64 n) (H : Snap) (w : World) (hw : Holds H w) (hh : Hal H vm vb vt vo ve h) :
    Calls Tryz.prog 64 #[halV vm vb vt vo ve h, .int .i64 n] w (PostV w (.bool (isCaseA h n))) := by
  obtain ⟨n1, n2⟩ := hn
  cases g : (n == (-1 : Int))
  · have e : isCaseA h n = isMachA h n := by unfold isCaseA; rw [decide_eq_false (by simpa using g)]; rfl
    rw [e]
    go_enter Tryz.func64, Tryz.ntmps64
    go_wp2_with (first | (refine wpList_boxF rfl _ rfl (Ext.refl hw) ?_; intro B w1 H1 hle hx hB hBw; obtain ⟨hc0, hc1, hc2, hc3, hc4, hc5⟩ := cellsHal hB; clear hB hw; have hw1 := hx.holds) | (go_at_call 48; refine (isMachineM_any _ _ _ _ _ h n H1 _ hw1 (hh.mono hle)).mono ?_; rintro e w' ⟨rfl, hbC⟩))
    go_ret
    exact ⟨rfl, hx.below.trans (hbC.mono hx.below.size)⟩
  · have e : isCaseA h n = true := by unfold isCaseA; rw [decide_eq_true (by simpa using g)]; rfl
    rw [e]
    go_enter Tryz.func64, Tryz.ntmps64
    go_wp2_with (first | (refine wpList_boxF rfl _ rfl (Ext.refl hw) ?_; intro B w1 H1 hle hx hB hBw; obtain ⟨hc0, hc1, hc2, hc3, hc4, hc5⟩ := cellsHal hB; clear hB hw; have hw1 := hx.holds))
    go_ret
    exact ⟨rfl, hx.below⟩

theorem checkM1_any (n : Int) (w : World) :
    Calls Tryz.prog 119 #[.int .i64 n] w (PostV w (.bool (!within n 0 2))) := by
  go_enter Tryz.func119, Tryz.ntmps119
  go_wp2_with (first | (go_at_call 87; refine (withinM_any _ _ _ _).mono ?_; rintro e w' ⟨rfl, rfl⟩))
  go_ret
  exact ⟨rfl, Below.refl _ _⟩
theorem checkM2_any (vm vb vt vo ve : Value) (h : Hall) (b : Bund) (B : Nat) (H : Snap) (w : World) (hw : Holds H w) (hh : Hal H vm vb vt vo ve h) (hB : H B = some (.cells (halV vm vb vt vo ve h).cells 29 (0, 0))) :
    Calls Tryz.prog 120 #[.agg #[.int .i64 b.t, .int .i64 b.h, .int .i64 b.e], .pointer (some ⟨B, 0, none⟩)] w (PostV w (.bool (!decide (b.e < h.ed.length)))) := by
  obtain ⟨hc0, hc1, hc2, hc3, hc4, hc5⟩ := cellsHal hB
  obtain ⟨ae, ce, rfl, he1, he2⟩ := hh.ed.form
  have hlt : B < w.heap.size := hw.lt hB
  have e : (!decide (b.e < (h.ed.length : Int))) = decide ((h.ed.length : Int) ≤ b.e) := by
    by_cases g : b.e < (h.ed.length : Int)
    · rw [decide_eq_true g, decide_eq_false (by omega)]; rfl
    · rw [decide_eq_false g, decide_eq_true (by omega)]; rfl
  rw [e]
  clear e
  go_enter Tryz.func120, Tryz.ntmps120
  go_wp2
  go_ret
  exact ⟨rfl, (Below.refl _ _).alloc (Nat.le_refl _) _⟩

set_option maxRecDepth 100000 in
set_option maxHeartbeats 8000000 in
theorem checkM_any (vm vb vt vo ve : Value) (h : Hall) (H : Snap) (w : World) (hw : Holds H w) (hh : Hal H vm vb vt vo ve h) :
    Calls Tryz.prog 86 #[halV vm vb vt vo ve h] w (PostV w (.int .i64 (errM (validHall h)))) := by
  obtain ⟨am, cm, rfl, hm1, hm2⟩ := hh.hs.m.form
  obtain ⟨ab, cb, rfl, hb1, hb2⟩ := hh.hs.b.form
  obtain ⟨ao, co, rfl, ho1, ho2⟩ := hh.bo.form
  obtain ⟨ae, ce, rfl, he1, he2⟩ := hh.ed.form
  cases g1 : valid h.hs
  · have g1e : errT (valid h.hs) = 40 := by rw [g1]; rfl
    have HE := Lib.hid (errM_no (h := h) fun hv => by rw [valid_iff.2 hv.hs] at g1; cases g1)
    go_enter Tryz.func86, Tryz.ntmps86
    go_wp2_with (first | (refine wpList_boxF rfl _ rfl (Ext.refl hw) ?_; intro B w1 H1 hle hx hB hBw; obtain ⟨hc0, hc1, hc2, hc3, hc4, hc5⟩ := cellsHal hB; clear hB hw; have hw1 := hx.holds) | (go_at_call 79; refine (checkT_any _ _ _ _ _ _ hw1 (hh.hs.mono hle)).mono ?_; rintro e w' ⟨rfl, hbC⟩; rw [g1e]))
    go_ret
    exact ⟨ret_int HE.out.symm, hx.below.trans (hbC.mono hx.below.size)⟩
  · have g1e : errT (valid h.hs) = 0 := by rw [g1]; rfl
    cases g2 : ((h.bo.length : Int) != h.hs.ms.length)
    rotate_left
    · have HE := Lib.hid (errM_no (h := h) fun hv => by rw [hv.bo] at g2; simp at g2)
      go_enter Tryz.func86, Tryz.ntmps86
      go_wp2_with (first | (refine wpList_boxF rfl _ rfl (Ext.refl hw) ?_; intro B w1 H1 hle hx hB hBw; obtain ⟨hc0, hc1, hc2, hc3, hc4, hc5⟩ := cellsHal hB; clear hB hw; have hw1 := hx.holds) | (go_at_call 79; refine (checkT_any _ _ _ _ _ _ hw1 (hh.hs.mono hle)).mono ?_; rintro e w' ⟨rfl, hbC⟩; rw [g1e]; have hwC := hw1.below hbC))
      go_ret
      exact ⟨ret_int HE.out.symm, hx.below.trans (hbC.mono hx.below.size)⟩
    · cases g3 : decide ((4 : Int) < h.ed.length)
      rotate_left
      · have HE := Lib.hid (errM_no (h := h) fun hv => by have := hv.e4; have := of_decide_eq_true g3; omega)
        go_enter Tryz.func86, Tryz.ntmps86
        go_wp2_with (first | (refine wpList_boxF rfl _ rfl (Ext.refl hw) ?_; intro B w1 H1 hle hx hB hBw; obtain ⟨hc0, hc1, hc2, hc3, hc4, hc5⟩ := cellsHal hB; clear hB hw; have hw1 := hx.holds) | (go_at_call 79; refine (checkT_any _ _ _ _ _ _ hw1 (hh.hs.mono hle)).mono ?_; rintro e w' ⟨rfl, hbC⟩; rw [g1e]; have hwC := hw1.below hbC))
        go_ret
        exact ⟨ret_int HE.out.symm, hx.below.trans (hbC.mono hx.below.size)⟩
      · cases g4 : h.bo.any fun n => !within n 0 2
        rotate_left
        · have HE := Lib.hid (errM_no (h := h) fun hv => by obtain ⟨x, hx, hx2⟩ := List.any_eq_true.1 g4; have := List.all_eq_true.1 hv.bos x hx; rw [this] at hx2; cases hx2)
          go_enter Tryz.func86, Tryz.ntmps86
          go_wp2_with (first | (go_at_call 107; have hgd := hwC; clear hgd; refine (containsM1_any _ h.bo (fun n => !within n 0 2) H1 _ hwC (hh.bo.mono hle) (Lib.hid fun x _ w _ => checkM1_any x w)).mono ?_; rintro e w' ⟨rfl, hbD⟩; rw [g4]) | (refine wpList_boxF rfl _ rfl (Ext.refl hw) ?_; intro B w1 H1 hle hx hB hBw; obtain ⟨hc0, hc1, hc2, hc3, hc4, hc5⟩ := cellsHal hB; clear hB hw; have hw1 := hx.holds) | (go_at_call 79; refine (checkT_any _ _ _ _ _ _ hw1 (hh.hs.mono hle)).mono ?_; rintro e w' ⟨rfl, hbC⟩; rw [g1e]; have hwC := hw1.below hbC; have hxC := hx.step (hbC.mono hx.below.size) hwC))
          go_ret
          exact ⟨ret_int HE.out.symm, hxC.below.trans (hbD.mono hxC.below.size)⟩
        · have hbos : h.bo.all (fun n => within n 0 2) = true := by
            rw [List.all_eq_true]; intro x hx; have := List.any_eq_false.1 g4 x hx; simpa using this
          have g4H := Lib.hid g4
          clear g4
          go_enter Tryz.func86, Tryz.ntmps86
          go_wp2_with (first | (go_at_call 107; have hgd := hwC; clear hgd; refine (containsM1_any _ h.bo (fun n => !within n 0 2) H1 _ hwC (hh.bo.mono hle) (Lib.hid fun x _ w _ => checkM1_any x w)).mono ?_; rintro e w' ⟨rfl, hbD⟩; rw [g4H.out]; have hwD := hwC.below hbD; have hxD := hxC.step (hbD.mono hxC.below.size) hwD) | ((refine wpList_boxF rfl _ rfl (Ext.refl hw) ?_; intro B w1 H1 hle hx hB hBw; obtain ⟨hc0, hc1, hc2, hc3, hc4, hc5⟩ := cellsHal hB; replace hB := Lib.hid hB; clear hw; have hw1 := hx.holds)) | (go_at_call 79; refine (checkT_any _ _ _ _ _ _ hw1 (hh.hs.mono hle)).mono ?_; rintro e w' ⟨rfl, hbC⟩; rw [g1e]; have hwC := hw1.below hbC; have hxC := hx.step (hbC.mono hx.below.size) hwC))
          have hbm := hh.hs.b.mono hle
          have hem := hh.ed.mono hle
          have hhm := hh.mono hle
          clear hbC hbD hwC hx hw1 hxC hwD
          go_loopw [33] (fun i wr => ∃ k : Nat, k ≤ h.ed.length ∧ i = .int .i64 k ∧ okTo (fun l => rising 0 3 l) h.ed k ∧ Ext w H wr H1) (fun i _ => h.ed.length - (intOf i).toNat)
          case atStart => exact ⟨0, Nat.zero_le _, rfl, okTo.zero _ _, hxD⟩
          case round =>
            clear hxD
            obtain ⟨k, hk, rfl, hok, hxr⟩ := hrel
            have hwr := hxr.holds
            by_cases hlt : k < h.ed.length
            · obtain ⟨L, hL⟩ := At.mk hlt
              obtain ⟨be, oe, ce', u, hez, hsl, hrl⟩ := hem.list hL
              cases hez
              obtain ⟨al, cl, rfl, hl1, hl2⟩ := hsl.form
              go_wp2
              go_loopw [39] (fun i wr => ∃ j : Nat, j ≤ L.length ∧ i = .int .i64 j ∧ Hid (rising 0 3 (L.take j) = true) ∧ Ext w H wr H1) (fun i _ => L.length - (intOf i).toNat)
              case atStart => exact ⟨0, Nat.zero_le _, rfl, rfl, hxr⟩
              case round =>
                clear hxr hwr
                obtain ⟨j, hj, rfl, hrj, hxr⟩ := hrel
                have hwr := hxr.holds
                by_cases hlj : j < L.length
                · obtain ⟨x, hxj⟩ := At.mk hlj
                  obtain ⟨bl, ol, cl', hez, ⟨hi1, hi2⟩, hrx⟩ := hsl.int hxj
                  cases hez
                  cases gx : within x 0 3
                  · go_wp2_with (first | (go_at_call 87; refine (withinM_any _ _ _ _).mono ?_; rintro e w' ⟨rfl, rfl⟩))
                    go_ret
                    exact ⟨ret_int (errM_no fun hv => by have := hv.eds; rw [hL.not_all (rising_bad hxj (.inl fun h => by rw [within_iff.2 h] at gx; cases gx))] at this; cases this).symm, hxr.below⟩
                  · by_cases hj0 : 0 < j
                    · obtain ⟨y, hyj⟩ := At.mk (show j - 1 < L.length by omega)
                      obtain ⟨bl', ol', cl'', hez, ⟨hj1, hj2⟩, hry⟩ := hsl.int hyj
                      cases hez
                      have hj3 : (0 : Int) < (j : Int) := by omega
                      have hidx : (((j : Int) - 1).toNat) = j - 1 := by omega
                      cases gy : decide (x ≤ y)
                      · go_wp2_with (first | (go_at_call 87; refine (withinM_any _ _ _ _).mono ?_; rintro e w' ⟨rfl, rfl⟩))
                        go_roundw
                        case rel => exact ⟨j + 1, by omega, by go_num, rising_step hrj.out hxj (within_iff.1 gx) fun z _ hz => by rw [hz.uniq hyj]; have := of_decide_eq_false gy; omega, hxr⟩
                        case measure => simp [intOf]; omega
                      · go_wp2_with (first | (go_at_call 87; refine (withinM_any _ _ _ _).mono ?_; rintro e w' ⟨rfl, rfl⟩))
                        go_ret
                        exact ⟨ret_int (errM_no fun hv => by have := hv.eds; rw [hL.not_all (rising_bad hxj (.inr ⟨y, hj0, hyj, of_decide_eq_true gy⟩))] at this; cases this).symm, hxr.below⟩
                    · obtain rfl : j = 0 := by omega
                      simp only [Nat.add_zero] at hrx
                      go_wp2_with (first | (go_at_call 87; refine (withinM_any _ _ _ _).mono ?_; rintro e w' ⟨rfl, rfl⟩))
                      go_roundw
                      case rel => exact ⟨1, by omega, by go_num, rising_step hrj.out hxj (within_iff.1 gx) fun z h0 _ => absurd h0 (by omega), hxr⟩
                      case measure => simp [intOf]; omega
                · go_wp2
                  go_roundw
                  case rel => exact ⟨k + 1, by omega, by go_num, hok.succ hL (by have := hrj.out; rwa [List.take_of_length_le (by omega)] at this), hxr⟩
                  case measure => simp [intOf]; omega
            · have heds := hok.all (by omega)
              have hct := containsM2_any B (.slice ab h.hs.bs.length cb) h.hs.bs (fun b => !decide (b.e < (h.ed.length : Int))) H1 wr hwr hbm (Lib.hid fun x _ w hw => checkM2_any _ _ _ _ _ h x B H1 w hw hhm hB.out)
              cases g5 : h.hs.bs.any fun b => !decide (b.e < (h.ed.length : Int))
              · rw [g5] at hct
                have hbes : h.hs.bs.all (fun b => decide (b.e < (h.ed.length : Int))) = true := by
                  rw [List.all_eq_true]; intro x hx; have := List.any_eq_false.1 g5 x hx; simpa using this
                replace g5 := Lib.hid g5
                replace hct := Lib.hid hct
                have hmf : ∀ (fn : Fn) (first cap : Array Value) (w : World), (Instr.makeFunc fn first cap).run Tryz.prog w = .ok (.func fn first cap) w := fun _ _ _ _ => rfl
                go_wp2_with (first | (go_at_call 111; refine hct.out.mono ?_; rintro e w' ⟨rfl, hbE⟩))
                go_ret
                exact ⟨ret_int (errM_yes ⟨valid_iff.1 g1, by have := bne_eq_false_iff_eq.1 g2; omega, by have := of_decide_eq_false g3; omega, hbos, heds, hbes⟩).symm, hxr.below.trans (hbE.mono hxr.below.size)⟩
              · rw [g5] at hct
                have HE := Lib.hid (errM_no (h := h) fun hv => by obtain ⟨x, hx, hx2⟩ := List.any_eq_true.1 g5; have := List.all_eq_true.1 hv.bes x hx; rw [this] at hx2; cases hx2)
                replace g5 := Lib.hid g5
                replace hct := Lib.hid hct
                have hmf : ∀ (fn : Fn) (first cap : Array Value) (w : World), (Instr.makeFunc fn first cap).run Tryz.prog w = .ok (.func fn first cap) w := fun _ _ _ _ => rfl
                go_wp2_with (first | (go_at_call 111; refine hct.out.mono ?_; rintro e w' ⟨rfl, hbE⟩))
                go_ret
                exact ⟨ret_int HE.out.symm, hxr.below.trans (hbE.mono hxr.below.size)⟩

/-! ### Sets and shelves -/

/-- The first number that is not nought. -/
def firstNZ : List Int → Int
  | [] => 0
  | x :: xs => if x = 0 then firstNZ xs else x
theorem orInt_any (v : Value) (xs : List Int) (H : Snap) (w : World) (hw : Holds H w) (hs : Sl H v xs) :
    Calls Tryz.prog 90 #[v] w (PostV w (.int .i64 (firstNZ xs))) := by
  obtain ⟨a, c, rfl, hc1, hc2⟩ := hs.form
  go_enter Tryz.func90, Tryz.ntmps90
  go_wp2
  go_loopw [8] (fun i wr => ∃ k : Nat, k ≤ xs.length ∧ i = .int .i64 k ∧ Hid (firstNZ xs = firstNZ (xs.drop k)) ∧ Ext w H wr H) (fun i _ => xs.length - (intOf i).toNat)
  case atStart => exact ⟨0, Nat.zero_le _, rfl, rfl, Ext.refl hw⟩
  case round =>
    obtain ⟨k, hk, rfl, hok, hxr⟩ := hrel
    have hwr := hxr.holds
    by_cases hlk : k < xs.length
    · obtain ⟨x, hxk⟩ := At.mk hlk
      obtain ⟨b, o, cc, he, ⟨hi1, hi2⟩, hr⟩ := hs.int hxk
      cases he
      have hd : xs.drop k = x :: xs.drop (k + 1) := by
        obtain ⟨hk', rfl⟩ := hxk.get; exact List.drop_eq_getElem_cons hk'
      cases g : (x != (0 : Int))
      · have e : firstNZ (xs.drop k) = firstNZ (xs.drop (k + 1)) := by rw [hd]; show (if x = 0 then firstNZ _ else x) = _; rw [if_pos (by simpa using g)]
        have hok2 : Hid (firstNZ xs = firstNZ (xs.drop (k + 1))) := by show _ = _; rw [hok.out, e]
        clear hok e hd
        go_wp2
        go_roundw
        case rel => exact ⟨k + 1, by omega, by go_num, hok2, hxr⟩
        case measure => simp [intOf]; omega
      · have e : firstNZ xs = x := by rw [hok.out, hd]; show (if x = 0 then firstNZ _ else x) = _; rw [if_neg (by simpa using g)]
        replace e := Lib.hid e
        clear hok hd
        go_wp2
        go_ret
        exact ⟨ret_int e.out.symm, hxr.below⟩
    · have e : firstNZ xs = 0 := by rw [hok.out, List.drop_eq_nil_of_le (by omega)]; rfl
      replace e := Lib.hid e
      go_wp2
      go_ret
      exact ⟨ret_int e.out.symm, hxr.below⟩
/-- .. of two numbers that have just been laid. -/
theorem orTwo_any (a b : Int) (ha : I64 a) (hb : I64 b) (H : Snap) (w : World) (hw : Holds H w) :
    Calls Tryz.prog 90 #[.slice (some ⟨w.heap.size, 0, none⟩) 2 2] (w.alloc (.cells #[.int .i64 a, .int .i64 b] 3)) (PostV (w.alloc (.cells #[.int .i64 a, .int .i64 b] 3)) (.int .i64 (firstNZ [a, b]))) := by
  obtain ⟨H2, _, hx, hs⟩ := (Ext.refl hw).lit (α := Int) (xs := [a, b]) (cs := [.int .i64 a, .int .i64 b]) (reps_int.2 ⟨rfl, fun x hx => by simp at hx; rcases hx with rfl | rfl <;> assumption⟩) 3 (by simp [Enc.by_]) (by simp)
  exact orInt_any _ [a, b] H2 _ hx.holds hs

theorem or_plc {p q : Plate} (hp : okPlate p = true) (hq : okPlate q = true) : decide (0 ≤ firstNZ [cmp3 q.pg p.pg, cmp3 q.br p.br]) = decide (plc p ≤ plc q) := by
  rw [okPlate_iff] at hp hq
  refine decide_eq_decide.2 ?_
  unfold plc firstNZ firstNZ firstNZ cmp3
  split <;> (try split) <;> (try split) <;> (try split) <;> (try split) <;> (try split) <;> omega

set_option maxRecDepth 100000 in
set_option maxHeartbeats 4000000 in
theorem isSetM_any (v : Value) (l : List Plate) (H : Snap) (w : World) (hw : Holds H w) (hs : Sl H v l) :
    Calls Tryz.prog 63 #[v] w (PostV w (.bool (setOk l))) := by
  obtain ⟨a, c, rfl, hc1, hc2⟩ := hs.form
  go_enter Tryz.func63, Tryz.ntmps63
  go_wp2
  go_loopw [7] (fun i wr => ∃ k : Nat, k ≤ l.length ∧ i = .int .i64 k ∧ setOk (l.take k) = true ∧ Ext w H wr H) (fun i _ => l.length - (intOf i).toNat)
  case atStart => exact ⟨0, Nat.zero_le _, rfl, rfl, Ext.refl hw⟩
  case round =>
    obtain ⟨k, hk, rfl, hok, hxr⟩ := hrel
    have hwr := hxr.holds
    replace hok := Lib.hid hok
    by_cases hlt : k < l.length
    · obtain ⟨p, hp⟩ := At.mk hlt
      obtain ⟨b, o, c', he, ⟨hi1, hi2, hi3⟩, hr1, hr2, hr3⟩ := hs.plate hp
      cases he
      cases g1 : within p.pg 0 3
      · go_wp2_with (first | (go_at_call 87; refine (withinM_any _ _ _ _).mono ?_; rintro e w' ⟨rfl, rfl⟩))
        go_ret
        exact ⟨ret_bool (setOk_no1 hp (by simp [okPlate, g1])).symm, (hxr.alloc _).below⟩
      · cases g2 : within p.br 0 2
        · go_wp2_with (first | (go_at_call 87; refine (withinM_any _ _ _ _).mono ?_; rintro e w' ⟨rfl, rfl⟩))
          go_ret
          exact ⟨ret_bool (setOk_no1 hp (by simp [okPlate, g1, g2])).symm, (hxr.alloc _).below⟩
        · cases g3 : within p.mn 1 9
          · go_wp2_with (first | (go_at_call 87; refine (withinM_any _ _ _ _).mono ?_; rintro e w' ⟨rfl, rfl⟩))
            go_ret
            exact ⟨ret_bool (setOk_no1 hp (by simp [okPlate, g1, g2, g3])).symm, (hxr.alloc _).below⟩
          · have hpo : okPlate p = true := by simp [okPlate, g1, g2, g3]
            obtain ⟨⟨p1, p2⟩, ⟨p3, p4⟩, p5, p6⟩ := okPlate_iff.1 hpo
            replace hpo := Lib.hid hpo
            go_upto_region 6 with (first | (go_at_call 87; refine (withinM_any _ _ _ _).mono ?_; rintro e w' ⟨rfl, rfl⟩))
            have hn_ : H (World.heap wr).size = none := (hxr).holds.none_of_ge (Nat.le_refl _)
            have hxz := ((hxr).alloc (.cells #[.int .i64 p.pg, .int .i64 p.br, .int .i64 p.mn] 62)).freeze (hxr).below.size (heap_alloc_new wr _)
            have hle := Snap.le_put hn_ (.cells #[.int .i64 p.pg, .int .i64 p.br, .int .i64 p.mn] 62 (0, 0))
            have hput := Snap.put_same H (World.heap wr).size (.cells #[.int .i64 p.pg, .int .i64 p.br, .int .i64 p.mn] 62 (0, 0))
            clear hn_
            generalize Snap.put H (World.heap wr).size (.cells #[.int .i64 p.pg, .int .i64 p.br, .int .i64 p.mn] 62 (0, 0)) = H2 at *
            generalize World.alloc wr (.cells #[.int .i64 p.pg, .int .i64 p.br, .int .i64 p.mn] 62) = wz at *
            generalize (World.heap wr).size = cv at *
            have hv0 : ∀ w, Holds H2 w → w.cell? ⟨cv, 0, none⟩ = some (.int .i64 p.pg) := fun w hw => cellH hput hw 0
            have hv1 : ∀ w, Holds H2 w → w.cell? ⟨cv, 1, none⟩ = some (.int .i64 p.br) := fun w hw => cellH hput hw 1
            have hwz := hxz.holds
            by_cases hk0 : 0 < k
            · obtain ⟨q, hq⟩ := At.mk (show k - 1 < l.length by omega)
              obtain ⟨b', o', c'', he, ⟨hj1, hj2, hj3⟩, hq1, hq2, hq3⟩ := hs.plate hq
              cases he
              replace hq1 := lift hle hq1
              replace hq2 := lift hle hq2
              have hqo : okPlate q = true := by
                have := (setOk_iff.1 hok.out).1 q
                refine this (List.mem_take_iff_getElem.2 ⟨k - 1, by omega, ?_⟩)
                obtain ⟨_, e⟩ := hq.get; exact e
              obtain ⟨⟨q1, q2⟩, ⟨q3, q4⟩, q5, q6⟩ := okPlate_iff.1 hqo
              have hk1 : (0 : Int) < (k : Int) := by omega
              have hidx : (((k : Int) - 1).toNat) = k - 1 := by omega
              have hor := or_plc hpo.out hqo
              have hb1 := cmp3_bd q.pg p.pg
              have hb2 := cmp3_bd q.br p.br
              have hOr : ∀ w, Holds H2 w → Calls Tryz.prog 90 #[.slice (some ⟨w.heap.size, 0, none⟩) 2 2] (w.alloc (.cells #[.int .i64 (cmp3 q.pg p.pg), .int .i64 (cmp3 q.br p.br)] 3)) (PostV (w.alloc (.cells #[.int .i64 (cmp3 q.pg p.pg), .int .i64 (cmp3 q.br p.br)] 3)) (.int .i64 (firstNZ [cmp3 q.pg p.pg, cmp3 q.br p.br]))) := fun w hw => orTwo_any _ _ ⟨by omega, by omega⟩ ⟨by omega, by omega⟩ H2 w hw
              generalize firstNZ [cmp3 q.pg p.pg, cmp3 q.br p.br] = fz at *
              replace hOr := Lib.hid hOr
              replace hqo := Lib.hid hqo
              clear hb1 hb2
              cases g : decide (plc p ≤ plc q)
              · rw [g] at hor
                replace g := Lib.hid g
                refine (wpIn_wide (n := 3)).1 ?_
                show Code.wpIn (FW none) 3 _ _ _ _ _
                have hnq : Nonempty (WB H2 wz) := ⟨⟨wz, hwz, Below.refl _ _⟩⟩
                refine wpIn_region_qtail (C := fun w' => ∃ x : WB H2 wz, w' = x.w) 21 (by kernel_rfl) (by kernel_rfl) (by kernel_rfl) ⟨⟨World.drew wz, Holds.drew hwz, (Below.refl _ _).drew⟩, rfl⟩ ?_
                simp only [List.take_succ_cons, List.take_zero, List.drop_succ_cons, List.drop_zero]
                repeat go_big_quiet_step ((first | (go_at_call 94; exact Calls.quietS (cmpInt_any _ _ _))))
                refine wpQuiet_nil ?_
                clear hnq
                rintro w2 ⟨⟨_, hw2, hb2⟩, rfl⟩
                gi_wp2_with (gi_at_call 90; refine (Calls.wide (hOr.out _ hw2)).mono ?_; rintro e w5 ⟨rfl, hb5⟩)
                have hx5 : Ext wz H2 w5 H2 := ⟨hb2.trans (((Below.refl _ _).alloc (Nat.le_refl _) _ |>.trans (hb5.mono (by simp))).mono hb2.size), (hw2.alloc _).below hb5, fun _ _ => rfl⟩
                go_wp2
                go_roundw
                case rel => exact ⟨k + 1, by omega, by go_num, setOk_step hok.out hp hpo.out fun y _ hy => by
                  rw [hy.uniq hq]; have := of_decide_eq_false g.out; omega, (hxz.trans hx5).back hxr hle⟩
                case measure => simp [intOf]; omega
              · rw [g] at hor
                replace g := Lib.hid g
                refine (wpIn_wide (n := 3)).1 ?_
                show Code.wpIn (FW none) 3 _ _ _ _ _
                have hnq : Nonempty (WB H2 wz) := ⟨⟨wz, hwz, Below.refl _ _⟩⟩
                refine wpIn_region_qtail (C := fun w' => ∃ x : WB H2 wz, w' = x.w) 21 (by kernel_rfl) (by kernel_rfl) (by kernel_rfl) ⟨⟨World.drew wz, Holds.drew hwz, (Below.refl _ _).drew⟩, rfl⟩ ?_
                simp only [List.take_succ_cons, List.take_zero, List.drop_succ_cons, List.drop_zero]
                repeat go_big_quiet_step ((first | (go_at_call 94; exact Calls.quietS (cmpInt_any _ _ _))))
                refine wpQuiet_nil ?_
                clear hnq
                rintro w2 ⟨⟨_, hw2, hb2⟩, rfl⟩
                gi_wp2_with (gi_at_call 90; refine (Calls.wide (hOr.out _ hw2)).mono ?_; rintro e w5 ⟨rfl, hb5⟩)
                have hx5 : Ext wz H2 w5 H2 := ⟨hb2.trans (((Below.refl _ _).alloc (Nat.le_refl _) _ |>.trans (hb5.mono (by simp))).mono hb2.size), (hw2.alloc _).below hb5, fun _ _ => rfl⟩
                go_wp2
                go_ret
                exact ⟨ret_bool (setOk_no2 hp hk0 hq (of_decide_eq_true g.out)).symm, (hxz.trans hx5).below⟩
            · obtain rfl : k = 0 := by omega
              refine wp_region_quietB H2 (by kernel_rfl) (by kernel_rfl) hwz (fun hne => ?_)
              repeat go_big_quiet_step ((first | fail))
              refine wpQuiet_nil ?_
              rintro ⟨w2, hw2, hb2⟩
              clear hne
              go_wp2
              go_roundw
              case rel => exact ⟨1, by omega, by go_num, setOk_step hok.out hp hpo.out fun y h0 _ => absurd h0 (by omega), (hxz.trans ⟨hb2, hw2, fun _ _ => rfl⟩).back hxr hle⟩
              case measure => simp [intOf]; omega
    · go_wp2
      go_ret
      have := hok.out
      rw [List.take_of_length_le (by omega)] at this
      exact ⟨ret_bool this.symm, hxr.below⟩

end Go.Proofs.YtngdppajailpcaaGreat
