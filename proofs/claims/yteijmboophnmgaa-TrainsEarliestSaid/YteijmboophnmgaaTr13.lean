/- The walk of trains.readied. Which trains are late, by when they are ready: the same as by the document. The walks of trains.Late and trains.Times. -/
import Derived.Test.YteijmboophnmgaaTr11

namespace Go.Proofs.Yteijmboophnmgaa
open Go.RowKit

attribute [local go_sem] Holds.drew Holds.alloc Holds.drewN WB.holds

/-- When all bundles of each train are printed, after the first k bundles. -/
def readyTo (h : House) (ts : List Int) : Nat → List Int
  | 0 => [0, 0, 0, 0]
  | k + 1 => (readyTo h ts k).set (bund h (k : Nat)).t.toNat (max ((readyTo h ts k).getD (bund h (k : Nat)).t.toNat 0) (if ts.getD k 0 = -1 then 1048576 else ts.getD k 0))
def readyT (h : House) (ts : List Int) : List Int := readyTo h ts h.bs.length
theorem readyTo_len (h : House) (ts : List Int) : ∀ k, (readyTo h ts k).length = 4
  | 0 => rfl
  | k + 1 => by simp only [readyTo, List.length_set]; exact readyTo_len h ts k
theorem getD_bd {l : List Int} {lo hi : Int} (h0 : lo ≤ 0 ∧ 0 ≤ hi) (h : ∀ x ∈ l, lo ≤ x ∧ x ≤ hi) (i : Nat) : lo ≤ l.getD i 0 ∧ l.getD i 0 ≤ hi := by
  by_cases hi' : i < l.length
  · rw [List.getD_eq_getElem?_getD, List.getElem?_eq_getElem hi']; exact h _ (List.getElem_mem hi')
  · rw [List.getD_eq_getElem?_getD, List.getElem?_eq_none (by omega)]; exact h0
theorem readyTo_bd {h : House} {ts : List Int} (ht : ∀ x ∈ ts, -1 ≤ x ∧ x ≤ 1000) : ∀ k, ∀ x ∈ readyTo h ts k, 0 ≤ x ∧ x ≤ 1048576
  | 0, x, hx => by simp [readyTo] at hx; omega
  | k + 1, x, hx => by
    have ih := readyTo_bd (h := h) ht k
    simp only [readyTo] at hx
    rcases List.mem_or_eq_of_mem_set hx with hx | rfl
    · exact ih x hx
    · have h1 := getD_bd (lo := 0) (hi := 1048576) (by omega) ih (bund h (k : Nat)).t.toNat
      have h2 := getD_bd (lo := -1) (hi := 1000) (by omega) ht k
      split <;> omega

theorem Row.new {H : Snap} {base g : Nat} {w : World} {t : TypeId} {xs : List Int} (hw : Holds H w) (hb : base ≤ w.heap.size) (hg : g = w.heap.size) : Row H base (w.alloc (.cells (xs.map (Value.int .i64)).toArray t)) t g xs := by
  subst hg
  exact ⟨heap_alloc_new _ _, hb, hw.none_of_ge (Nat.le_refl _)⟩

set_option maxRecDepth 100000 in
set_option maxHeartbeats 4000000 in
theorem readied_any (vm vb vt : Value) (h : House) (ts : List Int) (H : Snap) (w : World) (hw : Holds H w) (hh : Hou H vm vb vt h) (hv : Valid h) (hts : ts.length = 5) (htb : ∀ x ∈ ts, -1 ≤ x ∧ x ≤ 1000) :
    Calls Try.prog 78 #[houV vm vb vt h, arr ts] w (PostV w (arr (readyT h ts))) := by
  obtain ⟨ab, cb, rfl, hb1, hb2⟩ := hh.b.form
  have hb5 := hv.b5
  have ht4 := hv.t4
  match ts, hts, htb with
  | [t0, t1, t2, t3, t4], _, htb =>
  obtain ⟨ts, hts⟩ : ∃ ts, Hid (ts = [t0, t1, t2, t3, t4]) := ⟨_, rfl⟩
  have hpost : Hid (PostV w (arr (readyT h [t0, t1, t2, t3, t4])) = PostV w (arr (readyT h ts))) := by show _ = _; rw [hts.out]
  rw [hpost.out]
  rw [← hts.out] at htb
  show Calls Try.prog 78 #[houV _ _ _ h, .agg #[.int .i64 t0, .int .i64 t1, .int .i64 t2, .int .i64 t3, .int .i64 t4]] w (PostV w (arr (readyT h ts)))
  go_enter Try.func78, Try.ntmps78
  go_upto_region 2 with (refine wpList_boxF rfl _ rfl (Ext.refl hw) ?_; intro B w1 H1 hle hx hB hBw; obtain ⟨hc0, hc1, hc2, hc3⟩ := cellsHou hB; clear hB hw; have hw1 := hx.holds)
  have hsz1 := hx.below.size
  have hrowT : Row H1 w.heap.size (((w1.alloc (.cells #[.int .i64 t0, .int .i64 t1, .int .i64 t2, .int .i64 t3, .int .i64 t4] 96)).alloc (.cells #[.int .i64 0, .int .i64 0, .int .i64 0, .int .i64 0] 85)).alloc (.cells #[.int .i64 0, .int .i64 0, .int .i64 0, .int .i64 0] 85)) 96 w1.heap.size ts := by
    rw [hts.out]; exact ((Row.new (xs := [t0, t1, t2, t3, t4]) hw1 hsz1 rfl).alloc _).alloc _
  have hrowR : Row H1 w.heap.size (((w1.alloc (.cells #[.int .i64 t0, .int .i64 t1, .int .i64 t2, .int .i64 t3, .int .i64 t4] 96)).alloc (.cells #[.int .i64 0, .int .i64 0, .int .i64 0, .int .i64 0] 85)).alloc (.cells #[.int .i64 0, .int .i64 0, .int .i64 0, .int .i64 0] 85)) 85 (w1.heap.size + 1) [0, 0, 0, 0] :=
    (Row.new (xs := [0, 0, 0, 0]) (hw1.alloc _) (by simp; omega) (by simp)).alloc _
  have hrowO : Row H1 w.heap.size (((w1.alloc (.cells #[.int .i64 t0, .int .i64 t1, .int .i64 t2, .int .i64 t3, .int .i64 t4] 96)).alloc (.cells #[.int .i64 0, .int .i64 0, .int .i64 0, .int .i64 0] 85)).alloc (.cells #[.int .i64 0, .int .i64 0, .int .i64 0, .int .i64 0] 85)) 85 (w1.heap.size + 1 + 1) [0, 0, 0, 0] :=
    Row.new (xs := [0, 0, 0, 0]) ((hw1.alloc _).alloc _) (by simp; omega) (by simp)
  have hxz := ((hx.alloc (.cells #[.int .i64 t0, .int .i64 t1, .int .i64 t2, .int .i64 t3, .int .i64 t4] 96)).alloc (.cells #[.int .i64 0, .int .i64 0, .int .i64 0, .int .i64 0] 85)).alloc (.cells #[.int .i64 0, .int .i64 0, .int .i64 0, .int .i64 0] 85)
  have hn1 : w1.heap.size ≠ w1.heap.size + 1 + 1 := by omega
  have hn2 : w1.heap.size + 1 ≠ w1.heap.size + 1 + 1 := by omega
  have hn3 : w1.heap.size ≠ w1.heap.size + 1 := by omega
  generalize ((w1.alloc (.cells #[.int .i64 t0, .int .i64 t1, .int .i64 t2, .int .i64 t3, .int .i64 t4] 96)).alloc (.cells #[.int .i64 0, .int .i64 0, .int .i64 0, .int .i64 0] 85)).alloc (.cells #[.int .i64 0, .int .i64 0, .int .i64 0, .int .i64 0] 85) = wz at *
  generalize w1.heap.size + 1 + 1 = ob at *
  generalize w1.heap.size + 1 = rb at *
  generalize w1.heap.size = tb at *
  have hbm := hh.b.mono hle
  have htl : Hid (ts.length = 5) := by show _ = _; rw [hts.out]; rfl
  clear hx hw1 hle hsz1
  have hwz := hxz.holds
  go_wp2_with fail
  go_loopw [6, 7, 11] (fun _ _ i wr => ∃ (k : Nat) (acc tt : List Int), k ≤ h.bs.length ∧ i = .int .i64 k ∧ Hid (acc = readyTo h ts k) ∧ Hid (tt.length = 5 ∧ ∀ i, k ≤ i → tt.getD i 0 = ts.getD i 0) ∧ Ext w H wr H1 ∧ Row H1 w.heap.size wr 96 tb tt ∧ Row H1 w.heap.size wr 85 rb [0, 0, 0, 0] ∧ Row H1 w.heap.size wr 85 ob acc) (fun _ _ i _ => h.bs.length - (intOf i).toNat)
  case atStart => exact ⟨0, _, ts, Nat.zero_le _, rfl, rfl, ⟨htl.out, fun _ _ => rfl⟩, hxz, hrowT, hrowR, hrowO⟩
  case round =>
    clear hxz hwz hrowT hrowR hrowO
    obtain ⟨k, acc, tt, hk, rfl, hacc, htt, hxr, hrowT, hrowR, hrowO⟩ := hrel
    have hwr := hxr.holds
    by_cases hlk : k < h.bs.length
    · obtain ⟨y, hyk⟩ := At.mk hlk
      obtain ⟨bb, ob', cb', he, ⟨hy1, hy2, hy3⟩, hct, hchh, hce⟩ := hbm.bund hyk
      cases he
      have hyb := List.all_eq_true.1 hv.bs y hyk.mem
      simp only [okBund, Bool.and_eq_true, within_iff] at hyb
      obtain ⟨⟨⟨hyt0, hyt1⟩, _⟩, _⟩ := hyb
      obtain ⟨j, hyj⟩ := Int.eq_ofNat_of_zero_le hyt0
      have hj4 : j < 4 := by omega
      replace hyj := Lib.hid hyj
      clear hyt0 hyt1
      obtain ⟨x, hxk⟩ := At.mk (xs := tt) (k := k) (by rw [htt.out.1]; omega)
      obtain ⟨z, hzj⟩ := At.mk (xs := acc) (k := j) (by rw [hacc.out, readyTo_len]; exact hj4)
      have hxts : Hid (x = ts.getD k 0) := by show _ = _; rw [← htt.out.2 k (Nat.le_refl _), hxk.getD]
      have hxb : -1 ≤ x ∧ x ≤ 1000 := by rw [hxts.out]; exact getD_bd (by omega) htb k
      have hzb : 0 ≤ z ∧ z ≤ 1048576 := readyTo_bd htb k z (by rw [← hacc.out]; exact hzj.mem)
      have hsucc : ∀ v, v = max z (if x = -1 then 1048576 else x) → Hid (acc.set j v = readyTo h ts (k + 1)) := fun v hv => by
        show _ = _
        simp only [readyTo]
        rw [hyk.bund, hyj.out, Int.toNat_natCast, ← hacc.out, hzj.getD, ← hxts.out, hv]
      go_upto_region 5 with fail
      have hrowX : Row H1 w.heap.size (wr.alloc (.cells #[.int .i64 y.t, .int .i64 y.h, .int .i64 y.e] 58)) 58 wr.heap.size [y.t, y.h, y.e] := Row.new (xs := [y.t, y.h, y.e]) hwr hxr.below.size rfl
      replace hxr := hxr.alloc (.cells #[.int .i64 y.t, .int .i64 y.h, .int .i64 y.e] 58)
      have hltT := hrowT.lt
      have hltO := hrowO.lt
      replace hrowT := hrowT.alloc (.cells #[.int .i64 y.t, .int .i64 y.h, .int .i64 y.e] 58)
      replace hrowR := hrowR.alloc (.cells #[.int .i64 y.t, .int .i64 y.h, .int .i64 y.e] 58)
      replace hrowO := hrowO.alloc (.cells #[.int .i64 y.t, .int .i64 y.h, .int .i64 y.e] 58)
      have hnX : tb ≠ wr.heap.size := by omega
      have hnX2 : ob ≠ wr.heap.size := by omega
      clear hwr hltT hltO
      generalize wr.alloc (.cells #[.int .i64 y.t, .int .i64 y.h, .int .i64 y.e] 58) = wx at *
      generalize wr.heap.size = cx at *
      have hcX := hrowX.cell (i := 0) (x := y.t) rfl
      rw [hyj.out] at hcX
      have hcT := hrowT.cell hxk
      have hfT := hrowT.fz k
      have hcO := hrowO.cell hzj
      have hfO := hrowO.fz j
      by_cases hx1 : x = -1
      · subst hx1
        go_upto_region 7 with fail
        have hrowX' := hrowX.other (a := ⟨tb, k, none⟩) hnX (.int .i64 1048576)
        have hrowO' := hrowO.other (a := ⟨tb, k, none⟩) hn1 (.int .i64 1048576)
        have hrowR' := hrowR.other (a := ⟨tb, k, none⟩) hn3 (.int .i64 1048576)
        have hrowT' := hrowT.set k 1048576
        have hxr' := hxr.setCell (a := ⟨tb, k, none⟩) hrowT.base hrowT.free (.int .i64 1048576)
        have hdX := hrowX'.cell (i := 0) (x := y.t) rfl
        rw [hyj.out] at hdX
        have hdT := hrowT'.cell (i := k) (x := 1048576) (by show _ = _; rw [List.getElem?_set_self hxk.lt])
        have hdO := hrowO'.cell hzj
        have hgO := hrowO'.fz j
        generalize wx.setCell ⟨tb, k, none⟩ (.int .i64 1048576) = wy at *
        go_region
        all_goals
          go_wp2_with fail
          go_roundw
          case rel => exact ⟨k + 1, acc.set j _, tt.set k 1048576, by omega, by go_num, (hsucc _ (by rw [if_pos rfl]; split <;> omega)).out, ⟨by rw [List.length_set]; exact htt.out.1, fun i hi => by rw [List.getD_eq_getElem?_getD, List.getElem?_set_ne (by omega), ← List.getD_eq_getElem?_getD]; exact htt.out.2 i (by omega)⟩, (hxr'.setCell (a := ⟨ob, j, none⟩) hrowO'.base hrowO'.free _).drew, (hrowT'.other (a := ⟨ob, j, none⟩) (Ne.symm hn1) _).drew, (hrowR'.other (a := ⟨ob, j, none⟩) (Ne.symm hn2) _).drew, (hrowO'.set j _).drew⟩
          case measure => simp [intOf]; omega
      · have hx2 : (x == -1) = false := by simpa using hx1
        replace hx1 := Lib.hid hx1
        go_upto_region 7 with fail
        go_region
        all_goals
          go_wp2_with fail
          go_roundw
          case rel => exact ⟨k + 1, acc.set j _, tt, by omega, by go_num, (hsucc _ (by rw [if_neg hx1.out]; split <;> omega)).out, ⟨htt.out.1, fun i hi => htt.out.2 i (by omega)⟩, (hxr.setCell (a := ⟨ob, j, none⟩) hrowO.base hrowO.free _).drew, (hrowT.other (a := ⟨ob, j, none⟩) (Ne.symm hn1) _).drew, (hrowR.other (a := ⟨ob, j, none⟩) (Ne.symm hn2) _).drew, (hrowO.set j _).drew⟩
          case measure => simp [intOf]; omega
    · have hl4 : acc.length = 4 := by rw [hacc.out, readyTo_len]
      match acc, hl4, hacc, hrowO with
      | [a0, a1, a2, a3], _, hacc, hrowO =>
        have hpad : Hid ([a0, a1, a2, a3] = readyT h ts) := by
          show _ = _
          rw [hacc.out, show k = h.bs.length by omega]; rfl
        clear hacc
        have c0 := hrowO.cell (i := 0) (x := a0) rfl
        have c1 := hrowO.cell (i := 1) (x := a1) rfl
        have c2 := hrowO.cell (i := 2) (x := a2) rfl
        have c3 := hrowO.cell (i := 3) (x := a3) rfl
        have d0 := hrowR.cell (i := 0) (x := 0) rfl
        have d1 := hrowR.cell (i := 1) (x := 0) rfl
        have d2 := hrowR.cell (i := 2) (x := 0) rfl
        have d3 := hrowR.cell (i := 3) (x := 0) rfl
        have f0 := hrowR.fz 0
        have f1 := hrowR.fz 1
        have f2 := hrowR.fz 2
        have f3 := hrowR.fz 3
        go_wp2_with fail
        have hr := (((hrowR.set 0 a0).set 1 a1).set 2 a2).set 3 a3
        refine bodyPost_ret (results_cell_row rfl _ _ rb 85 _ (0, 0) _ rfl hr.at_ Try.underlying85 rfl (by kernel_rfl)) rfl ?_
        refine ⟨?_, ?_⟩
        · rw [← hpad.out]; rfl
        · exact ((((hxr.setCell (a := ⟨rb, 0, none⟩) hrowR.base hrowR.free _).setCell (a := ⟨rb, 1, none⟩) hrowR.base hrowR.free _).setCell (a := ⟨rb, 2, none⟩) hrowR.base hrowR.free _).setCell (a := ⟨rb, 3, none⟩) hrowR.base hrowR.free _).below
end Go.Proofs.Yteijmboophnmgaa

namespace Go.Proofs.Yteijmboophnmgaa

theorem bund_nat (h : House) (i : Nat) : bund h (i : Nat) = h.bs.getD i default := rfl
theorem bs_bd {h : House} (hv : Valid h) {i : Nat} (hi : i < h.bs.length) : 0 ≤ (bund h (i : Nat)).t ∧ (bund h (i : Nat)).t < h.ts.length := by
  obtain ⟨y, hy⟩ := At.mk hi
  have := List.all_eq_true.1 hv.bs y hy.mem
  simp only [okBund, Bool.and_eq_true, within_iff] at this
  rw [hy.bund]; omega
theorem tsD_bd {h : House} (hv : Valid h) (t : Nat) : 0 ≤ h.ts.getD t 0 ∧ h.ts.getD t 0 ≤ 99 :=
  getD_bd (by omega) (fun x hx => by have := List.all_eq_true.1 hv.ts x hx; exact within_iff.1 this) t

theorem late_arith (a b c : Int) (hb : -1 ≤ b) (hc : c ≤ 99) (hc0 : 0 ≤ c) : decide (c < max a (if b = -1 then 1048576 else b)) = (decide (c < a) || (decide (b < 0) || decide (c < b))) := by
  rw [Bool.eq_iff_iff]
  simp only [decide_eq_true_eq, Bool.or_eq_true]
  split <;> omega
theorem readyTo_late {h : House} (hv : Valid h) {ts : List Int} (hts : ∀ x ∈ ts, -1 ≤ x ∧ x ≤ 1000) {t : Nat} (ht : t < 4) : ∀ k, k ≤ h.bs.length → decide (h.ts.getD t 0 < (readyTo h ts k).getD t 0) = lateTo h ts t k
  | 0, _ => by
    have h1 := tsD_bd hv t
    have h2 : (readyTo h ts 0).getD t 0 = 0 := by
      simp only [readyTo]
      match t, ht with
      | 0, _ => rfl
      | 1, _ => rfl
      | 2, _ => rfl
      | 3, _ => rfl
    rw [h2, decide_eq_false (by omega)]
    simp [lateTo]
  | k + 1, hk => by
    have ih := readyTo_late hv hts ht k (by omega)
    have hb := bs_bd hv (i := k) (by omega)
    have h1 := tsD_bd hv t
    have h2 := getD_bd (lo := -1) (hi := 1000) (by omega) hts k
    have hl : lateTo h ts t (k + 1) = (lateTo h ts t k || (((bund h (k : Nat)).t == (t : Int)) && (decide (ts.getD k 0 < 0) || decide (h.ts.getD t 0 < ts.getD k 0)))) := by
      unfold lateTo
      rw [List.range_succ, List.any_append]
      simp [bund_nat]
    rw [hl, ← ih]
    have hlen := readyTo_len h ts k
    have hval : (readyTo h ts (k + 1)).getD t 0 = if (bund h (k : Nat)).t = (t : Int) then max ((readyTo h ts k).getD t 0) (if ts.getD k 0 = -1 then 1048576 else ts.getD k 0) else (readyTo h ts k).getD t 0 := by
      simp only [readyTo]
      by_cases e : (bund h (k : Nat)).t = (t : Int)
      · rw [if_pos e, e, Int.toNat_natCast, List.getD_eq_getElem?_getD, List.getElem?_set_self (by omega)]; rfl
      · rw [if_neg e, List.getD_eq_getElem?_getD, List.getElem?_set_ne (by omega), ← List.getD_eq_getElem?_getD]
    rw [hval]
    by_cases e : (bund h (k : Nat)).t = (t : Int)
    · have e2 : ((bund h (k : Nat)).t == (t : Int)) = true := by simpa using e
      rw [if_pos e, e2, Bool.true_and]
      exact late_arith _ _ _ h2.1 h1.2 h1.1
    · have e2 : ((bund h (k : Nat)).t == (t : Int)) = false := by simpa using e
      rw [if_neg e, e2, Bool.false_and, Bool.or_false]

theorem lateTo_congr {h : House} {a b : List Int} {t k : Nat} (e : ∀ i, i < k → a.getD i 0 = b.getD i 0) : lateTo h a t k = lateTo h b t k := by
  unfold lateTo
  rw [Bool.eq_iff_iff, List.any_eq_true, List.any_eq_true]
  constructor
  · rintro ⟨i, hi, hx⟩
    exact ⟨i, hi, by rw [← e i (List.mem_range.1 hi)]; exact hx⟩
  · rintro ⟨i, hi, hx⟩
    exact ⟨i, hi, by rw [e i (List.mem_range.1 hi)]; exact hx⟩

/-- When the trains are ready by a plan. -/
def readyP (h : House) (p : List (List Int)) : List Int := readyT h (padT h p)
theorem padT_bd {h : House} (hv : Valid h) {p : List (List Int)} (hp : isPlan h p = true) : ∀ x ∈ padT h p, -1 ≤ x ∧ x ≤ 1000 := by
  rw [padT_eq hv.b5 hp]
  intro x hx
  rcases List.mem_append.1 hx with hx | hx
  · exact timesOf_bd hv hp x hx
  · rw [List.eq_of_mem_replicate hx]; omega
theorem readyP_len (h : House) (p : List (List Int)) : (readyP h p).length = 4 := readyTo_len _ _ _
theorem readyP_bd {h : House} (hv : Valid h) {p : List (List Int)} (hp : isPlan h p = true) : ∀ x ∈ readyP h p, 0 ≤ x ∧ x ≤ 1048576 := readyTo_bd (padT_bd hv hp) _
theorem padT_getD {h : House} (hv : Valid h) {p : List (List Int)} (hp : isPlan h p = true) {i : Nat} (hi : i < h.bs.length) : (padT h p).getD i 0 = (timesOf h p).getD i 0 := by
  rw [padT_eq hv.b5 hp, List.getD_eq_getElem?_getD, List.getElem?_append_left (by rw [timesOf_len]; exact hi), ← List.getD_eq_getElem?_getD]
theorem late_spec {h : House} (hv : Valid h) {p : List (List Int)} (hp : isPlan h p = true) : lateBy h (readyP h p) h.ts.length = lateOf h p := by
  unfold lateBy lateOf lateList
  congr 1
  refine List.filter_congr fun t ht => ?_
  have := hv.t4
  have := List.mem_range.1 ht
  rw [lateB, readyP, readyT, readyTo_late hv (padT_bd hv hp) (by omega) _ (Nat.le_refl _)]
  exact lateTo_congr fun i hi => padT_getD hv hp hi

/-- The numbers of a set of bits are those of the list. -/
theorem setList_ub {l : List Int} (hl : ∀ x ∈ l, 0 ≤ x ∧ x ≤ 3) (hs : l.Pairwise (· < ·)) : setList (ub l) = l := by
  have h1 : ∀ x ∈ l, (0:Int) ≤ x := fun x hx => (hl x hx).1
  unfold setList setTo
  have e : (List.range 4).filter (fun i => (ub l).testBit i) = (List.range 4).filter (fun i : Nat => decide ((i : Int) ∈ l)) := List.filter_congr fun i _ => ub_test h1 i
  rw [e]
  have hnd : (((List.range 4).filter (fun i : Nat => decide ((i : Int) ∈ l))).map Int.ofNat).Pairwise (· < ·) := by
    rw [List.pairwise_map]
    refine List.Pairwise.imp ?_ ((List.pairwise_lt_range (n := 4)).filter _)
    intro a b hab
    exact Int.ofNat_lt.2 hab
  have hmem : ∀ x, x ∈ ((List.range 4).filter (fun i : Nat => decide ((i : Int) ∈ l))).map Int.ofNat ↔ x ∈ l := by
    intro x
    simp only [List.mem_map, List.mem_filter, List.mem_range, decide_eq_true_eq]
    constructor
    · rintro ⟨i, ⟨_, hi⟩, rfl⟩; exact hi
    · intro hx
      have := hl x hx
      exact ⟨x.toNat, ⟨by omega, by rw [Int.toNat_of_nonneg this.1]; exact hx⟩, by simp [Int.toNat_of_nonneg this.1]⟩
  have hperm : (((List.range 4).filter (fun i : Nat => decide ((i : Int) ∈ l))).map Int.ofNat).Perm l := by
    refine (List.perm_ext_iff_of_nodup ?_ ?_).2 hmem
    · exact hnd.imp (fun h => by omega)
    · exact hs.imp (fun h => by omega)
  exact hperm.eq_of_pairwise (fun a b _ _ h1 h2 => by omega) hnd hs
theorem lateBy_sorted (h : House) (r : List Int) (k : Nat) : (lateBy h r k).Pairwise (· < ·) := by
  unfold lateBy
  rw [List.pairwise_map]
  refine List.Pairwise.imp ?_ ((List.pairwise_lt_range (n := k)).filter _)
  intro a b hab
  exact Int.ofNat_lt.2 hab
theorem setList_late {h : House} (hv : Valid h) (r : List Int) : setList (ub (lateBy h r h.ts.length)) = lateBy h r h.ts.length :=
  setList_ub (fun x hx => by have := lateBy_mem hx; have := hv.t4; omega) (lateBy_sorted h r _)
theorem ub_late_lt {h : House} (hv : Valid h) (r : List Int) : ub (lateBy h r h.ts.length) < 16 := by
  have h1 : ∀ x ∈ lateBy h r h.ts.length, (0:Int) ≤ x := fun x hx => (lateBy_mem hx).1
  have h2 : ub (lateBy h r h.ts.length) < 32 := ub_lt (n := 4) (by omega) (fun x hx => by have := lateBy_mem hx; have := hv.t4; omega)
  have h4 : (ub (lateBy h r h.ts.length)).testBit 4 = false := by
    rw [ub_test h1]
    refine decide_eq_false fun hm => ?_
    have := lateBy_mem hm; have := hv.t4; omega
  rw [Nat.testBit_eq_decide_div_mod_eq] at h4
  have := of_decide_eq_false h4
  omega

end Go.Proofs.Yteijmboophnmgaa

namespace Go.Proofs.Yteijmboophnmgaa
open Go.RowKit

attribute [local go_sem] Holds.drew Holds.alloc Holds.drewN WB.holds

theorem lateL_any (vm vb vt : Value) (h : House) (r : List Int) (H : Snap) (w : World) (hw : Holds H w) (hh : Hou H vm vb vt h) (ht4 : h.ts.length ≤ 4) (hl : r.length = 4) (hr : ∀ x ∈ r, 0 ≤ x ∧ x ≤ 1048576) :
    Calls Try.prog 72 #[houV vm vb vt h, arr r] w (PostV w (.int .u64 (ub (lateBy h r h.ts.length) : Nat))) := by
  match r, hl, hr with
  | [r0, r1, r2, r3], _, hr =>
    have b0 := hr r0 (by simp); have b1 := hr r1 (by simp); have b2 := hr r2 (by simp); have b3 := hr r3 (by simp)
    exact lateT_any vm vb vt h r0 r1 r2 r3 H w hw hh ht4 ⟨by omega, by omega, by omega, by omega⟩

def lateA (h : House) (p : List (List Int)) : List Int := if valid h && isPlan h p then lateOf h p else []
def timesA (h : House) (p : List (List Int)) : List Int := if valid h && isPlan h p then timesOf h p else []

set_option maxRecDepth 100000 in
set_option maxHeartbeats 4000000 in
theorem lateA_any (vm vb vt vp : Value) (h : House) (plan : List (List Int)) (H : Snap) (w : World) (hw : Holds H w) (hh : Hou H vm vb vt h) (hp : Sl H vp plan) :
    Calls Try.prog 38 #[houV vm vb vt h, vp] w (Post w H fun v H' => ∃ u, v = .tuple #[u, .int .i64 (errA (valid h) (isPlan h plan))] ∧ Sl H' u (lateA h plan)) := by
  cases hv : (valid h && isPlan h plan)
  · have he : (errA (valid h) (isPlan h plan) != 0) = true := by
      cases h1 : valid h
      · rfl
      · rw [h1] at hv; simp at hv; rw [hv]; rfl
    have hA : Hid (lateA h plan = []) := by show _ = _; unfold lateA; rw [hv]; rfl
    go_enter Try.func38, Try.ntmps38
    go_wp2_with (first | (refine wpList_boxF rfl _ rfl (Ext.refl hw) ?_; intro B w1 H1 hle hx hB hBw; obtain ⟨hc0, hc1, hc2, hc3⟩ := cellsHou hB; clear hB hw; have hw1 := hx.holds) | (go_at_call 77; refine (plannedT_any _ _ _ _ _ _ _ _ hw1 (hh.mono hle) (hp.mono hle)).mono ?_; rintro e w' ⟨rfl, hb2⟩))
    go_ret2
    exact ⟨_, H1, rfl, hx.step (hb2.mono hx.below.size) (hw1.below hb2), _, rfl, by rw [hA.out]; exact Sl.nil0 _⟩
  · simp only [Bool.and_eq_true] at hv
    have hV := valid_iff.1 hv.1
    have he : errA (valid h) (isPlan h plan) = 0 := by rw [hv.1, hv.2]; rfl
    have hpl := Lib.hid hv.2
    have hlate : Hid (setList (ub (lateBy h (readyP h plan) h.ts.length)) = lateA h plan) := by
      show _ = _
      unfold lateA; rw [setList_late hV, late_spec hV hpl.out, hv.1, hv.2]; rfl
    have hub := ub_late_lt hV (readyP h plan)
    clear hv
    go_enter Try.func38, Try.ntmps38
    go_wp2_with (first | (refine wpList_boxF rfl _ rfl (Ext.refl hw) ?_; intro B w1 H1 hle hx hB hBw; obtain ⟨hc0, hc1, hc2, hc3⟩ := cellsHou hB; clear hB hw; have hw1 := hx.holds) | (go_at_call 77; refine (plannedT_any _ _ _ _ _ _ _ _ hw1 (hh.mono hle) (hp.mono hle)).mono ?_; rintro e w' ⟨rfl, hb2⟩; have hw2 := hw1.below hb2))
    have hx2 := hx.step (hb2.mono hx.below.size) hw2
    go_region_held3 (fun w' => Holds H1 w' ∧ Ext w H w' H1) (first | assumption | exact ⟨by assumption, by assumption⟩ | (go_split_ands; exact ⟨Holds.drew (by assumption), Ext.drew (by assumption)⟩) | (go_split_ands; exact ⟨Holds.alloc (by assumption) _, Ext.alloc (by assumption) _⟩) | (go_split_ands; exact ⟨Holds.drew (Holds.alloc (by assumption) _), Ext.drew (Ext.alloc (by assumption) _)⟩)) (first | ((go_split_ands; go_at_call 80; refine (setList_any _ hub H1 _ (by assumption)).mono ?_; rintro e w' ⟨v, H', rfl, hx', hs'⟩; obtain ⟨a', c', rfl, _, _⟩ := hs'.form; have hk1 : Holds H1 w' := hx'.old (by assumption); have hkF := (by assumption : Ext w H _ H1).trans hx'; have hk2 : Ext w H w' H1 := (by assumption : Ext w H _ H1).step (hx'.below.mono (by assumption : Ext w H _ H1).below.size) hk1)) | ((go_split_ands; go_at_call 72; refine (lateL_any _ _ _ _ (readyP h plan) H1 _ (by assumption) (hh.mono hle) hV.t4 (readyP_len _ _) (readyP_bd hV hpl.out)).mono ?_; rintro e w' ⟨rfl, hb⟩; have hk1 : Holds H1 w' := Holds.below (by assumption) hb; have hk2 : Ext w H w' H1 := (by assumption : Ext w H _ H1).step (hb.mono (by assumption : Ext w H _ H1).below.size) hk1)) | ((go_split_ands; go_at_call 78; refine (readied_any _ _ _ _ (padT h plan) H1 _ (by assumption) (hh.mono hle) hV (padT_len _ _) (padT_bd hV hpl.out)).mono ?_; rintro e w' ⟨rfl, hb⟩; have hk1 : Holds H1 w' := Holds.below (by assumption) hb; have hk2 : Ext w H w' H1 := (by assumption : Ext w H _ H1).step (hb.mono (by assumption : Ext w H _ H1).below.size) hk1)) | ((go_split_ands; go_at_call 79; refine (timed_any _ _ _ _ _ _ H1 _ (by assumption) (hh.mono hle) (hp.mono hle) hV hpl.out).mono ?_; rintro e w' ⟨rfl, hb⟩; have hk1 : Holds H1 w' := Holds.below (by assumption) hb; have hk2 : Ext w H w' H1 := (by assumption : Ext w H _ H1).step (hb.mono (by assumption : Ext w H _ H1).below.size) hk1)))
    go_wp2_with fail
    go_ret2
    rw [he]
    exact ⟨_, H', rfl, hkF, _, rfl, by rw [← hlate.out]; exact hs'⟩

theorem Sl.ofRow {H : Snap} {b : Nat} {t : TypeId} {xs : List Int} {n : Nat} (hb : H b = some (.cells (xs.map (Value.int .i64)).toArray t (0, 0))) (hx : ∀ x ∈ xs, I64 x) (hn : n ≤ xs.length) (hs : xs.length ≤ 1000) : Sl H (.slice (some ⟨b, 0, none⟩) n xs.length) (xs.take n) := by
  refine ⟨some ⟨b, 0, none⟩, xs.length, by rw [List.length_take, Nat.min_eq_left hn], by rw [List.length_take]; omega, by omega, by rw [List.length_take]; simp only [Enc.by_]; omega, .inr ⟨b, 0, _, t, (0, 0), rfl, hb, by simp [Enc.sz]; omega, ?_⟩⟩
  rw [reps_int]
  refine ⟨?_, fun x hx' => hx x (List.mem_of_mem_take hx')⟩
  simp [Enc.sz, List.map_take]

theorem run_sliceTimes (n b : Nat) (hn : n ≤ 5) (w : World) : (Instr.sliceAt 96 (.pointer (some ⟨b, 0, none⟩)) none (some (.int .i64 (n : Int))) none).run Try.prog w = .ok (.slice (some ⟨b, 0, none⟩) n 5) w := by
  have hal : Try.prog.arrayLen 96 = 5 := by kernel_rfl
  rw [run_sliceAt_array_h w 96 ⟨b, 0, none⟩ (by kernel_rfl) .i64 _ (by omega) (by rw [hal]; omega), show (sizeOf (Try.prog.elem 96)).run Try.prog w = .ok 1 w by kernel_rfl, hal]
  simp [Result.andThen, slicedAt, Addr.add_lit]

set_option maxRecDepth 100000 in
set_option maxHeartbeats 4000000 in
theorem timesA_any (vm vb vt vp : Value) (h : House) (plan : List (List Int)) (H : Snap) (w : World) (hw : Holds H w) (hh : Hou H vm vb vt h) (hp : Sl H vp plan) :
    Calls Try.prog 51 #[houV vm vb vt h, vp] w (Post w H fun v H' => ∃ u, v = .tuple #[u, .int .i64 (errA (valid h) (isPlan h plan))] ∧ Sl H' u (timesA h plan)) := by
  obtain ⟨ab, cb, rfl, hb1, hb2⟩ := hh.b.form
  cases hv : (valid h && isPlan h plan)
  · have he : (errA (valid h) (isPlan h plan) != 0) = true := by
      cases h1 : valid h
      · rfl
      · rw [h1] at hv; simp at hv; rw [hv]; rfl
    have hA : Hid (timesA h plan = []) := by show _ = _; unfold timesA; rw [hv]; rfl
    go_enter Try.func51, Try.ntmps51
    go_wp2_with (first | (refine wpList_boxF rfl _ rfl (Ext.refl hw) ?_; intro B w1 H1 hle hx hB hBw; obtain ⟨hc0, hc1, hc2, hc3⟩ := cellsHou hB; clear hB hw; have hw1 := hx.holds) | (go_at_call 77; refine (plannedT_any _ _ _ _ _ _ _ _ hw1 (hh.mono hle) (hp.mono hle)).mono ?_; rintro e w' ⟨rfl, hb2⟩))
    go_ret2
    exact ⟨_, H1, rfl, hx.step (hb2.mono hx.below.size) (hw1.below hb2), _, rfl, by rw [hA.out]; exact Sl.nil0 _⟩
  · simp only [Bool.and_eq_true] at hv
    have hV := valid_iff.1 hv.1
    have he : errA (valid h) (isPlan h plan) = 0 := by rw [hv.1, hv.2]; rfl
    have hpl := Lib.hid hv.2
    have hA : Hid ((padT h plan).take h.bs.length = timesA h plan) := by
      show _ = _
      unfold timesA; rw [padT_eq hV.b5 hpl.out, hv.1, hv.2, List.take_append_of_le_length (by rw [timesOf_len]; exact Nat.le_refl _), List.take_of_length_le (by rw [timesOf_len]; exact Nat.le_refl _)]; rfl
    have hbd := padT_bd hV hpl.out
    have hb5 := hV.b5
    clear hv
    have hpc := fun (H : Snap) (w : World) (vp : Value) (hw : Holds H w) (hh : Hou H vm (.slice ab h.bs.length cb) vt h) (hp : Sl H vp plan) => timed_any vm (.slice ab h.bs.length cb) vt vp h plan H w hw hh hp hV hpl.out
    obtain ⟨ts, hts⟩ : ∃ ts, Hid (padT h plan = ts) := ⟨_, rfl⟩
    have hl5 : ts.length = 5 := by rw [← hts.out]; exact padT_len _ _
    rw [hts.out] at hbd hpc hA
    match ts, hl5, hbd, hpc, hA with
    | [t0, t1, t2, t3, t4], _, hbd, hpc, hA =>
      clear hts
      simp only [arr, List.map_cons, List.map_nil] at hpc
      go_enter Try.func51, Try.ntmps51
      go_upto_region 5 with (first | (refine wpList_boxF rfl _ rfl (Ext.refl hw) ?_; intro B w1 H1 hle hx hB hBw; obtain ⟨hc0, hc1, hc2, hc3⟩ := cellsHou hB; clear hB hw; have hw1 := hx.holds) | (go_at_call 77; refine (plannedT_any _ _ _ _ _ _ _ _ hw1 (hh.mono hle) (hp.mono hle)).mono ?_; rintro e w' ⟨rfl, hb2⟩; have hw2 := hw1.below hb2) | (go_at_call 79; refine (hpc H1 _ _ hw2 (hh.mono hle) (hp.mono hle)).mono ?_; rintro e w3 ⟨rfl, hb3⟩; have hw3 := hw2.below hb3))
      have hx3 := (hx.step (hb2.mono hx.below.size) hw2).step (hb3.mono (Nat.le_trans hx.below.size hb2.size)) hw3
      have hn : H1 w3.heap.size = none := hw3.none_of_ge (Nat.le_refl _)
      have hxz := (hx3.alloc (.cells #[.int .i64 t0, .int .i64 t1, .int .i64 t2, .int .i64 t3, .int .i64 t4] 96)).freeze hx3.below.size (heap_alloc_new w3 _)
      have hle2 := Snap.le_put hn (.cells #[.int .i64 t0, .int .i64 t1, .int .i64 t2, .int .i64 t3, .int .i64 t4] 96 (0, 0))
      have hsl := Sl.ofRow (xs := [t0, t1, t2, t3, t4]) (n := h.bs.length) (Snap.put_same H1 w3.heap.size (.cells #[.int .i64 t0, .int .i64 t1, .int .i64 t2, .int .i64 t3, .int .i64 t4] 96 (0, 0))) (fun x hx => by have := hbd x hx; exact ⟨by omega, by omega⟩) (by simpa using hb5) (by simp)
      rw [hA.out] at hsl
      generalize H1.put w3.heap.size (.cells #[.int .i64 t0, .int .i64 t1, .int .i64 t2, .int .i64 t3, .int .i64 t4] 96 (0, 0)) = H2 at *
      generalize w3.alloc (.cells #[.int .i64 t0, .int .i64 t1, .int .i64 t2, .int .i64 t3, .int .i64 t4] 96) = wz at *
      generalize w3.heap.size = tb at *
      have hwz := hxz.holds
      replace hc1 := lift hle2 hc1
      have hslc := run_sliceTimes h.bs.length tb hb5
      have hlen : (timesA h plan).length ≤ 1000000 := by
        have := hsl.form; obtain ⟨a, c, e, h1, h2⟩ := this
        simp only [Value.slice.injEq] at e
        have := e.2.1; have := e.2.2; simp at *; omega
      go_wp2_with (first | (go_at_call 95; refine (cloneT_any _ _ H2 _ hwz hsl hlen).mono ?_; rintro e w' ⟨v, H', rfl, hx', hs'⟩; obtain ⟨a', c', rfl, _, _⟩ := hs'.form))
      go_ret2
      rw [he]
      exact ⟨_, H', rfl, hxz.trans hx', _, rfl, hs'⟩

end Go.Proofs.Yteijmboophnmgaa
