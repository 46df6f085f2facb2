/- Lemmas and walks on which the claims of this seat lean: M9a M9p Told Bst2 Top Wait Spare Ex2 Works M9x. -/
import Derived.Test.YtngdppajailpcaaGreatG06
import Derived.Test.YtngdppajailpcaaGreatG07
import Derived.Test.YtngdppajailpcaaGreatG08
import Derived.Test.YtngdppajailpcaaGreatG09
import Derived.Test.YtngdppajailpcaaGreatG17
import Derived.Test.YtngdppajailpcaaGreatG19
import Derived.Test.YtngdppajailpcaaGreatG20
import Derived.Test.YtngdppajailpcaaGreatG21
import Derived.Test.YtngdppajailpcaaGreatG22
import Derived.Sort.CutIn

set_option linter.all false

namespace Go.Proofs.YtngdppajailpcaaGreat
open Go.RowKit

attribute [local go_sem] Holds.drew Holds.alloc Holds.drewN WB.holds

/-- A hall that has far too much of something. -/
def huge9 (h : Hall) : Bool := huge h.hs || (decide (40 < h.bo.length) || long h.ed)
/-- .. or is valid, and has more bundles than the statements examine. -/
def far9 (h : Hall) : Bool := huge9 h || (decide (3 < h.hs.bs.length) && validHall h)
def ready9 (h : Hall) : Bool := !far9 h && validHall h

set_option maxRecDepth 100000 in
set_option maxHeartbeats 2000000 in
theorem huge9_any (vm vb vt vo ve : Value) (h : Hall) (H : Snap) (w : World) (hw : Holds H w) (hh : Hal H vm vb vt vo ve h) :
    Calls Tryz.prog 42 #[halV vm vb vt vo ve h] w (PostV w (.bool (huge9 h))) := by
  obtain ⟨ao, co, rfl, ho1, ho2⟩ := hh.bo.form
  have key : Hid (huge9 h = (huge h.hs || (decide (40 < (h.bo.length : Int)) || long h.ed))) := by
    show _ = _
    unfold huge9
    congr 2
    exact decide_eq_decide.2 (by omega)
  cases g1 : huge h.hs
  all_goals cases g2 : decide (40 < (h.bo.length : Int))
  all_goals
    rw [g1, g2] at key
    go_enter Tryz.func42, Tryz.ntmps42
    go_wp2_with (first | (have hgd := hw; clear hgd; refine wpList_boxF rfl _ rfl (Ext.refl hw) ?_; intro B w1 H1 hle hx hB hBw; obtain ⟨hc0, hc1, hc2, hc3, hc4, hc5⟩ := cellsHal hB; clear hB hw; have hw1 := hx.holds) | (go_at_call 81; refine (huge_any _ _ _ _ _ _ hw1 (hh.hs.mono hle)).mono ?_; rintro e w' ⟨rfl, hb2⟩; rw [g1]; have hw2 := hw1.below hb2; have x2 := hx.step (hb2.mono hx.below.size) hw2) | (go_at_call 82; refine (long_any _ _ _ _ hw2 (hh.ed.mono hle)).mono ?_; rintro e w' ⟨rfl, hb3⟩; have x3 := x2.step (hb3.mono x2.below.size) (hw2.below hb3)))
    go_ret
    first
      | exact ⟨ret_bool (by rw [key.out]; rfl), x3.below⟩
      | exact ⟨ret_bool (by rw [key.out]; rfl), x2.below⟩

set_option maxRecDepth 100000 in
set_option maxHeartbeats 2000000 in
theorem far9_any (vm vb vt vo ve : Value) (h : Hall) (H : Snap) (w : World) (hw : Holds H w) (hh : Hal H vm vb vt vo ve h) :
    Calls Tryz.prog 8 #[halV vm vb vt vo ve h] w (PostV w (.bool (far9 h))) := by
  obtain ⟨ab, cb, rfl, hb1, hb2⟩ := hh.hs.b.form
  have key : Hid (far9 h = (huge9 h || (decide (3 < (h.hs.bs.length : Int)) && validHall h))) := by
    show _ = _
    unfold far9
    congr 2
    exact decide_eq_decide.2 (by omega)
  cases g1 : huge9 h
  · cases g2 : decide (3 < (h.hs.bs.length : Int))
    · rw [g1, g2] at key
      go_enter Tryz.func8, Tryz.ntmps8
      go_wp2_with (first | (have hgd := hw; clear hgd; refine wpList_boxF rfl _ rfl (Ext.refl hw) ?_; intro B w1 H1 hle hx hB hBw; obtain ⟨hc0, hc1, hc2, hc3, hc4, hc5⟩ := cellsHal hB; clear hB hw; have hw1 := hx.holds) | (go_at_call 42; refine (huge9_any _ _ _ _ _ _ _ _ hw1 (hh.mono hle)).mono ?_; rintro e w' ⟨rfl, hb2⟩; rw [g1]; have hw2 := hw1.below hb2))
      go_ret
      exact ⟨ret_bool (by rw [key.out]; rfl), hx.below.trans (hb2.mono hx.below.size)⟩
    · cases hv : validHall h
      all_goals
        have he : errM (validHall h) = if validHall h then 0 else 90 := rfl
        rw [hv] at he
        rw [g1, g2, hv] at key
        simp only [Bool.false_eq_true, if_false, if_true] at he
        go_enter Tryz.func8, Tryz.ntmps8
        go_wp2_with (first | (have hgd := hw; clear hgd; refine wpList_boxF rfl _ rfl (Ext.refl hw) ?_; intro B w1 H1 hle hx hB hBw; obtain ⟨hc0, hc1, hc2, hc3, hc4, hc5⟩ := cellsHal hB; clear hB hw; have hw1 := hx.holds) | (go_at_call 42; refine (huge9_any _ _ _ _ _ _ _ _ hw1 (hh.mono hle)).mono ?_; rintro e w' ⟨rfl, hb2⟩; rw [g1]; have hw2 := hw1.below hb2) | (go_at_call 43; refine (check9_any _ _ _ _ _ _ _ _ hw2 (hh.mono hle)).mono ?_; rintro e w' ⟨rfl, hb3⟩; rw [hv, he]))
        go_ret
        exact ⟨ret_bool (by rw [key.out]; rfl), (hx.below.trans (hb2.mono hx.below.size)).trans (hb3.mono (Nat.le_trans hx.below.size hb2.size))⟩
  · rw [g1] at key
    go_enter Tryz.func8, Tryz.ntmps8
    go_wp2_with (first | (have hgd := hw; clear hgd; refine wpList_boxF rfl _ rfl (Ext.refl hw) ?_; intro B w1 H1 hle hx hB hBw; obtain ⟨hc0, hc1, hc2, hc3, hc4, hc5⟩ := cellsHal hB; clear hB hw; have hw1 := hx.holds) | (go_at_call 42; refine (huge9_any _ _ _ _ _ _ _ _ hw1 (hh.mono hle)).mono ?_; rintro e w' ⟨rfl, hb2⟩; rw [g1]; have hw2 := hw1.below hb2))
    go_ret
    exact ⟨ret_bool (by rw [key.out]; rfl), hx.below.trans (hb2.mono hx.below.size)⟩

theorem ready9_any (vm vb vt vo ve : Value) (h : Hall) (H : Snap) (w : World) (hw : Holds H w) (hh : Hal H vm vb vt vo ve h) :
    Calls Tryz.prog 31 #[halV vm vb vt vo ve h] w (PostV w (.bool (ready9 h))) := by
  have key : Hid (ready9 h = (!far9 h && validHall h)) := rfl
  cases hg : far9 h
  · cases hv : validHall h
    all_goals
      have he : errM (validHall h) = if validHall h then 0 else 90 := rfl
      rw [hv] at he
      rw [hg, hv] at key
      simp only [Bool.false_eq_true, if_false, if_true] at he
      go_enter Tryz.func31, Tryz.ntmps31
      go_wp2_with (first | (have hgd := hw; clear hgd; refine wpList_boxF rfl _ rfl (Ext.refl hw) ?_; intro B w1 H1 hle hx hB hBw; obtain ⟨hc0, hc1, hc2, hc3, hc4, hc5⟩ := cellsHal hB; clear hB hw; have hw1 := hx.holds) | (go_at_call 8; refine (far9_any _ _ _ _ _ _ _ _ hw1 (hh.mono hle)).mono ?_; rintro e w' ⟨rfl, hb2⟩; rw [hg]; have hw2 := hw1.below hb2) | (go_at_call 43; refine (check9_any _ _ _ _ _ _ _ _ hw2 (hh.mono hle)).mono ?_; rintro e w' ⟨rfl, hb3⟩; rw [hv, he]))
      go_ret
      exact ⟨ret_bool (by rw [key.out]; rfl), (hx.below.trans (hb2.mono hx.below.size)).trans (hb3.mono (Nat.le_trans hx.below.size hb2.size))⟩
  · rw [hg] at key
    go_enter Tryz.func31, Tryz.ntmps31
    go_wp2_with (first | (have hgd := hw; clear hgd; refine wpList_boxF rfl _ rfl (Ext.refl hw) ?_; intro B w1 H1 hle hx hB hBw; obtain ⟨hc0, hc1, hc2, hc3, hc4, hc5⟩ := cellsHal hB; clear hB hw; have hw1 := hx.holds) | (go_at_call 8; refine (far9_any _ _ _ _ _ _ _ _ hw1 (hh.mono hle)).mono ?_; rintro e w' ⟨rfl, hb2⟩; rw [hg]))
    go_ret
    exact ⟨ret_bool (by rw [key.out]; rfl), hx.below.trans (hb2.mono hx.below.size)⟩

theorem isSetL_any (v : Value) (l : List Plate) (H : Snap) (w : World) (hw : Holds H w) (hs : Sl H v l) :
    Calls Tryz.prog 32 #[v] w (PostV w (.bool (setOk l))) := by
  obtain ⟨a, c, rfl, hc1, hc2⟩ := hs.form
  cases g : decide ((l.length : Int) ≤ 40)
  · have e : setOk l = false := by
      cases hk : setOk l with
      | false => rfl
      | true => have := setOk_len hk; have := of_decide_eq_false g; omega
    rw [e]
    go_enter Tryz.func32, Tryz.ntmps32
    go_wp2
    go_ret
    exact ⟨rfl, Below.refl _ _⟩
  · go_enter Tryz.func32, Tryz.ntmps32
    go_wp2_with (first | (go_at_call 68; refine (isSet9_any _ _ _ _ hw hs).mono ?_; rintro e w' ⟨rfl, hb2⟩))
    go_ret
    exact ⟨rfl, hb2⟩

theorem isKnown_any (e : Int) (w : World) :
    Calls Tryz.prog 35 #[.int .i64 e] w (PostV w (.bool (e == 0 || e == 3))) := by
  cases g : e == 0
  all_goals
    go_enter Tryz.func35, Tryz.ntmps35
    go_wp2
    go_ret
    exact ⟨rfl, Below.refl _ _⟩

/-! ### What Fewest and Extra say, as numbers -/

theorem fewest_num {h : Hall} (hv : ValidH h) : (joinsH h = [] ∧ errF h = 3 ∧ fewestA h = 0 ∧ numC h zero12 = 10000) ∨ (joinsH h ≠ [] ∧ errF h = 0 ∧ fewestA h = numC h zero12 ∧ 0 ≤ numC h zero12 ∧ numC h zero12 ≤ 36) := by
  have hvh := validHall_iff.2 hv
  have hb := numC_bd hv Few.zero
  by_cases hj : joinsH h = []
  · have e := (leastA_none hv Cn.zero).2 hj
    refine .inl ⟨hj, ?_, ?_, numC_none hv Cn.zero hj⟩
    · unfold errF errL; rw [hvh, e]; rfl
    · unfold fewestA extraA
      rw [hvh, setOk_nil, show countsOf [] = zero12 from rfl, e]; rfl
  · refine .inr ⟨hj, ?_, ?_, hb.1, hb.2.2 hj⟩
    · unfold errF errL
      cases e : leastA h zero12 with
      | none => exact absurd ((leastA_none hv Cn.zero).1 e) hj
      | some x => rw [hvh]; rfl
    · unfold fewestA extraA numC
      rw [hvh, setOk_nil, show countsOf [] = zero12 from rfl]
      cases e : leastA h zero12 with
      | none => exact absurd ((leastA_none hv Cn.zero).1 e) hj
      | some x => rfl
theorem extra_num {h : Hall} (hv : ValidH h) {set : List Plate} (hs : setOk set = true) : (joinsH h = [] ∧ errL (askM (validHall h) (setOk set)) (leastA h (countsOf set)) = 3 ∧ extraA h set = 0 ∧ numC h (countsOf set) = 10000) ∨ (joinsH h ≠ [] ∧ errL (askM (validHall h) (setOk set)) (leastA h (countsOf set)) = 0 ∧ extraA h set = numC h (countsOf set) ∧ 0 ≤ numC h (countsOf set) ∧ numC h (countsOf set) ≤ 36) := by
  have hvh := validHall_iff.2 hv
  have hf := countsOf_few hs
  have hb := numC_bd hv hf
  by_cases hj : joinsH h = []
  · have e := (leastA_none hv hf.cn).2 hj
    refine .inl ⟨hj, ?_, ?_, numC_none hv hf.cn hj⟩
    · unfold errL; rw [hvh, hs, e]; rfl
    · unfold extraA
      rw [hvh, hs, e]; rfl
  · refine .inr ⟨hj, ?_, ?_, hb.1, hb.2.2 hj⟩
    · unfold errL
      cases e : leastA h (countsOf set) with
      | none => exact absurd ((leastA_none hv hf.cn).1 e) hj
      | some x => rw [hvh, hs]; rfl
    · unfold extraA numC
      rw [hvh, hs, platesOf_sum _ (setOk_iff.1 hs).1]
      cases e : leastA h (countsOf set) with
      | none => exact absurd ((leastA_none hv hf.cn).1 e) hj
      | some x => rfl

theorem fewestL9_any (vm vb vt vo ve : Value) (h : Hall) (hv : ValidH h) (H : Snap) (w : World) (hw : Holds H w) (hh : Hal H vm vb vt vo ve h) :
    Calls Tryz.prog 33 #[halV vm vb vt vo ve h] w (PostV w (.tuple #[.int .i64 (numC h zero12), .bool true])) := by
  have hc := fun (H' : Snap) (w : World) (hw : Holds H' w) (k : SLe H H') => fewestM_any vm vb vt vo ve h H' w hw (hh.mono k)
  rcases fewest_num hv with ⟨_, e1, e2, e3⟩ | ⟨_, e1, e2, e3, e4⟩
  · rw [e1, e2] at hc
    rw [e3]
    replace hc := Lib.hid hc
    clear e1 e2 e3
    go_enter Tryz.func33, Tryz.ntmps33
    go_wp2_with (first | (have hgd := hw; clear hgd; refine wpList_boxF rfl _ rfl (Ext.refl hw) ?_; intro B w1 H1 hle hx hB hBw; obtain ⟨hc0, hc1, hc2, hc3, hc4, hc5⟩ := cellsHal hB; clear hB hw; have hw1 := hx.holds) | (go_at_call 14; refine (hc.out _ _ hw1 hle).mono ?_; rintro e w' ⟨rfl, hb2⟩))
    go_ret2
    exact ⟨rfl, hx.below.trans (hb2.mono hx.below.size)⟩
  · rw [e1, e2] at hc
    clear e1 e2
    have e5 : numC h zero12 < 10000 := by omega
    generalize numC h zero12 = n at *
    replace hc := Lib.hid hc
    go_enter Tryz.func33, Tryz.ntmps33
    go_wp2_with (first | (have hgd := hw; clear hgd; refine wpList_boxF rfl _ rfl (Ext.refl hw) ?_; intro B w1 H1 hle hx hB hBw; obtain ⟨hc0, hc1, hc2, hc3, hc4, hc5⟩ := cellsHal hB; clear hB hw; have hw1 := hx.holds) | (go_at_call 14; refine (hc.out _ _ hw1 hle).mono ?_; rintro e w' ⟨rfl, hb2⟩))
    go_ret2
    exact ⟨rfl, hx.below.trans (hb2.mono hx.below.size)⟩

theorem copySetP_any (v : Value) (l : List Plate) (H : Snap) (w : World) (hw : Holds H w) (hs : Sl H v l) :
    Calls Tryz.prog 21 #[v] w (Post w H fun v H' => Sl H' v l) := (copySet9_any v l H w hw hs).mono fun _ _ k => k.post

theorem lacksA_mem {h : Hall} {set : List Plate} {c : Int} (hc : c ∈ lacksA h set) : c ∈ casesOf h.hs := by
  unfold lacksA at hc
  split at hc
  · exact (List.mem_filter.1 hc).1
  · cases hc
theorem cases_rising (h : House) : ((casesOf h).Pairwise (· < ·)) := by
  unfold casesOf casesTo
  rw [List.pairwise_cons]
  constructor
  · intro x hx
    obtain ⟨k, _, rfl⟩ := List.mem_map.1 hx
    show (-1 : Int) < (k : Int)
    omega
  · rw [List.pairwise_map]
    refine List.Pairwise.imp (R := (· < ·)) (fun {a b} hab => ?_) (List.Pairwise.filter _ List.pairwise_lt_range)
    show (a : Int) < (b : Int)
    omega
theorem lacksA_rising (h : Hall) (set : List Plate) : rising (-1) ((h.hs.ms.length : Int) - 1) (lacksA h set) = true := by
  rw [rising_iff]
  refine ⟨fun x hx => ?_, ?_⟩
  · have := casesOf_mem (lacksA_mem hx); omega
  · unfold lacksA
    split
    · exact List.Pairwise.filter _ (cases_rising h.hs)
    · exact List.Pairwise.nil

end Go.Proofs.YtngdppajailpcaaGreat

namespace Go.Proofs.YtngdppajailpcaaGreat

theorem ready9_valid {h : Hall} (hr : ready9 h = true) : ValidH h := by
  unfold ready9 at hr
  simp only [Bool.and_eq_true] at hr
  exact validHall_iff.1 hr.2
theorem rising_len {l : List Int} (h : rising 0 3 l = true) : l.length ≤ 4 := by
  obtain ⟨h1, h2⟩ := rising_iff.1 h
  exact nodup_len 4 l (fun x hx => by have := h1 x hx; omega) (h2.imp fun {a b} hab => by omega)
theorem ed_small {h : Hall} (hv : ValidH h) : h.ed.length ≤ 1000000 ∧ ∀ l ∈ h.ed, l.length ≤ 1000000 :=
  ⟨by have := hv.e4; omega, fun l hl => by have := rising_len (List.all_eq_true.1 hv.eds l hl); omega⟩
theorem far_small {h : Hall} (hf : huge9 h = false) : h.ed.length ≤ 1000000 ∧ ∀ l ∈ h.ed, l.length ≤ 1000000 := by
  unfold huge9 long at hf
  simp only [Bool.or_eq_false_iff, decide_eq_false_iff_not] at hf
  obtain ⟨_, _, h1, h2⟩ := hf
  refine ⟨by omega, fun l hl => ?_⟩
  have := List.any_eq_false.1 h2 l hl
  simp at this
  omega
theorem getD_map_mach (ms : List Mach) (f : Mach → Mach) (k : Nat) (hd : f default = default) : (ms.map f).getD k default = f (ms.getD k default) := by
  rw [List.getD_eq_getElem?_getD, List.getD_eq_getElem?_getD, List.getElem?_map]
  cases ms[k]? with
  | none => exact hd.symm
  | some m => rfl
theorem calm_mach (h : Hall) (k : Nat) : mach (calmH h).hs k = { mach h.hs k with s := 0 } := by
  unfold mach calmH
  exact getD_map_mach h.hs.ms (fun m => { m with s := 0 }) k rfl
theorem calm_better (h : Hall) : Better9 h (calmH h) :=
  ⟨rfl, rfl, List.length_map _, fun k => by rw [calm_mach]; exact ⟨rfl, rfl⟩, fun k _ hs => by rw [calm_mach] at hs; exact absurd hs (show ¬ (0 : Int) = 1 by decide), rfl, fun _ => Int.le_refl _, rfl, rfl⟩
theorem calm_fewer {h : Hall} (hv : ValidH h) : (joinsH h ≠ [] → joinsH (calmH h) ≠ []) ∧ numC (calmH h) zero12 ≤ numC h zero12 := (calm_better h).fewer hv (calm_valid hv)

/-- A train leaves later. -/
def later9 (h : Hall) (t : Nat) (n : Int) : Hall := { h with hs := laterH h.hs t n }
theorem later_better (h : Hall) (t : Nat) {n : Int} (hn : 0 ≤ n) : Better9 h (later9 h t n) :=
  ⟨rfl, rfl, rfl, fun _ => ⟨rfl, rfl⟩, fun _ _ hs => hs, List.length_set, fun k => by
    show h.hs.ts.getD k 0 ≤ (h.hs.ts.set t (h.hs.ts.getD t 0 + n)).getD k 0
    rw [getD_set]
    split
    · rename_i hc; rw [hc.1]; omega
    · exact Int.le_refl _, rfl, rfl⟩
/-- A machine may not stop. -/
def still9 (h : Hall) (m : Nat) : Hall := { h with hs := { h.hs with ms := h.hs.ms.set m { mach h.hs m with s := 0 } } }
theorem still_mach (h : Hall) (m k : Nat) : mach (still9 h m).hs k = if m = k ∧ k < h.hs.ms.length then { mach h.hs m with s := 0 } else mach h.hs k := by
  unfold mach still9
  simp only
  rw [getD_set]
  rfl
theorem still_better (h : Hall) (m : Nat) : Better9 h (still9 h m) :=
  ⟨rfl, rfl, List.length_set, fun k => by
    rw [still_mach]; split
    · rename_i hc; rw [hc.1]; exact ⟨rfl, rfl⟩
    · exact ⟨rfl, rfl⟩, fun k _ hs => by
    rw [still_mach] at hs
    split at hs
    · exact absurd hs (show ¬ (0 : Int) = 1 by decide)
    · exact hs, rfl, fun _ => Int.le_refl _, rfl, rfl⟩
theorem still_valid {h : Hall} (hv : ValidH h) {m : Nat} (hm : m < h.hs.ms.length) : ValidH (still9 h m) := by
  have hl : (still9 h m).hs.ms.length = h.hs.ms.length := List.length_set
  refine ⟨⟨by rw [hl]; exact hv.hs.m1, by rw [hl]; exact hv.hs.m3, hv.hs.t4, hv.hs.b5, hv.hs.ch, ?_, hv.hs.ts, hv.hs.bs⟩, by rw [hl]; exact hv.bo, hv.e4, hv.bos, hv.eds, hv.bes⟩
  rw [List.all_eq_true]
  intro x hx
  rcases List.mem_or_eq_of_mem_set hx with h1 | rfl
  · exact List.all_eq_true.1 hv.hs.ms x h1
  · have h2 : mach h.hs m ∈ h.hs.ms := by
      obtain ⟨y, hy⟩ := At.mk hm
      rw [hy.mach]; exact hy.mem
    have h1 := List.all_eq_true.1 hv.hs.ms _ h2
    simp only [okMach, Bool.and_eq_true, within_iff] at h1 ⊢
    omega
theorem bored_same {h : Hall} (hv : ValidH h) {one other : Nat} (h1 : one < h.hs.ms.length) (e : bore h one = bore h other) : boredH h one other = h := by
  unfold boredH
  rw [← e]
  have : h.bo.set one (bore h one) = h.bo := by
    obtain ⟨x, hx⟩ := At.mk (xs := h.bo) (k := one) (by rw [hv.bo]; exact h1)
    rw [hx.bore]
    obtain ⟨hk, rfl⟩ := hx.get
    exact List.set_getElem_self hk
  rw [this]
theorem bored_joins {h : Hall} (hv : ValidH h) {one other : Nat} (h2 : other < h.hs.ms.length) : joinsH h ≠ [] ↔ joinsH (boredH h one other) ≠ [] := by
  rw [joinsH_sure hv, joinsH_sure (bored_valid hv h2)]; exact Iff.rfl
theorem can_of_case {h : Hall} (hv : ValidH h) {set : List Plate} (hs : setOk set = true) {c : Int} (hc : c ∈ casesOf h.hs) : canA h set c = !decide (c ∈ lacksA h set) ∧ isCaseA h c = true := by
  have hca : isCaseA h c = true := by
    have := casesOf_mem hc
    unfold isCaseA
    by_cases e : c = -1
    · rw [decide_eq_true e]; rfl
    · rw [decide_eq_false e, Bool.false_or]; exact within_iff.2 ⟨by omega, by omega⟩
  refine ⟨?_, hca⟩
  unfold canA lacksA
  rw [validHall_iff.2 hv, hs, hca]
  simp only [Bool.and_self, Bool.true_and, if_true]
  have : decide (c ∈ (casesOf h.hs).filter fun c => !doesC (countsOf set) (needsA h c)) = !doesC (countsOf set) (needsA h c) := by
    rw [Bool.eq_iff_iff, decide_eq_true_eq, List.mem_filter]
    exact ⟨fun h => h.2, fun h => ⟨hc, h⟩⟩
  rw [this, Bool.not_not]

end Go.Proofs.YtngdppajailpcaaGreat

namespace Go.Proofs.YtngdppajailpcaaGreat
open Go.RowKit

attribute [local go_sem] Holds.drew Holds.alloc Holds.drewN WB.holds

/-- A round of Told: the set s against the list found so far and its length. -/
def toldStep (h : House) (a : List Int × Nat) (s : Nat) : List Int × Nat :=
  if (decide ((setList s).length < a.2) || (decide ((setList s).length = a.2) && decide (cmpL (setList s) a.1 < 0))) && sureB h (setList s) then (setList s, (setList s).length) else a
def toldRun (h : House) (k : Nat) : List Int × Nat := (List.range k).foldl (toldStep h) ([], h.ts.length + 1)
theorem toldRun_succ (h : House) (k : Nat) : toldRun h (k + 1) = toldStep h (toldRun h k) k := by
  unfold toldRun; rw [List.range_succ, List.foldl_append]; rfl
/-- What trains.Told returns. -/
def toldT (h : House) : List Int := if valid h then (toldRun h (2 ^ h.ts.length)).1 else []

theorem setList_le (s : Nat) : (setList s).length ≤ 4 := setTo_len s 4
theorem ub_setList : ∀ s : Fin 16, ub (setList s.val) = s.val := by decide
theorem setList_bd {s : Nat} : ∀ x ∈ setList s, 0 ≤ x ∧ x ≤ 3 := by
  intro x hx
  simp only [setList, setTo, List.mem_map, List.mem_filter, List.mem_range] at hx
  obtain ⟨i, ⟨hi, _⟩, rfl⟩ := hx
  show (0 : Int) ≤ (i : Int) ∧ (i : Int) ≤ 3
  omega
theorem toldRun_bd (h : House) : ∀ k, (toldRun h k).2 ≤ max 4 (h.ts.length + 1)
  | 0 => by show h.ts.length + 1 ≤ _; omega
  | k + 1 => by
    rw [toldRun_succ]; unfold toldStep
    have h1 := toldRun_bd h k
    have h2 := setList_le k
    split
    · show (setList k).length ≤ _; omega
    · exact h1
theorem cmpL_bd : ∀ a b : List Int, -1 ≤ cmpL a b ∧ cmpL a b ≤ 1
  | [], [] => by simp [cmpL]
  | [], _ :: _ => by simp [cmpL]
  | _ :: _, [] => by simp [cmpL]
  | a :: l, b :: m => by unfold cmpL; split; exact cmpL_bd l m; exact cmp3_bd a b

end Go.Proofs.YtngdppajailpcaaGreat

namespace Go.Proofs.YtngdppajailpcaaGreat
open Go.RowKit

attribute [local go_sem] Holds.drew Holds.alloc Holds.drewN WB.holds Oper.semAt_some FW_fn FW_dep FW_round

end Go.Proofs.YtngdppajailpcaaGreat

namespace Go.Proofs.YtngdppajailpcaaGreat
open Go.RowKit

attribute [local go_sem] Holds.drew Holds.alloc Holds.drewN WB.holds

/-- What trains.Sure returns. -/
def sureT (h : House) : Bool := valid h && sureB h []

set_option maxRecDepth 100000 in
theorem sureT_any (vm vb vt : Value) (h : House) (H : Snap) (w : World) (hw : Holds H w) (hh : Hou H vm vb vt h) :
    Calls Tryz.prog 40 #[houV vm vb vt h] w (PostV w (.tuple #[.bool (sureT h), .int .i64 (errT (valid h))])) := by
  cases hv : valid h
  · have he : errT (valid h) = 40 := by rw [hv]; rfl
    have hf : sureT h = false := by unfold sureT; rw [hv]; rfl
    go_enter Tryz.func40, Tryz.ntmps40
    go_wp2_with (first | (refine wpList_boxF rfl _ rfl (Ext.refl hw) ?_; intro B w1 H1 hle hx hB hBw; obtain ⟨hc0, hc1, hc2, hc3⟩ := cellsHou hB; clear hB hw; have hw1 := hx.holds) | (go_at_call 79; refine (checkT_any _ _ _ _ _ _ hw1 (hh.mono hle)).mono ?_; rintro e w' ⟨rfl, hb2⟩))
    go_ret2
    exact ⟨by rw [hf]; rfl, hx.below.trans (hb2.mono hx.below.size)⟩
  · have he : errT (valid h) = 0 := by rw [hv]; rfl
    have hV := valid_iff.1 hv
    have hf : sureT h = sureB h [] := by unfold sureT; rw [hv]; rfl
    go_enter Tryz.func40, Tryz.ntmps40
    go_wp2_with (first | (refine wpList_boxF rfl _ rfl (Ext.refl hw) ?_; intro B w1 H1 hle hx hB hBw; obtain ⟨hc0, hc1, hc2, hc3⟩ := cellsHou hB; clear hB hw; have hw1 := hx.holds) | (go_at_call 79; refine (checkT_any _ _ _ _ _ _ hw1 (hh.mono hle)).mono ?_; rintro e w' ⟨rfl, hb2⟩; have hw2 := hw1.below hb2) | (go_at_call 80; refine (sure_any _ _ _ _ hV [] (by simp) _ _ hw2 (hh.mono hle)).mono ?_; rintro e w' ⟨rfl, hb3⟩))
    go_ret2
    exact ⟨by rw [hf]; rfl, (hx.below.trans (hb2.mono hx.below.size)).trans (hb3.mono (Nat.le_trans hx.below.size hb2.size))⟩

end Go.Proofs.YtngdppajailpcaaGreat

namespace Go.Proofs.YtngdppajailpcaaGreat
open Go.RowKit

attribute [local go_sem] Holds.drew Holds.alloc Holds.drewN WB.holds Oper.semAt_some FW_fn FW_dep FW_round

def waitPlanT (h : House) (t : Nat) (acc : Int) (p : List (List Int)) : Int := if (lateOf h p).all (fun x => decide (x ∈ [(t : Int)])) then min acc (max 0 ((readyP h p).getD t 0 - h.ts.getD t 0)) else acc
def waitCaseT (h : House) (t : Nat) (c : Int) : Int := (plansOf h c).foldl (waitPlanT h t) 1048576
def waitRawT (h : House) (t : Nat) : Int := (casesOf h).foldl (fun o c => max o (waitCaseT h t c)) 0
/-- What Wait returns: minutes, and the error. -/
def waitTV (h : House) (t : Int) : Int := if valid h && within t 0 ((h.ts.length : Int) - 1) && decide (h.ts.getD t.toNat 0 + waitRawT h t.toNat ≤ 99) then waitRawT h t.toNat else 0
def waitTE (h : House) (t : Int) : Int := if valid h then (if within t 0 ((h.ts.length : Int) - 1) then (if h.ts.getD t.toNat 0 + waitRawT h t.toNat ≤ 99 then 0 else 3) else 1) else 40

theorem waitPlanT_bd {h : House} {t : Nat} {acc : Int} (ha : 0 ≤ acc ∧ acc ≤ 1048576) (p : List (List Int)) : 0 ≤ waitPlanT h t acc p ∧ waitPlanT h t acc p ≤ 1048576 := by
  unfold waitPlanT; split <;> omega
theorem waitFold_bd {h : House} {t : Nat} : ∀ (l : List (List (List Int))) {acc : Int}, (0 ≤ acc ∧ acc ≤ 1048576) → 0 ≤ l.foldl (waitPlanT h t) acc ∧ l.foldl (waitPlanT h t) acc ≤ 1048576
  | [], _, ha => ha
  | p :: l, _, ha => waitFold_bd l (waitPlanT_bd ha p)
theorem waitCases_bd {h : House} {t : Nat} : ∀ (l : List Int) {acc : Int}, (0 ≤ acc ∧ acc ≤ 1048576) → 0 ≤ l.foldl (fun o c => max o (waitCaseT h t c)) acc ∧ l.foldl (fun o c => max o (waitCaseT h t c)) acc ≤ 1048576
  | [], _, ha => ha
  | c :: l, _, ha => waitCases_bd l (by have := waitFold_bd (h := h) (t := t) (plansOf h c) (acc := 1048576) (by omega); show 0 ≤ max _ (waitCaseT h t c) ∧ max _ (waitCaseT h t c) ≤ 1048576; unfold waitCaseT; omega)
theorem ub_one (t : Nat) : ub [(t : Int)] = 2 ^ t := by simp [ub]

end Go.Proofs.YtngdppajailpcaaGreat

namespace Go.Proofs.YtngdppajailpcaaGreat
open Go.RowKit

attribute [local go_sem] Holds.drew Holds.alloc Holds.drewN WB.holds Oper.semAt_some FW_fn FW_dep FW_round

def spareStep (h : House) (r : List Int) (l : Int) (b : Bund) : Int := min l (h.ts.getD b.t.toNat 0 - r.getD b.t.toNat 0)
def sparePT (h : House) (p : List (List Int)) : Int := h.bs.foldl (spareStep h (readyP h p)) 99
def spareCaseT (h : House) (c : Int) : Int := (plansOf h c).foldl (fun m p => max m (sparePT h p)) (-1)
def spareRawT (h : House) : Int := (casesOf h).foldl (fun o c => min o (spareCaseT h c)) 99
/-- What Spare returns: minutes, and the error. -/
def spareTV (h : House) : Int := if valid h && decide (0 ≤ spareRawT h) then spareRawT h else 0
def spareTE (h : House) : Int := if valid h then (if 0 ≤ spareRawT h then 0 else 3) else 40

theorem spareSteps_bd {h : House} (hv : Valid h) {r : List Int} (hr : ∀ x ∈ r, 0 ≤ x ∧ x ≤ 1048576) : ∀ (l : List Bund) {a : Int}, (-1048577 ≤ a ∧ a ≤ 99) → -1048577 ≤ l.foldl (spareStep h r) a ∧ l.foldl (spareStep h r) a ≤ 99
  | [], _, ha => ha
  | b :: l, a, ha => spareSteps_bd hv hr l (by
      have h1 := tsD_bd hv b.t.toNat
      have h2 := getD_bd (lo := 0) (hi := 1048576) (by omega) hr b.t.toNat
      unfold spareStep; omega)
theorem sparePT_bd {h : House} (hv : Valid h) {p : List (List Int)} (hp : isPlan h p = true) : -1048577 ≤ sparePT h p ∧ sparePT h p ≤ 99 := spareSteps_bd hv (readyP_bd hv hp) _ (by omega)
theorem spareFold_bd {h : House} (hv : Valid h) : ∀ (l : List (List (List Int))) {a : Int}, (∀ p ∈ l, isPlan h p = true) → (-1 ≤ a ∧ a ≤ 99) → -1 ≤ l.foldl (fun m p => max m (sparePT h p)) a ∧ l.foldl (fun m p => max m (sparePT h p)) a ≤ 99
  | [], _, _, ha => ha
  | p :: l, a, hl, ha => spareFold_bd hv l (fun q hq => hl q (by simp [hq])) (by have := sparePT_bd hv (hl p (by simp)); show -1 ≤ max a (sparePT h p) ∧ max a (sparePT h p) ≤ 99; omega)
theorem spareCases_bd {h : House} (hv : Valid h) : ∀ (l : List Int) {a : Int}, (-1 ≤ a ∧ a ≤ 99) → -1 ≤ l.foldl (fun o c => min o (spareCaseT h c)) a ∧ l.foldl (fun o c => min o (spareCaseT h c)) a ≤ 99
  | [], _, ha => ha
  | c :: l, a, ha => spareCases_bd hv l (by have := spareFold_bd hv (plansOf h c) (a := -1) (plansOf_isPlan hv c) (by omega); show -1 ≤ min a (spareCaseT h c) ∧ min a (spareCaseT h c) ≤ 99; unfold spareCaseT; omega)

end Go.Proofs.YtngdppajailpcaaGreat

namespace Go.Proofs.YtngdppajailpcaaGreat
open Go.RowKit

def exH : House := ⟨[⟨0, 2, 1⟩, ⟨5, 3, 0⟩], [⟨0, 4, 0⟩, ⟨1, 3, 0⟩, ⟨1, 5, 1⟩], [10, 31], 2⟩
def exG : House := ⟨[⟨0, 2, 0⟩, ⟨5, 3, 0⟩], [⟨0, 4, 0⟩, ⟨1, 3, 0⟩, ⟨1, 5, 1⟩], [10, 31], 2⟩
theorem exH_valid : valid exH = true := by decide +kernel
theorem exG_valid : valid exG = true := by decide +kernel
theorem exH_isPlan : isPlan exH [[2], [0]] = true := by decide +kernel
theorem exH_late : lateA exH [[2], [0]] = [0, 1] := by decide +kernel
theorem exH_plan : planOf exH = [[0], [1, 2]] := by decide +kernel
theorem exH_wait : waitTV exH 0 = 33 ∧ waitTE exH 0 = 0 := by decide +kernel
theorem exG_spare : spareTV exG = 2 ∧ spareTE exG = 0 := by decide +kernel
theorem exH_told : toldT exH = [0] := by decide +kernel
theorem exG_sure : sureT exG = true := by decide +kernel

end Go.Proofs.YtngdppajailpcaaGreat

namespace Go.Proofs.YtngdppajailpcaaGreat
open Go.RowKit

attribute [local go_sem] Holds.drew Holds.alloc Holds.drewN WB.holds Oper.semAt_some FW_fn FW_dep FW_round

theorem heap_setCell_ne (w : World) (a : Addr) (v : Value) {b : Nat} (h : b ≠ a.block) : (w.setCell a v).heap[b]? = w.heap[b]? := by
  show (w.heap.modify a.block _)[b]? = _
  rw [Array.getElem?_modify, if_neg (Ne.symm h)]
theorem heap_alloc_size' (w : World) (o : Obj) : (w.alloc o).heap.size = w.heap.size + 1 := by simp
theorem machRep (H : Snap) (m : Mach) (h1 : I64 m.r) (h2 : I64 m.p) (h3 : I64 m.s) : Enc.rep H m [.int .i64 m.r, .int .i64 m.p, .int .i64 m.s] := show MachRep m _ from ⟨rfl, h1, h2, h3⟩
theorem bundRep (H : Snap) (b : Bund) (h1 : I64 b.t) (h2 : I64 b.h) (h3 : I64 b.e) : Enc.rep H b [.int .i64 b.t, .int .i64 b.h, .int .i64 b.e] := show BundRep b _ from ⟨rfl, h1, h2, h3⟩
theorem exM_lit {w0 w : World} {H0 H : Snap} (hx : Ext w0 H0 w H) : ∃ H2, SLe H H2 ∧ Ext w0 H0 (w.alloc (.cells #[.int .i64 0, .int .i64 2, .int .i64 1, .int .i64 5, .int .i64 3, .int .i64 0] 97)) H2 ∧ Sl H2 (.slice (some ⟨w.heap.size, 0, none⟩) 2 2) exH.ms :=
  Ext.lit (xs := exH.ms) (cs := [.int .i64 0, .int .i64 2, .int .i64 1, .int .i64 5, .int .i64 3, .int .i64 0]) hx
    ⟨_, [.int .i64 5, .int .i64 3, .int .i64 0], rfl, machRep H ⟨0, 2, 1⟩ (by constructor <;> decide) (by constructor <;> decide) (by constructor <;> decide), _, [], rfl, machRep H ⟨5, 3, 0⟩ (by constructor <;> decide) (by constructor <;> decide) (by constructor <;> decide), rfl⟩ _ (by simp [exH, Enc.by_]) (by simp [exH])
theorem exB_lit {w0 w : World} {H0 H : Snap} (hx : Ext w0 H0 w H) : ∃ H2, SLe H H2 ∧ Ext w0 H0 (w.alloc (.cells #[.int .i64 0, .int .i64 4, .int .i64 0, .int .i64 1, .int .i64 3, .int .i64 0, .int .i64 1, .int .i64 5, .int .i64 1] 120)) H2 ∧ Sl H2 (.slice (some ⟨w.heap.size, 0, none⟩) 3 3) exH.bs :=
  Ext.lit (xs := exH.bs) (cs := [.int .i64 0, .int .i64 4, .int .i64 0, .int .i64 1, .int .i64 3, .int .i64 0, .int .i64 1, .int .i64 5, .int .i64 1]) hx
    ⟨_, [.int .i64 1, .int .i64 3, .int .i64 0, .int .i64 1, .int .i64 5, .int .i64 1], rfl, bundRep H ⟨0, 4, 0⟩ (by constructor <;> decide) (by constructor <;> decide) (by constructor <;> decide), _, [.int .i64 1, .int .i64 5, .int .i64 1], rfl, bundRep H ⟨1, 3, 0⟩ (by constructor <;> decide) (by constructor <;> decide) (by constructor <;> decide), _, [], rfl, bundRep H ⟨1, 5, 1⟩ (by constructor <;> decide) (by constructor <;> decide) (by constructor <;> decide), rfl⟩ _ (by simp [exH, Enc.by_]) (by simp [exH])
theorem exT_lit {w0 w : World} {H0 H : Snap} (hx : Ext w0 H0 w H) : ∃ H2, SLe H H2 ∧ Ext w0 H0 (w.alloc (.cells #[.int .i64 10, .int .i64 31] 3)) H2 ∧ Sl H2 (.slice (some ⟨w.heap.size, 0, none⟩) 2 2) exH.ts :=
  Ext.lit (xs := exH.ts) (cs := [.int .i64 10, .int .i64 31]) hx (reps_int.2 ⟨rfl, fun x hx => by simp [exH] at hx; unfold I64; omega⟩) _ (by simp [exH, Enc.by_]) (by simp [exH])

end Go.Proofs.YtngdppajailpcaaGreat

namespace Go.Proofs.YtngdppajailpcaaGreat
open Go.RowKit

attribute [local go_sem] Holds.drew Holds.alloc Holds.drewN WB.holds

theorem ints_lit {w0 w : World} {H0 H : Snap} (hx : Ext w0 H0 w H) (xs : List Int) (h : ∀ x ∈ xs, I64 x) (hl : xs.length ≤ 100) :
    ∃ H2, SLe H H2 ∧ Ext w0 H0 (w.alloc (.cells (xs.map (Value.int .i64)).toArray 3)) H2 ∧ Sl H2 (.slice (some ⟨w.heap.size, 0, none⟩) xs.length xs.length) xs :=
  Ext.lit hx (reps_int.2 ⟨rfl, h⟩) _ (by simp only [Enc.by_]; omega) (by omega)
theorem ints_lit1 {w0 w : World} {H0 H : Snap} (hx : Ext w0 H0 w H) (x : Int) (h : I64 x) :
    ∃ H2, SLe H H2 ∧ Ext w0 H0 (w.alloc (.cells #[.int .i64 x] 3)) H2 ∧ Sl H2 (.slice (some ⟨w.heap.size, 0, none⟩) 1 1) [x] := ints_lit hx [x] (by simpa using h) (by simp)
theorem ints_lit2 {w0 w : World} {H0 H : Snap} (hx : Ext w0 H0 w H) (x y : Int) (h : I64 x) (h' : I64 y) :
    ∃ H2, SLe H H2 ∧ Ext w0 H0 (w.alloc (.cells #[.int .i64 x, .int .i64 y] 3)) H2 ∧ Sl H2 (.slice (some ⟨w.heap.size, 0, none⟩) 2 2) [x, y] := ints_lit hx [x, y] (by simp [h, h']) (by simp)
theorem lists_lit2 {w0 w : World} {H0 H : Snap} (hx : Ext w0 H0 w H) {a b : Value} {xs ys : List Int} (h1 : Sl H a xs) (h2 : Sl H b ys) :
    ∃ H2, SLe H H2 ∧ Ext w0 H0 (w.alloc (.cells #[a, b] 24)) H2 ∧ Sl H2 (.slice (some ⟨w.heap.size, 0, none⟩) 2 2) [xs, ys] :=
  Ext.lit (xs := [xs, ys]) (cs := [a, b]) hx ⟨[a], [b], rfl, show Enc.rep H xs [a] from ⟨_, rfl, h1⟩, [b], [], rfl, show Enc.rep H ys [b] from ⟨_, rfl, h2⟩, rfl⟩ _ (by simp [Enc.by_]) (by simp)

theorem exLate (vm vb vt vp : Value) (H : Snap) (w : World) (hw : Holds H w) (hh : Hou H vm vb vt exH) (hp : Sl H vp [[(2 : Int)], [0]]) :
    Calls Tryz.prog 98 #[houV vm vb vt exH, vp] w (Post w H fun v H' => ∃ u, v = .tuple #[u, .int .i64 0] ∧ Sl H' u [(0 : Int), 1]) := by
  have h := lateA_any vm vb vt vp exH [[2], [0]] H w hw hh hp
  rw [exH_late, exH_valid, exH_isPlan] at h
  exact h
theorem exSure (vm vb vt : Value) (H : Snap) (w : World) (hw : Holds H w) (hh : Hou H vm vb vt exG) :
    Calls Tryz.prog 40 #[houV vm vb vt exG] w (PostV w (.tuple #[.bool true, .int .i64 0])) := by
  have h := sureT_any vm vb vt exG H w hw hh
  rw [exG_sure, exG_valid] at h
  exact h
theorem exSame (va vb : Value) (xs : List Int) (H : Snap) (w : World) (hw : Holds H w) (ha : Sl H va xs) (hb : Sl H vb xs) :
    Calls Tryz.prog 26 #[va, vb] w (PostV w (.bool true)) := by
  have h := sameInts_any va vb xs xs H w hw ha hb
  simpa using h
theorem exSameP (va vb : Value) (xs : List (List Int)) (H : Snap) (w : World) (hw : Holds H w) (ha : Sl H va xs) (hb : Sl H vb xs) :
    Calls Tryz.prog 54 #[va, vb] w (PostV w (.bool true)) := by
  have h := samePlan_any va vb xs xs H w hw ha hb
  simpa using h

end Go.Proofs.YtngdppajailpcaaGreat

namespace Go.Proofs.YtngdppajailpcaaGreat
open Go.RowKit

attribute [local go_sem] Holds.drew Holds.alloc Holds.drewN WB.holds Oper.semAt_some FW_fn FW_dep FW_round

theorem Rdy6.off6 {R R' : Nat} {t : TypeId} {w : World} (h : Rdy6 R t w) (hne : R ≠ R') (u1 u2 u3 u4 u5 u6 : Value) : Rdy6 R t (Go.Proofs.YtngdppajailpcaaGreat.set6 w R' u1 u2 u3 u4 u5 u6) := by
  obtain ⟨a, b, c, d, e, f, hr⟩ := h
  refine ⟨a, b, c, d, e, f, ?_⟩
  unfold Go.Proofs.YtngdppajailpcaaGreat.set6
  rw [heap_setCell_off _ _ _ hne, heap_setCell_off _ _ _ hne, heap_setCell_off _ _ _ hne, heap_setCell_off _ _ _ hne, heap_setCell_off _ _ _ hne, heap_setCell_off _ _ _ hne]
  exact hr

/-- The chapter's hall K. -/
def exK : Hall := ⟨⟨[⟨0, 2, 1⟩, ⟨0, 2, 1⟩], [⟨0, 2, 0⟩, ⟨1, 3, 1⟩], [5, 12], 2⟩, [0, 1], [[0, 1], [0, 2]]⟩
def exL : Hall := boredH exK 1 0
theorem exKM_lit {w0 w : World} {H0 H : Snap} (hx : Ext w0 H0 w H) : ∃ H2, SLe H H2 ∧ Ext w0 H0 (w.alloc (.cells #[.int .i64 0, .int .i64 2, .int .i64 1, .int .i64 0, .int .i64 2, .int .i64 1] 97)) H2 ∧ Sl H2 (.slice (some ⟨w.heap.size, 0, none⟩) 2 2) exK.hs.ms :=
  Ext.lit (xs := exK.hs.ms) (cs := [.int .i64 0, .int .i64 2, .int .i64 1, .int .i64 0, .int .i64 2, .int .i64 1]) hx
    ⟨_, [.int .i64 0, .int .i64 2, .int .i64 1], rfl, machRep H ⟨0, 2, 1⟩ (by constructor <;> decide) (by constructor <;> decide) (by constructor <;> decide), _, [], rfl, machRep H ⟨0, 2, 1⟩ (by constructor <;> decide) (by constructor <;> decide) (by constructor <;> decide), rfl⟩ _ (by simp [exK, Enc.by_]) (by simp [exK])
theorem exKB_lit {w0 w : World} {H0 H : Snap} (hx : Ext w0 H0 w H) : ∃ H2, SLe H H2 ∧ Ext w0 H0 (w.alloc (.cells #[.int .i64 0, .int .i64 2, .int .i64 0, .int .i64 1, .int .i64 3, .int .i64 1] 120)) H2 ∧ Sl H2 (.slice (some ⟨w.heap.size, 0, none⟩) 2 2) exK.hs.bs :=
  Ext.lit (xs := exK.hs.bs) (cs := [.int .i64 0, .int .i64 2, .int .i64 0, .int .i64 1, .int .i64 3, .int .i64 1]) hx
    ⟨_, [.int .i64 1, .int .i64 3, .int .i64 1], rfl, bundRep H ⟨0, 2, 0⟩ (by constructor <;> decide) (by constructor <;> decide) (by constructor <;> decide), _, [], rfl, bundRep H ⟨1, 3, 1⟩ (by constructor <;> decide) (by constructor <;> decide) (by constructor <;> decide), rfl⟩ _ (by simp [exK, Enc.by_]) (by simp [exK])

set_option maxRecDepth 100000 in
set_option maxHeartbeats 4000000 in
theorem example9_any (H : Snap) (w : World) (hw : Holds H w) :
    Calls Tryz.prog 44 #[] w (Post w H fun v H' => ∃ vm vb vt vo ve um ub ut uo ue, v = .tuple #[halV vm vb vt vo ve exK, halV um ub ut uo ue exL] ∧ Hal H' vm vb vt vo ve exK ∧ Hal H' um ub ut uo ue exL) := by
  go_enter Tryz.func44, Tryz.ntmps44
  go_upto_region 1 with fail
  have hx0 := ((Ext.refl hw).alloc (.cells #[.slice none 0 0, .slice none 0 0, .slice none 0 0, .int .i64 0, .slice none 0 0, .slice none 0 0] 29)).alloc (.cells #[.slice none 0 0, .slice none 0 0, .slice none 0 0, .int .i64 0, .slice none 0 0, .slice none 0 0] 29)
  have hr0 : Rdy6 w.heap.size 29 ((w.alloc (.cells #[.slice none 0 0, .slice none 0 0, .slice none 0 0, .int .i64 0, .slice none 0 0, .slice none 0 0] 29)).alloc (.cells #[.slice none 0 0, .slice none 0 0, .slice none 0 0, .int .i64 0, .slice none 0 0, .slice none 0 0] 29)) := Rdy6.alloc ⟨_, _, _, _, _, _, heap_alloc_new _ _⟩ _
  have hr1 : Rdy6 (w.heap.size + 1) 29 ((w.alloc (.cells #[.slice none 0 0, .slice none 0 0, .slice none 0 0, .int .i64 0, .slice none 0 0, .slice none 0 0] 29)).alloc (.cells #[.slice none 0 0, .slice none 0 0, .slice none 0 0, .int .i64 0, .slice none 0 0, .slice none 0 0] 29)) := by
    have h := heap_alloc_new (w.alloc (.cells #[.slice none 0 0, .slice none 0 0, .slice none 0 0, .int .i64 0, .slice none 0 0, .slice none 0 0] 29)) (.cells #[.slice none 0 0, .slice none 0 0, .slice none 0 0, .int .i64 0, .slice none 0 0, .slice none 0 0] 29)
    rw [heap_alloc_size'] at h
    exact ⟨_, _, _, _, _, _, h⟩
  generalize ((w.alloc (.cells #[.slice none 0 0, .slice none 0 0, .slice none 0 0, .int .i64 0, .slice none 0 0, .slice none 0 0] 29)).alloc (.cells #[.slice none 0 0, .slice none 0 0, .slice none 0 0, .int .i64 0, .slice none 0 0, .slice none 0 0] 29)) = W0 at *
  have hg0 : w.heap.size ≤ w.heap.size := Nat.le_refl _
  have hg1 : w.heap.size ≤ w.heap.size + 1 := Nat.le_succ _
  have hn0 : H w.heap.size = none := hw.none_of_ge (Nat.le_refl _)
  have hn1 : H (w.heap.size + 1) = none := hw.none_of_ge (Nat.le_succ _)
  have hne : w.heap.size ≠ w.heap.size + 1 := by omega
  have hl0 := hr0.lt
  have hl1 := hr1.lt
  generalize hR0 : w.heap.size = R0 at *
  generalize hR1 : R0 + 1 = R1 at *
  have hrA : Rdy6 R0 29 (World.alloc (World.alloc (World.alloc (World.alloc (World.alloc (World.alloc (World.alloc W0 (.cells #[.int .i64 0, .int .i64 2, .int .i64 1, .int .i64 0, .int .i64 2, .int .i64 1] 97)) (.cells #[.int .i64 0, .int .i64 2, .int .i64 0, .int .i64 1, .int .i64 3, .int .i64 1] 120)) (.cells #[.int .i64 5, .int .i64 12] 3)) (.cells #[.int .i64 0, .int .i64 1] 3)) (.cells #[.int .i64 0, .int .i64 1] 3)) (.cells #[.int .i64 0, .int .i64 2] 3)) (.cells #[.slice (some ⟨W0.heap.size + 1 + 1 + 1 + 1, 0, none⟩) 2 2, .slice (some ⟨W0.heap.size + 1 + 1 + 1 + 1 + 1, 0, none⟩) 2 2] 24)) := (((((((hr0.alloc (.cells #[.int .i64 0, .int .i64 2, .int .i64 1, .int .i64 0, .int .i64 2, .int .i64 1] 97)).alloc (.cells #[.int .i64 0, .int .i64 2, .int .i64 0, .int .i64 1, .int .i64 3, .int .i64 1] 120)).alloc (.cells #[.int .i64 5, .int .i64 12] 3)).alloc (.cells #[.int .i64 0, .int .i64 1] 3)).alloc (.cells #[.int .i64 0, .int .i64 1] 3)).alloc (.cells #[.int .i64 0, .int .i64 2] 3)).alloc (.cells #[.slice (some ⟨W0.heap.size + 1 + 1 + 1 + 1, 0, none⟩) 2 2, .slice (some ⟨W0.heap.size + 1 + 1 + 1 + 1 + 1, 0, none⟩) 2 2] 24))
  have hrB : Rdy6 R1 29 (World.alloc (World.alloc (World.alloc (World.alloc (World.alloc (World.alloc (World.alloc W0 (.cells #[.int .i64 0, .int .i64 2, .int .i64 1, .int .i64 0, .int .i64 2, .int .i64 1] 97)) (.cells #[.int .i64 0, .int .i64 2, .int .i64 0, .int .i64 1, .int .i64 3, .int .i64 1] 120)) (.cells #[.int .i64 5, .int .i64 12] 3)) (.cells #[.int .i64 0, .int .i64 1] 3)) (.cells #[.int .i64 0, .int .i64 1] 3)) (.cells #[.int .i64 0, .int .i64 2] 3)) (.cells #[.slice (some ⟨W0.heap.size + 1 + 1 + 1 + 1, 0, none⟩) 2 2, .slice (some ⟨W0.heap.size + 1 + 1 + 1 + 1 + 1, 0, none⟩) 2 2] 24)) := (((((((hr1.alloc (.cells #[.int .i64 0, .int .i64 2, .int .i64 1, .int .i64 0, .int .i64 2, .int .i64 1] 97)).alloc (.cells #[.int .i64 0, .int .i64 2, .int .i64 0, .int .i64 1, .int .i64 3, .int .i64 1] 120)).alloc (.cells #[.int .i64 5, .int .i64 12] 3)).alloc (.cells #[.int .i64 0, .int .i64 1] 3)).alloc (.cells #[.int .i64 0, .int .i64 1] 3)).alloc (.cells #[.int .i64 0, .int .i64 2] 3)).alloc (.cells #[.slice (some ⟨W0.heap.size + 1 + 1 + 1 + 1, 0, none⟩) 2 2, .slice (some ⟨W0.heap.size + 1 + 1 + 1 + 1 + 1, 0, none⟩) 2 2] 24))
  obtain ⟨c0, hc0⟩ := hrA.cell 0 (by omega)
  obtain ⟨c1, hc1⟩ := hrA.cell 1 (by omega)
  obtain ⟨c2, hc2⟩ := hrA.cell 2 (by omega)
  obtain ⟨c3, hc3⟩ := hrA.cell 3 (by omega)
  obtain ⟨c4, hc4⟩ := hrA.cell 4 (by omega)
  obtain ⟨c5, hc5⟩ := hrA.cell 5 (by omega)
  have f0 := hrA.fz 0
  have f1 := hrA.fz 1
  have f2 := hrA.fz 2
  have f3 := hrA.fz 3
  have f4 := hrA.fz 4
  have f5 := hrA.fz 5
  obtain ⟨HM, lM, xM, sM⟩ := exKM_lit (Ext.refl hx0.holds)
  obtain ⟨HB, lB, xB, sB⟩ := exKB_lit xM
  obtain ⟨HT, lT, xT, sT⟩ := ints_lit2 xB 5 12 (by constructor <;> decide) (by constructor <;> decide)
  obtain ⟨HO, lO, xO, sO⟩ := ints_lit2 xT 0 1 (by constructor <;> decide) (by constructor <;> decide)
  obtain ⟨H5, l5, x5, s5⟩ := ints_lit2 xO 0 1 (by constructor <;> decide) (by constructor <;> decide)
  obtain ⟨H6, l6, x6, s6⟩ := ints_lit2 x5 0 2 (by constructor <;> decide) (by constructor <;> decide)
  simp only [heap_alloc_size'] at sB sT sO s5 s6
  obtain ⟨HE, lE, xE, sE⟩ := lists_lit2 x6 (s5.mono l6) s6
  simp only [heap_alloc_size'] at sE
  have l6E := l6.trans lE
  have l5E := l5.trans l6E
  have lOE := lO.trans l5E
  have lTE := lT.trans lOE
  have lBE := lB.trans lTE
  have hK : Hal HE (.slice (some ⟨W0.heap.size, 0, none⟩) 2 2) (.slice (some ⟨W0.heap.size + 1, 0, none⟩) 2 2) (.slice (some ⟨W0.heap.size + 1 + 1, 0, none⟩) 2 2) (.slice (some ⟨W0.heap.size + 1 + 1 + 1, 0, none⟩) 2 2) (.slice (some ⟨W0.heap.size + 1 + 1 + 1 + 1 + 1 + 1, 0, none⟩) 2 2) exK := ⟨⟨sM.mono lBE, sB.mono lTE, sT.mono lOE, by decide⟩, sO.mono l5E, sE⟩
  have hNE0 : HE R0 = none := (xE.same R0 hl0).trans hn0
  have hNE1 : HE R1 = none := (xE.same R1 hl1).trans hn1
  have xA := hx0.trans xE
  clear sM sB sT sO s5 s6 sE lM lB lT lO l5 l6 lE l6E l5E lOE lTE lBE xM xB xT xO x5 x6
  go_upto_region 2 with fail
  have x7 : Ext w H ((World.setCell (World.setCell (World.setCell (World.setCell (World.setCell (World.setCell (World.alloc (World.alloc (World.alloc (World.alloc (World.alloc (World.alloc (World.alloc W0 (.cells #[.int .i64 0, .int .i64 2, .int .i64 1, .int .i64 0, .int .i64 2, .int .i64 1] 97)) (.cells #[.int .i64 0, .int .i64 2, .int .i64 0, .int .i64 1, .int .i64 3, .int .i64 1] 120)) (.cells #[.int .i64 5, .int .i64 12] 3)) (.cells #[.int .i64 0, .int .i64 1] 3)) (.cells #[.int .i64 0, .int .i64 1] 3)) (.cells #[.int .i64 0, .int .i64 2] 3)) (.cells #[.slice (some ⟨W0.heap.size + 1 + 1 + 1 + 1, 0, none⟩) 2 2, .slice (some ⟨W0.heap.size + 1 + 1 + 1 + 1 + 1, 0, none⟩) 2 2] 24)) ⟨R0, 0, none⟩ (.slice (some ⟨W0.heap.size, 0, none⟩) 2 2)) ⟨R0, 1, none⟩ (.slice (some ⟨W0.heap.size + 1, 0, none⟩) 2 2)) ⟨R0, 2, none⟩ (.slice (some ⟨W0.heap.size + 1 + 1, 0, none⟩) 2 2)) ⟨R0, 3, none⟩ (.int .i64 2)) ⟨R0, 4, none⟩ (.slice (some ⟨W0.heap.size + 1 + 1 + 1, 0, none⟩) 2 2)) ⟨R0, 5, none⟩ (.slice (some ⟨W0.heap.size + 1 + 1 + 1 + 1 + 1 + 1, 0, none⟩) 2 2))) HE := xA.set6 (by rw [hR0]; exact hg0) hNE0 _ _ _ _ _ _
  have row7 : ((World.setCell (World.setCell (World.setCell (World.setCell (World.setCell (World.setCell (World.alloc (World.alloc (World.alloc (World.alloc (World.alloc (World.alloc (World.alloc W0 (.cells #[.int .i64 0, .int .i64 2, .int .i64 1, .int .i64 0, .int .i64 2, .int .i64 1] 97)) (.cells #[.int .i64 0, .int .i64 2, .int .i64 0, .int .i64 1, .int .i64 3, .int .i64 1] 120)) (.cells #[.int .i64 5, .int .i64 12] 3)) (.cells #[.int .i64 0, .int .i64 1] 3)) (.cells #[.int .i64 0, .int .i64 1] 3)) (.cells #[.int .i64 0, .int .i64 2] 3)) (.cells #[.slice (some ⟨W0.heap.size + 1 + 1 + 1 + 1, 0, none⟩) 2 2, .slice (some ⟨W0.heap.size + 1 + 1 + 1 + 1 + 1, 0, none⟩) 2 2] 24)) ⟨R0, 0, none⟩ (.slice (some ⟨W0.heap.size, 0, none⟩) 2 2)) ⟨R0, 1, none⟩ (.slice (some ⟨W0.heap.size + 1, 0, none⟩) 2 2)) ⟨R0, 2, none⟩ (.slice (some ⟨W0.heap.size + 1 + 1, 0, none⟩) 2 2)) ⟨R0, 3, none⟩ (.int .i64 2)) ⟨R0, 4, none⟩ (.slice (some ⟨W0.heap.size + 1 + 1 + 1, 0, none⟩) 2 2)) ⟨R0, 5, none⟩ (.slice (some ⟨W0.heap.size + 1 + 1 + 1 + 1 + 1 + 1, 0, none⟩) 2 2))).heap[R0]? = some (.cells #[.slice (some ⟨W0.heap.size, 0, none⟩) 2 2, .slice (some ⟨W0.heap.size + 1, 0, none⟩) 2 2, .slice (some ⟨W0.heap.size + 1 + 1, 0, none⟩) 2 2, .int .i64 2, .slice (some ⟨W0.heap.size + 1 + 1 + 1, 0, none⟩) 2 2, .slice (some ⟨W0.heap.size + 1 + 1 + 1 + 1 + 1 + 1, 0, none⟩) 2 2] 29 (0, 0)) := hrA.row _ _ _ _ _ _
  have rB7 : Rdy6 R1 29 ((World.setCell (World.setCell (World.setCell (World.setCell (World.setCell (World.setCell (World.alloc (World.alloc (World.alloc (World.alloc (World.alloc (World.alloc (World.alloc W0 (.cells #[.int .i64 0, .int .i64 2, .int .i64 1, .int .i64 0, .int .i64 2, .int .i64 1] 97)) (.cells #[.int .i64 0, .int .i64 2, .int .i64 0, .int .i64 1, .int .i64 3, .int .i64 1] 120)) (.cells #[.int .i64 5, .int .i64 12] 3)) (.cells #[.int .i64 0, .int .i64 1] 3)) (.cells #[.int .i64 0, .int .i64 1] 3)) (.cells #[.int .i64 0, .int .i64 2] 3)) (.cells #[.slice (some ⟨W0.heap.size + 1 + 1 + 1 + 1, 0, none⟩) 2 2, .slice (some ⟨W0.heap.size + 1 + 1 + 1 + 1 + 1, 0, none⟩) 2 2] 24)) ⟨R0, 0, none⟩ (.slice (some ⟨W0.heap.size, 0, none⟩) 2 2)) ⟨R0, 1, none⟩ (.slice (some ⟨W0.heap.size + 1, 0, none⟩) 2 2)) ⟨R0, 2, none⟩ (.slice (some ⟨W0.heap.size + 1 + 1, 0, none⟩) 2 2)) ⟨R0, 3, none⟩ (.int .i64 2)) ⟨R0, 4, none⟩ (.slice (some ⟨W0.heap.size + 1 + 1 + 1, 0, none⟩) 2 2)) ⟨R0, 5, none⟩ (.slice (some ⟨W0.heap.size + 1 + 1 + 1 + 1 + 1 + 1, 0, none⟩) 2 2))) := hrB.off6 (Ne.symm hne) _ _ _ _ _ _
  clear hrA hrB hc0 hc1 hc2 hc3 hc4 hc5 f0 f1 f2 f3 f4 f5 xA xE hx0 hr0 hr1
  generalize (World.setCell (World.setCell (World.setCell (World.setCell (World.setCell (World.setCell (World.alloc (World.alloc (World.alloc (World.alloc (World.alloc (World.alloc (World.alloc W0 (.cells #[.int .i64 0, .int .i64 2, .int .i64 1, .int .i64 0, .int .i64 2, .int .i64 1] 97)) (.cells #[.int .i64 0, .int .i64 2, .int .i64 0, .int .i64 1, .int .i64 3, .int .i64 1] 120)) (.cells #[.int .i64 5, .int .i64 12] 3)) (.cells #[.int .i64 0, .int .i64 1] 3)) (.cells #[.int .i64 0, .int .i64 1] 3)) (.cells #[.int .i64 0, .int .i64 2] 3)) (.cells #[.slice (some ⟨W0.heap.size + 1 + 1 + 1 + 1, 0, none⟩) 2 2, .slice (some ⟨W0.heap.size + 1 + 1 + 1 + 1 + 1, 0, none⟩) 2 2] 24)) ⟨R0, 0, none⟩ (.slice (some ⟨W0.heap.size, 0, none⟩) 2 2)) ⟨R0, 1, none⟩ (.slice (some ⟨W0.heap.size + 1, 0, none⟩) 2 2)) ⟨R0, 2, none⟩ (.slice (some ⟨W0.heap.size + 1 + 1, 0, none⟩) 2 2)) ⟨R0, 3, none⟩ (.int .i64 2)) ⟨R0, 4, none⟩ (.slice (some ⟨W0.heap.size + 1 + 1 + 1, 0, none⟩) 2 2)) ⟨R0, 5, none⟩ (.slice (some ⟨W0.heap.size + 1 + 1 + 1 + 1 + 1 + 1, 0, none⟩) 2 2)) = W7 at *
  generalize (Value.slice (some ⟨W0.heap.size, 0, none⟩) 2 2) = vm at *
  generalize (Value.slice (some ⟨W0.heap.size + 1, 0, none⟩) 2 2) = vb at *
  generalize (Value.slice (some ⟨W0.heap.size + 1 + 1, 0, none⟩) 2 2) = vt at *
  generalize (Value.slice (some ⟨W0.heap.size + 1 + 1 + 1, 0, none⟩) 2 2) = vo at *
  generalize (Value.slice (some ⟨W0.heap.size + 1 + 1 + 1 + 1 + 1 + 1, 0, none⟩) 2 2) = ve at *
  have hw7 := x7.holds
  obtain ⟨am, cm, rfl, _, _⟩ := hK.hs.m.form
  obtain ⟨ab, cb, rfl, _, _⟩ := hK.hs.b.form
  obtain ⟨at', ct, rfl, _, _⟩ := hK.hs.t.form
  obtain ⟨ao, co, rfl, _, _⟩ := hK.bo.form
  obtain ⟨ae, ce, rfl, _, _⟩ := hK.ed.form
  have k0 := cell_of_row W7 R0 0 _ _ _ row7
  have k1 := cell_of_row W7 R0 1 _ _ _ row7
  have k2 := cell_of_row W7 R0 2 _ _ _ row7
  have k3 := cell_of_row W7 R0 3 _ _ _ row7
  have k4 := cell_of_row W7 R0 4 _ _ _ row7
  have k5 := cell_of_row W7 R0 5 _ _ _ row7
  simp at k0 k1 k2 k3 k4 k5
  have i0 := setCell_id (w := W7.drew) k0
  have i1 := setCell_id (w := W7.drew) k1
  have i2 := setCell_id (w := W7.drew) k2
  have i3 := setCell_id (w := W7.drew) k3
  have i4 := setCell_id (w := W7.drew) k4
  have i5 := setCell_id (w := W7.drew) k5
  have hfz7 : ∀ i, W7.frozen? ⟨R0, i, none⟩ = false := fun i => by simp [World.frozen?, row7]
  have f0 := hfz7 0
  have f1 := hfz7 1
  have f2 := hfz7 2
  have f3 := hfz7 3
  have f4 := hfz7 4
  have f5 := hfz7 5
  have hl7 : R0 < W7.heap.size := (Array.getElem?_eq_some_iff.1 row7).1
  have hl71 := rB7.lt
  have hcall : ∀ W, Holds HE W → Calls Tryz.prog 52 #[.agg #[.slice am exK.hs.ms.length cm, .slice ab exK.hs.bs.length cb, .slice at' exK.hs.ts.length ct, .int .i64 2, .slice ao exK.bo.length co, .slice ae exK.ed.length ce], .int .i64 1, .int .i64 0] W (PostHal W HE exL) := fun W hW => bored9_any _ _ _ _ _ exK 1 0 (by decide) (by decide) HE W hW hK (by decide) (by decide)
  replace hcall := Lib.hid hcall
  replace row7 := Lib.hid row7
  clear hfz7
  go_region_with (go_at_call 52; refine (hcall.out _ (by first | exact hw7.drew | exact hw7)).mono ?_; rintro e w9 ⟨um, ub, ut, uo, ue, H9, rfl, x9, h9⟩; obtain ⟨bm, dm, rfl, _, _⟩ := h9.hs.m.form; obtain ⟨bb, db, rfl, _, _⟩ := h9.hs.b.form; obtain ⟨bt, dt, rfl, _, _⟩ := h9.hs.t.form; obtain ⟨bo, do_, rfl, _, _⟩ := h9.bo.form; obtain ⟨be, de, rfl, _, _⟩ := h9.ed.form; have row9 : w9.heap[R0]? = _ := (x9.below.block R0 hl7).trans row7.out; have rB9 := Rdy6.below (Rdy6.drew rB7) x9.below hl71; have q0 := cell_of_row w9 R0 0 _ _ _ row9; have q1 := cell_of_row w9 R0 1 _ _ _ row9; have q2 := cell_of_row w9 R0 2 _ _ _ row9; have q3 := cell_of_row w9 R0 3 _ _ _ row9; have q4 := cell_of_row w9 R0 4 _ _ _ row9; have q5 := cell_of_row w9 R0 5 _ _ _ row9; simp at q0 q1 q2 q3 q4 q5; have j0 := setCell_id q0; have g0 : w9.frozen? ⟨R0, 0, none⟩ = false := (by simp [World.frozen?, row9]); have j1 := setCell_id q1; have g1 : w9.frozen? ⟨R0, 1, none⟩ = false := (by simp [World.frozen?, row9]); have j2 := setCell_id q2; have g2 : w9.frozen? ⟨R0, 2, none⟩ = false := (by simp [World.frozen?, row9]); have j3 := setCell_id q3; have g3 : w9.frozen? ⟨R0, 3, none⟩ = false := (by simp [World.frozen?, row9]); have j4 := setCell_id q4; have g4 : w9.frozen? ⟨R0, 4, none⟩ = false := (by simp [World.frozen?, row9]); have j5 := setCell_id q5; have g5 : w9.frozen? ⟨R0, 5, none⟩ = false := (by simp [World.frozen?, row9]); obtain ⟨b0, hb0⟩ := rB9.cell 0 (by omega); have n0 := rB9.fz 0; obtain ⟨b1, hb1⟩ := rB9.cell 1 (by omega); have n1 := rB9.fz 1; obtain ⟨b2, hb2⟩ := rB9.cell 2 (by omega); have n2 := rB9.fz 2; obtain ⟨b3, hb3⟩ := rB9.cell 3 (by omega); have n3 := rB9.fz 3; obtain ⟨b4, hb4⟩ := rB9.cell 4 (by omega); have n4 := rB9.fz 4; obtain ⟨b5, hb5⟩ := rB9.cell 5 (by omega); have n5 := rB9.fz 5; replace row9 := Lib.hid row9)
  all_goals
    go_wp2
    have hg1' : w.heap.size ≤ R1 := by rw [hR0]; exact hg1
    have hN9 : H9 R1 = none := (x9.same R1 hl71).trans hNE1
    have xF := ((x7.drew).trans x9).set6 hg1' hN9 (.slice bm exL.hs.ms.length dm) (.slice bb exL.hs.bs.length db) (.slice bt exL.hs.ts.length dt) (.int .i64 exL.hs.ch) (.slice bo exL.bo.length do_) (.slice be exL.ed.length de)
    have rF := rB9.row (.slice bm exL.hs.ms.length dm) (.slice bb exL.hs.bs.length db) (.slice bt exL.hs.ts.length dt) (.int .i64 exL.hs.ch) (.slice bo exL.bo.length do_) (.slice be exL.ed.length de)
    have r0F : (set6 w9 R1 (.slice bm exL.hs.ms.length dm) (.slice bb exL.hs.bs.length db) (.slice bt exL.hs.ts.length dt) (.int .i64 exL.hs.ch) (.slice bo exL.bo.length do_) (.slice be exL.ed.length de)).heap[R0]? = some (.cells #[.slice am exK.hs.ms.length cm, .slice ab exK.hs.bs.length cb, .slice at' exK.hs.ts.length ct, .int .i64 2, .slice ao exK.bo.length co, .slice ae exK.ed.length ce] 29 (0, 0)) := by
      unfold set6
      rw [heap_setCell_ne _ _ _ hne, heap_setCell_ne _ _ _ hne, heap_setCell_ne _ _ _ hne, heap_setCell_ne _ _ _ hne, heap_setCell_ne _ _ _ hne, heap_setCell_ne _ _ _ hne]
      exact row9.out
    refine bodyPost_ret (results_cell_row2 rfl _ _ R0 R1 29 29 _ _ (0, 0) (0, 0) _ _ rfl rfl r0F rF Tryz.underlying29 rfl (by kernel_rfl) Tryz.underlying29 rfl (by kernel_rfl)) rfl ?_
    exact ⟨_, H9, rfl, xF, _, _, _, _, _, _, _, _, _, _, rfl, hK.mono (x9.le hw7.drew), h9⟩

end Go.Proofs.YtngdppajailpcaaGreat
