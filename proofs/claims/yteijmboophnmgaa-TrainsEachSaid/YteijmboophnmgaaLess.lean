/- The walks of flonglaw04: short (at plans), Less. -/
import Derived.Test.YteijmboophnmgaaLTold
import Derived.Test.YteijmboophnmgaaEachP
namespace Go.Proofs.Yteijmboophnmgaa
open Go.RowKit

attribute [local go_sem] Holds.drew Holds.alloc Holds.drewN WB.holds

theorem lexL_at : ∀ {xs ys : List Int} {k : Nat} {x y : Int}, xs.take k = ys.take k → At xs k x → At ys k y → x ≠ y → lexL xs ys = decide (x < y)
  | [], _, k, x, _, _, h, _, _ => by simp [At] at h
  | _ :: _, [], _, _, _, _, _, h, _ => by simp [At] at h
  | a :: xs, b :: ys, 0, x, y, _, h1, h2, hne => by
    simp [At] at h1 h2; subst h1; subst h2; simp [lexL, hne]
  | a :: xs, b :: ys, k + 1, x, y, he, h1, h2, hne => by
    simp only [List.take_succ_cons, List.cons.injEq] at he
    simp only [At, List.getElem?_cons_succ] at h1 h2
    rw [lexL, if_pos he.1]
    exact lexL_at he.2 h1 h2 hne
theorem lexL_pre : ∀ {xs ys : List Int} {k : Nat}, xs.take k = ys.take k → (xs.length ≤ k ∨ ys.length ≤ k) → xs.length ≠ ys.length → lexL xs ys = decide (xs.length < ys.length)
  | [], [], _, _, _, h => by simp at h
  | [], _ :: _, _, _, _, _ => by simp [lexL]
  | _ :: _, [], _, _, _, _ => by simp [lexL]
  | a :: xs, b :: ys, 0, _, h, _ => by simp at h
  | a :: xs, b :: ys, k + 1, he, h, hn => by
    simp only [List.take_succ_cons, List.cons.injEq] at he
    rw [lexL, if_pos he.1, lexL_pre he.2 (by simpa using h) (by simpa using hn)]
    simp
theorem lessP_at : ∀ {a b : List (List Int)} {k : Nat} {x y : List Int}, a.take k = b.take k → At a k x → At b k y → x ≠ y → lessP a b = lexL x y
  | [], _, k, x, _, _, h, _, _ => by simp [At] at h
  | _ :: _, [], _, _, _, _, _, h, _ => by simp [At] at h
  | u :: a, v :: b, 0, x, y, _, h1, h2, hne => by
    simp [At] at h1 h2; subst h1; subst h2; simp [lessP, hne]
  | u :: a, v :: b, k + 1, x, y, he, h1, h2, hne => by
    simp only [List.take_succ_cons, List.cons.injEq] at he
    simp only [At, List.getElem?_cons_succ] at h1 h2
    rw [lessP, if_pos he.1]
    exact lessP_at he.2 h1 h2 hne

set_option maxRecDepth 100000 in
set_option maxHeartbeats 4000000 in
theorem short_any (vm vb vt vp : Value) (h : House) (p : List (List Int)) (hpl : isPlan h p = true) (H : Snap) (w : World) (hw : Holds H w) (hh : Hou H vm vb vt h) (hp : Sl H vp p) :
    Calls Try.prog 62 #[houV vm vb vt h, vp] w (PostV w (.bool true)) := by
  obtain ⟨am, cm, rfl, _, _⟩ := hh.m.form
  obtain ⟨ab, cb, rfl, _, _⟩ := hh.b.form
  obtain ⟨ap, cp, rfl, _, _⟩ := hp.form
  have hlen := (isPlan_iff.1 hpl).1
  have hone := fun k l hl => @isPlan_one h p hpl k l hl
  have hlenI : ¬ ((h.ms.length : Int) < (p.length : Int)) := by omega
  have hlenN : ¬ (h.ms.length < p.length) := by omega
  clear hpl
  go_enter Try.func62, Try.ntmps62
  go_wp2_with (first | (refine wpList_boxF rfl _ rfl (Ext.refl hw) ?_; intro B w1 H1 hle hx hB hBw; obtain ⟨hc0, hc1, hc2, hc3⟩ := cellsHou hB; clear hB hw; have hw1 := hx.holds))
  have hpm := hp.mono hle
  go_loopw [5] (fun i wr => ∃ k : Nat, k ≤ p.length ∧ i = .int .i64 k ∧ Ext w H wr H1) (fun i _ => p.length - (intOf i).toNat)
  case atStart => exact ⟨0, Nat.zero_le _, rfl, hx⟩
  case round =>
    clear hx hw1
    obtain ⟨k, hk, rfl, hxr⟩ := hrel
    have hwr := hxr.holds
    by_cases hlk : k < p.length
    · obtain ⟨l, hl⟩ := At.mk hlk
      obtain ⟨b, o, c, u, he, hu, hr⟩ := hpm.list hl
      cases he
      obtain ⟨au, cu, rfl, _, _⟩ := hu.form
      have hle2 := hone k l hl
      have hle2I : ¬ ((h.bs.length : Int) < (l.length : Int)) := by omega
      have hle2N : ¬ (h.bs.length < l.length) := by omega
      go_upto_region 6 with fail
      refine wp_region_quietB H1 (by kernel_rfl) (by kernel_rfl) hwr (fun hne => ?_)
      repeat go_big_quiet_step ((first | fail))
      refine wpQuiet_nil ?_
      rintro ⟨w2, hw2, hb2⟩
      clear hne
      go_wp2_with fail
      go_roundw
      case rel => exact ⟨k + 1, by omega, by go_num, hxr.step (hb2.mono hxr.below.size) hw2⟩
      case measure => simp [intOf]; omega
    · go_wp2_with fail
      go_ret
      exact ⟨rfl, hxr.below⟩

set_option maxRecDepth 100000 in
set_option maxHeartbeats 8000000 in
theorem less_any (va vb : Value) (a b : List (List Int)) (hab : a.length = b.length) (H : Snap) (w : World) (hw : Holds H w) (ha : Sl H va a) (hb : Sl H vb b) :
    Calls Try.prog 64 #[va, vb] w (PostV w (.bool (lessP a b))) := by
  obtain ⟨aa, ca, rfl, _, _⟩ := ha.form
  obtain ⟨ab, cb, rfl, _, _⟩ := hb.form
  replace hab := Lib.hid hab
  obtain ⟨res, hres⟩ : ∃ r, Hid (r = lessP a b) := ⟨_, rfl⟩
  rw [← hres.out]
  go_enter Try.func64, Try.ntmps64
  go_wp2
  go_loopw [5] (fun i wr => ∃ k : Nat, k ≤ a.length ∧ i = .int .i64 k ∧ Hid (a.take k = b.take k) ∧ Ext w H wr H) (fun i _ => a.length - (intOf i).toNat)
  case atStart => exact ⟨0, Nat.zero_le _, rfl, rfl, Ext.refl hw⟩
  case round =>
    obtain ⟨k, hk, rfl, hok, hxr⟩ := hrel
    have hwr := hxr.holds
    by_cases hlk : k < a.length
    · have hlkb : k < b.length := by have := hab.out; omega
      obtain ⟨x, hx⟩ := At.mk hlk
      obtain ⟨y, hy⟩ := At.mk hlkb
      obtain ⟨b1, o1, c1, u1, he, hu1, hr1⟩ := ha.list hx
      cases he
      obtain ⟨b2, o2, c2, u2, he, hu2, hr2⟩ := hb.list hy
      cases he
      obtain ⟨q1, e1, rfl, _, _⟩ := hu1.form
      obtain ⟨q2, e2, rfl, _, _⟩ := hu2.form
      have hk0 : 0 ≤ (k : Int) := by omega
      have hk1 : (k : Int) < (a.length : Int) := by omega
      have hk2 : (k : Int) < (b.length : Int) := by have := hab.out; omega
      go_wp2_with fail
      go_loopw [6] (fun i wr => ∃ j : Nat, j ≤ x.length ∧ j ≤ y.length ∧ i = .int .i64 j ∧ Hid (x.take j = y.take j) ∧ Ext w H wr H) (fun i _ => x.length - (intOf i).toNat)
      case atStart => exact ⟨0, Nat.zero_le _, Nat.zero_le _, rfl, rfl, hxr⟩
      case round =>
        clear hxr hwr
        obtain ⟨j, hj1, hj2, rfl, hokj, hxr⟩ := hrel
        have hwr := hxr.holds
        rcases Classical.em ((y.length : Int) < (x.length : Int)) with hyx | hyx
        all_goals
          by_cases hlt : j < x.length ∧ j < y.length
          · obtain ⟨hl1, hl2⟩ := hlt
            obtain ⟨z1, hz1⟩ := At.mk hl1
            obtain ⟨z2, hz2⟩ := At.mk hl2
            obtain ⟨b3, o3, c3, he, hi3, hr3⟩ := hu1.int hz1
            cases he
            obtain ⟨b4, o4, c4, he, hi4, hr4⟩ := hu2.int hz2
            cases he
            have hj0 : 0 ≤ (j : Int) := by omega
            have hj1' : (j : Int) < (x.length : Int) := by omega
            have hj2' : (j : Int) < (y.length : Int) := by omega
            have hmin : (j : Int) < (if (y.length : Int) < (x.length : Int) then (y.length : Int) else (x.length : Int)) := by split <;> omega
            go_upto_region 5 with fail
            refine wp_region_quietB H (by kernel_rfl) (by kernel_rfl) hwr (fun hne => ?_)
            repeat go_big_quiet_step ((first | fail))
            refine wpQuiet_nil ?_
            rintro ⟨w2, hw2, hb2⟩
            clear hne
            replace hxr := hxr.step (hb2.mono hxr.below.size) hw2
            clear hwr
            go_wp2_with fail
            refine wp_region_quietB H (by kernel_rfl) (by kernel_rfl) hw2 (fun hne => ?_)
            repeat go_big_quiet_step (fail)
            refine wpQuiet_nil ?_
            rintro ⟨w3, hw3, hb3⟩
            clear hne
            replace hxr := hxr.step (hb3.mono hxr.below.size) hw3
            cases hne : (z1 != z2)
            · have hz : z1 = z2 := by simpa using hne
              go_wp2_with fail
              go_roundw
              case rel => exact ⟨j + 1, by omega, by omega, by go_num, by show _ = _; rw [hz1.take, hz2.take, hokj.out, hz], hxr⟩
              case measure => simp [intOf]; omega
            · have hz : z1 ≠ z2 := by simpa using hne
              go_wp2_with fail
              refine wp_region_quietB H (by kernel_rfl) (by kernel_rfl) hw3 (fun hne => ?_)
              repeat go_big_quiet_step (fail)
              refine wpQuiet_nil ?_
              rintro ⟨w4, hw4, hb4⟩
              clear hne
              go_wp2_with fail
              go_ret
              refine ⟨ret_bool ?_, (hxr.step (hb4.mono hxr.below.size) hw4).below⟩
              have hxy : x ≠ y := hz1.ne hz2 hz
              rw [hres.out, lessP_at hok.out hx hy hxy, lexL_at hokj.out hz1 hz2 hz]
          · have hmin : ¬ ((j : Int) < (if (y.length : Int) < (x.length : Int) then (y.length : Int) else (x.length : Int))) := by split <;> omega
            go_upto_region 5 with fail
            refine wp_region_quietB H (by kernel_rfl) (by kernel_rfl) hwr (fun hne => ?_)
            repeat go_big_quiet_step ((first | fail))
            refine wpQuiet_nil ?_
            rintro ⟨w2, hw2, hb2⟩
            clear hne
            replace hxr := hxr.step (hb2.mono hxr.below.size) hw2
            clear hwr
            go_wp2_with fail
            refine wp_region_quietB H (by kernel_rfl) (by kernel_rfl) hw2 (fun hne => ?_)
            repeat go_big_quiet_step (fail)
            refine wpQuiet_nil ?_
            rintro ⟨w3, hw3, hb3⟩
            clear hne
            replace hxr := hxr.step (hb3.mono hxr.below.size) hw3
            cases hne : ((x.length : Int) != (y.length : Int))
            · have hz : x.length = y.length := by have := bne_eq_false_iff_eq.1 hne; omega
              have hxy : x = y := by
                have := hokj.out
                rw [List.take_of_length_le (by omega), List.take_of_length_le (by omega)] at this
                exact this
              go_wp2_with fail
              go_roundw
              case rel => exact ⟨k + 1, by omega, by go_num, by show _ = _; rw [hx.take, hy.take, hok.out, hxy], hxr⟩
              case measure => simp [intOf]; omega
            · have hz : x.length ≠ y.length := by intro e; rw [e] at hne; simp at hne
              go_wp2_with fail
              refine wp_region_quietB H (by kernel_rfl) (by kernel_rfl) hw3 (fun hne => ?_)
              repeat go_big_quiet_step (fail)
              refine wpQuiet_nil ?_
              rintro ⟨w4, hw4, hb4⟩
              clear hne
              go_wp2_with fail
              go_ret
              refine ⟨ret_bool ?_, (hxr.step (hb4.mono hxr.below.size) hw4).below⟩
              have hxy : x ≠ y := fun e => hz (by rw [e])
              rw [hres.out, lessP_at hok.out hx hy hxy, lexL_pre hokj.out (by omega) hz]
    · go_wp2_with fail
      go_ret
      refine ⟨ret_bool ?_, hxr.below⟩
      have h1 : a.take k = b.take k := hok.out
      rw [List.take_of_length_le (by omega), List.take_of_length_le (by have := hab.out; omega)] at h1
      rw [hres.out, h1, lessP_self]

end Go.Proofs.Yteijmboophnmgaa
