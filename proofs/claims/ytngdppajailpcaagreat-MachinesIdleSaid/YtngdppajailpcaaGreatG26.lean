/- Lemmas and walks on which the claims of this seat lean: MGr1 MGrP MGr2 MGr3 MGr4 MGr5 MSame. -/
import Derived.Test.YtngdppajailpcaaGreatG08
import Derived.Test.YtngdppajailpcaaGreatG16
import Derived.Test.YtngdppajailpcaaGreatG17
import Derived.Test.YtngdppajailpcaaGreatG19
import Derived.Test.YtngdppajailpcaaGreatG20
import Derived.Test.YtngdppajailpcaaGreatG21
import Derived.Test.YtngdppajailpcaaGreatG23
import Derived.Test.YtngdppajailpcaaGreatG24
import Derived.Lib.MinMax

set_option linter.all false

namespace Go.Proofs.YtngdppajailpcaaGreat
open Go.RowKit

attribute [local go_sem] Holds.drew Holds.alloc Holds.drewN WB.holds Oper.semAt_some FW_fn FW_dep FW_round

/-- How many of the first k places are missing. -/
def missTo (hv nd : Cnt) : Nat → Int
  | 0 => 0
  | k + 1 => missTo hv nd k + max 0 (gT nd k - gT hv k)
theorem missTo_bd {hv nd : Cnt} (h1 : Cn hv) (h2 : Cn nd) : ∀ k, k ≤ 12 → 0 ≤ missTo hv nd k ∧ missTo hv nd k ≤ 1000 * k
  | 0, _ => ⟨by simp [missTo], by simp [missTo]⟩
  | k + 1, hk => by
    have ih := missTo_bd h1 h2 k (by omega)
    have a := (h1.gt (show k < 12 by omega)).2
    have b := (h2.gt (show k < 12 by omega)).2
    unfold missTo
    omega
theorem missTo_zero {hv nd : Cnt} (h1 : Cn hv) (h2 : Cn nd) : ∀ k, k ≤ 12 → (missTo hv nd k = 0 ↔ ∀ j, j < k → gT nd j ≤ gT hv j)
  | 0, _ => by simp [missTo]
  | k + 1, hk => by
    have ih := missTo_zero h1 h2 k (by omega)
    have hb := missTo_bd h1 h2 k (by omega)
    constructor
    · intro h j hj
      unfold missTo at h
      have h0 : missTo hv nd k = 0 := by omega
      by_cases e : j = k
      · subst e; omega
      · exact ih.1 h0 j (by omega)
    · intro h
      have h0 := ih.2 fun j hj => h j (by omega)
      have := h k (by omega)
      unfold missTo
      omega
theorem miss_zero {hv nd : Cnt} (h1 : Cn hv) (h2 : Cn nd) : (missTo hv nd 12 == 0) = cntLe nd hv := by
  rw [Bool.eq_iff_iff, beq_iff_eq, missTo_zero h1 h2 12 (by omega), cntLe_iff h2.len h1.len]
  exact Iff.rfl

set_option maxRecDepth 100000 in
set_option maxHeartbeats 4000000 in
theorem missing9_any (va vb : Value) (hv nd : Cnt) (h1 : Cn hv) (h2 : Cn nd) (H : Snap) (w : World) (hw : Holds H w) (ha : Sl H va hv) (hb : Sl H vb nd) :
    Calls Tryz.prog 100 #[va, vb] w (PostV w (.int .i64 (missTo hv nd 12))) := by
  obtain ⟨aa, ca, rfl, ha1, ha2⟩ := ha.form
  obtain ⟨ab, cb, rfl, hb1, hb2⟩ := hb.form
  have hl1 := h1.len
  have hl2 := h2.len
  rw [hl1] at ha
  rw [hl2] at hb
  rw [hl1, hl2]
  replace hl1 := Lib.hid hl1
  replace hl2 := Lib.hid hl2
  go_enter Tryz.func100, Tryz.ntmps100
  go_wp2
  go_loopw [5, 6] (fun n i wr => ∃ k : Nat, k ≤ 12 ∧ i = .int .i64 k ∧ n = .int .i64 (missTo hv nd k) ∧ Ext w H wr H) (fun _ i _ => 12 - (intOf i).toNat)
  case atStart => exact ⟨0, Nat.zero_le _, rfl, rfl, Ext.refl hw⟩
  case round =>
    obtain ⟨k, hk, rfl, rfl, hxr⟩ := hrel
    have hwr := hxr.holds
    by_cases hlt : k < 12
    · have hA : At hv k (gT hv k) := (h1.gt hlt).1
      have hB : At nd k (gT nd k) := (h2.gt hlt).1
      have b1 := (h1.gt hlt).2
      have b2 := (h2.gt hlt).2
      have b3 := missTo_bd h1 h2 k hk
      obtain ⟨b, o, c', he, hi, hr⟩ := ha.int hA
      rw [hl1.out] at he
      cases he
      obtain ⟨b', o', c'', he, hi', hr'⟩ := hb.int hB
      rw [hl2.out] at he
      cases he
      have hsucc : Hid (missTo hv nd (k + 1) = missTo hv nd k + max 0 (gT nd k - gT hv k)) := rfl
      generalize missTo hv nd k = z at *
      generalize gT hv k = x at *
      generalize gT nd k = y at *
      have hk0 : (0 : Int) ≤ (k : Int) := by omega
      have hk1 : (k : Int) < 12 := by omega
      have w1 : IntKind.i64.wrap (y - x) = y - x := by rw [IntKind.wrap_i64]; omega
      have w2 : IntKind.i64.wrap (z + max 0 (y - x)) = z + max 0 (y - x) := by rw [IntKind.wrap_i64]; omega
      go_upto_region 5 with fail
      refine wp_region_quietB H (by kernel_rfl) (by kernel_rfl) hwr (fun hne => ?_)
      repeat go_big_quiet_step ((first | fail))
      refine wpQuiet_nil ?_
      rintro ⟨w2, hw2, hb2⟩
      clear hne
      go_wp2
      go_roundw
      case rel => exact ⟨k + 1, by omega, by go_num, by rw [hsucc.out], hxr.step (hb2.mono hxr.below.size) hw2⟩
      case measure => simp [intOf]; omega
    · obtain rfl : k = 12 := by omega
      go_wp2
      go_ret
      exact ⟨rfl, hxr.below⟩

set_option maxRecDepth 100000 in
set_option maxHeartbeats 4000000 in
theorem does9_any (va vb : Value) (hv : Cnt) (nds : List Cnt) (h1 : Cn hv) (h2 : ∀ n ∈ nds, Cn n) (H : Snap) (w : World) (hw : Holds H w) (ha : Sl H va hv) (hb : Sl H vb nds) :
    Calls Tryz.prog 69 #[va, vb] w (PostV w (.bool (doesC hv nds))) := by
  obtain ⟨aa, ca, rfl, ha1, ha2⟩ := ha.form
  obtain ⟨ab, cb, rfl, hb1, hb2⟩ := hb.form
  go_enter Tryz.func69, Tryz.ntmps69
  go_wp2
  go_loopw [5] (fun i wr => ∃ k : Nat, k ≤ nds.length ∧ i = .int .i64 k ∧ Hid (doesC hv (nds.take k) = false) ∧ Ext w H wr H) (fun i _ => nds.length - (intOf i).toNat)
  case atStart => exact ⟨0, Nat.zero_le _, rfl, rfl, Ext.refl hw⟩
  case round =>
    obtain ⟨k, hk, rfl, hno, hxr⟩ := hrel
    have hwr := hxr.holds
    by_cases hlt : k < nds.length
    · obtain ⟨n, hn⟩ := At.mk hlt
      have hcn := h2 n hn.mem
      obtain ⟨b, o, c', u, he, hu, hr⟩ := hb.list hn
      cases he
      have hms := missing9_any (.slice aa hv.length ca) u hv n h1 hcn H wr hwr ha hu
      have hz := miss_zero h1 hcn
      generalize missTo hv n 12 = z at *
      have hk0 : (0 : Int) ≤ (k : Int) := by omega
      have hk1 : (k : Int) < (nds.length : Int) := by omega
      have htk : doesC hv (nds.take (k + 1)) = (doesC hv (nds.take k) || cntLe n hv) := by
        rw [hn.take]; unfold doesC; rw [List.any_append]; simp
      rw [hno.out, Bool.false_or] at htk
      obtain ⟨au, cu, rfl, _, _⟩ := hu.form
      replace hms := Lib.hid hms
      cases hd : cntLe n hv
      · rw [hd] at hz htk
        replace htk := Lib.hid htk
        clear hd
        go_wp2_with (first | (go_at_call 100; refine (hms.out).mono ?_; rintro e w2 ⟨rfl, hb2⟩))
        go_roundw
        case rel => exact ⟨k + 1, by omega, by go_num, htk, hxr.step (hb2.mono hxr.below.size) (hwr.below hb2)⟩
        case measure => simp [intOf]; omega
      · rw [hd] at hz
        have hall : doesC hv nds = true := by
          unfold doesC; exact List.any_eq_true.2 ⟨n, hn.mem, hd⟩
        replace hall := Lib.hid hall
        clear hd htk
        go_wp2_with (first | (go_at_call 100; refine (hms.out).mono ?_; rintro e w2 ⟨rfl, hb2⟩))
        go_ret
        exact ⟨ret_bool hall.out.symm, hxr.below.trans (hb2.mono hxr.below.size)⟩
    · go_wp2
      go_ret
      have := hno.out
      rw [List.take_of_length_le (by omega)] at this
      exact ⟨ret_bool this.symm, hxr.below⟩

set_option maxRecDepth 100000 in
set_option maxHeartbeats 4000000 in
theorem doAll9_any (va vb : Value) (hv : Cnt) (all : List (List Cnt)) (h1 : Cn hv) (h2 : ∀ l ∈ all, ∀ n ∈ l, Cn n) (H : Snap) (w : World) (hw : Holds H w) (ha : Sl H va hv) (hb : Sl H vb all) :
    Calls Tryz.prog 77 #[va, vb] w (PostV w (.bool (doAllC hv all))) := by
  obtain ⟨aa, ca, rfl, ha1, ha2⟩ := ha.form
  obtain ⟨ab, cb, rfl, hb1, hb2⟩ := hb.form
  go_enter Tryz.func77, Tryz.ntmps77
  go_wp2
  go_loopw [5] (fun i wr => ∃ k : Nat, k ≤ all.length ∧ i = .int .i64 k ∧ Hid (doAllC hv (all.take k) = true) ∧ Ext w H wr H) (fun i _ => all.length - (intOf i).toNat)
  case atStart => exact ⟨0, Nat.zero_le _, rfl, rfl, Ext.refl hw⟩
  case round =>
    obtain ⟨k, hk, rfl, hno, hxr⟩ := hrel
    have hwr := hxr.holds
    by_cases hlt : k < all.length
    · obtain ⟨n, hn⟩ := At.mk hlt
      have hcn := h2 n hn.mem
      obtain ⟨b, o, c', u, he, hu, hr⟩ := hb.list hn
      cases he
      have hms := does9_any (.slice aa hv.length ca) u hv n h1 hcn H wr hwr ha hu
      have hk0 : (0 : Int) ≤ (k : Int) := by omega
      have hk1 : (k : Int) < (all.length : Int) := by omega
      have htk : doAllC hv (all.take (k + 1)) = (doAllC hv (all.take k) && doesC hv n) := by
        rw [hn.take]; unfold doAllC; rw [List.all_append]; simp
      rw [hno.out, Bool.true_and] at htk
      obtain ⟨au, cu, rfl, _, _⟩ := hu.form
      cases hd : doesC hv n
      · rw [hd] at hms
        have hall : doAllC hv all = false := by
          unfold doAllC
          rw [List.all_eq_false]
          exact ⟨n, hn.mem, by rw [hd]; simp⟩
        replace hall := Lib.hid hall
        replace hms := Lib.hid hms
        clear hd htk
        go_wp2_with (first | (go_at_call 69; refine (hms.out).mono ?_; rintro e w2 ⟨rfl, hb2⟩))
        go_ret
        exact ⟨ret_bool hall.out.symm, hxr.below.trans (hb2.mono hxr.below.size)⟩
      · rw [hd] at hms htk
        replace htk := Lib.hid htk
        replace hms := Lib.hid hms
        clear hd
        go_wp2_with (first | (go_at_call 69; refine (hms.out).mono ?_; rintro e w2 ⟨rfl, hb2⟩))
        go_roundw
        case rel => exact ⟨k + 1, by omega, by go_num, htk, hxr.step (hb2.mono hxr.below.size) (hwr.below hb2)⟩
        case measure => simp [intOf]; omega
    · go_wp2
      go_ret
      have := hno.out
      rw [List.take_of_length_le (by omega)] at this
      exact ⟨ret_bool this.symm, hxr.below⟩

theorem before9_any (va vb : Value) (a b : List Int) (H : Snap) (w : World) (hw : Holds H w) (ha : Sl H va a) (hb : Sl H vb b) :
    Calls Tryz.prog 93 #[va, vb] w (PostV w (.bool (earlier b a))) := by
  have hc := earlier_any vb va b a H w hw hb ha
  obtain ⟨aa, ca, rfl, ha1, ha2⟩ := ha.form
  obtain ⟨ab, cb, rfl, hb1, hb2⟩ := hb.form
  replace hc := Lib.hid hc
  go_enter Tryz.func93, Tryz.ntmps93
  go_wp2_with (first | (go_at_call 41; refine (hc.out).mono ?_; rintro e w2 ⟨rfl, hb2⟩))
  go_ret
  exact ⟨rfl, hb2⟩

theorem sumTo_succ {l : List Int} {k : Nat} {x : Int} (h : At l k x) : cntSum (l.take (k + 1)) = cntSum (l.take k) + x := by
  rw [h.take, cntSum_append, cntSum_cons]; simp [cntSum]
theorem sumTo_bd {l : List Int} (hl : l.length ≤ 1000) (hb : ∀ x ∈ l, 0 ≤ x ∧ x ≤ 1000) (k : Nat) : 0 ≤ cntSum (l.take k) ∧ cntSum (l.take k) ≤ 1000000 := by
  have h := sum_bd (c := l.take k) (M := 1000) fun x hx => hb x (List.mem_of_mem_take hx)
  have hlen : (l.take k).length ≤ 1000 := by rw [List.length_take]; omega
  omega

set_option maxRecDepth 100000 in
set_option maxHeartbeats 4000000 in
theorem sum1_any (v : Value) (l : List Int) (hl : l.length ≤ 1000) (hb : ∀ x ∈ l, 0 ≤ x ∧ x ≤ 1000) (H : Snap) (w : World) (hw : Holds H w) (hs : Sl H v l) :
    Calls Tryz.prog 39 #[v] w (PostV w (.int .i64 (cntSum l))) := by
  obtain ⟨a, c, rfl, hc1, hc2⟩ := hs.form
  go_enter Tryz.func39, Tryz.ntmps39
  go_wp2
  go_loopw [3, 4] (fun n i wr => ∃ k : Nat, k ≤ l.length ∧ i = .int .i64 k ∧ n = .int .i64 (cntSum (l.take k)) ∧ Ext w H wr H) (fun _ i _ => l.length - (intOf i).toNat)
  case atStart => exact ⟨0, Nat.zero_le _, rfl, rfl, Ext.refl hw⟩
  case round =>
    obtain ⟨k, hk, rfl, rfl, hxr⟩ := hrel
    have hwr := hxr.holds
    by_cases hlt : k < l.length
    · obtain ⟨p, hp⟩ := At.mk hlt
      obtain ⟨b, o, c', he, hi, hr⟩ := hs.int hp
      cases he
      have hpb := hb p hp.mem
      have hsb := sumTo_bd hl hb k
      have hsucc : Hid (cntSum (l.take (k + 1)) = cntSum (l.take k) + p) := sumTo_succ hp
      generalize cntSum (l.take k) = z at *
      go_wp2
      go_roundw
      case rel => exact ⟨k + 1, by omega, by go_num, by rw [hsucc.out], hxr⟩
      case measure => simp [intOf]; omega
    · go_wp2
      go_ret
      exact ⟨ret_int (by rw [List.take_of_length_le (by omega)]), hxr.below⟩

/-- The greater ones of the first k places. -/
def maxTo (a b : Cnt) (k : Nat) : Cnt := mk12 fun j => if j < k then max (gT a j) (gT b j) else 0
theorem maxTo_zero (a b : Cnt) : maxTo a b 0 = List.replicate 12 0 := by
  unfold maxTo mk12
  simp [List.range_succ]
theorem maxTo_end {a b : Cnt} (ha : Cn a) (hb : Cn b) : maxTo a b 12 = cntMax a b := gt_ext (mk12_len _) (by rw [cntMax_len (by rw [ha.len, hb.len]), ha.len]) fun k hk => by
  unfold maxTo
  rw [gt_mk _ hk, if_pos hk, cntMax_at ha.len hb.len hk]
theorem maxTo_succ (a b : Cnt) {k : Nat} (_h : k < 12) : (maxTo a b k).set k (max (gT a k) (gT b k)) = maxTo a b (k + 1) := by
  unfold maxTo
  rw [mk12_set]
  refine mk12_congr fun j _ => ?_
  by_cases e : j = k
  · subst e; rw [if_pos rfl, if_pos (by omega)]
  · rw [if_neg e]
    by_cases e2 : j < k
    · rw [if_pos e2, if_pos (by omega)]
    · rw [if_neg e2, if_neg (by omega)]

set_option maxRecDepth 100000 in
set_option maxHeartbeats 4000000 in
theorem both9_any (va vb : Value) (a b : Cnt) (h1 : Cn a) (h2 : Cn b) (H : Snap) (w : World) (hw : Holds H w) (ha : Sl H va a) (hb : Sl H vb b) :
    Calls Tryz.prog 92 #[va, vb] w (PostO w H 3 (cntMax a b)) := by
  obtain ⟨aa, ca, rfl, ha1, ha2⟩ := ha.form
  obtain ⟨ab, cb, rfl, hb1, hb2⟩ := hb.form
  have hl1 := h1.len
  have hl2 := h2.len
  rw [hl1] at ha
  rw [hl2] at hb
  rw [hl1, hl2]
  rw [← maxTo_end h1 h2]
  replace hl1 := Lib.hid hl1
  replace hl2 := Lib.hid hl2
  go_enter Tryz.func92, Tryz.ntmps92
  go_upto_region 2 with (refine wpList_makeI (H := H) (base := w.heap.size) eInt (by rfl) rfl _ _ rfl 12 rfl rfl (by omega) hw (Nat.le_refl _) ?_; intro v1 w1 o1 g1 hw1)
  have x1 : Ext w H w1 H := (Ext.refl hw).grown g1 (fun k e => by cases e) (fun k e => by cases e)
  rw [← maxTo_zero a b] at o1
  obtain ⟨a1, c1, e1, _, _⟩ := o1.form
  rw [show (maxTo a b 0).length = 12 from mk12_len _] at e1
  subst e1
  go_wp2
  go_loopw [6] (fun i wr => ∃ k : Nat, k ≤ 12 ∧ i = .int .i64 k ∧ Own H w.heap.size wr 3 (.slice a1 12 c1) (maxTo a b k) ∧ Ext w H wr H) (fun i _ => 12 - (intOf i).toNat)
  case atStart => exact ⟨0, Nat.zero_le _, rfl, o1, x1⟩
  case round =>
    clear o1 x1 g1 hw1
    obtain ⟨k, hk, rfl, own, hxr⟩ := hrel
    have hwr := hxr.holds
    by_cases hlt : k < 12
    · have hA : At a k (gT a k) := (h1.gt hlt).1
      have hB : At b k (gT b k) := (h2.gt hlt).1
      have b1 := (h1.gt hlt).2
      have b2 := (h2.gt hlt).2
      obtain ⟨ba, oa, c', he, hi, hr⟩ := ha.int hA
      rw [hl1.out] at he
      cases he
      obtain ⟨b', o', c'', he, hi', hr'⟩ := hb.int hB
      rw [hl2.out] at he
      cases he
      obtain ⟨z, hz⟩ := At.mk (show k < (maxTo a b k).length by rw [show (maxTo a b k).length = 12 from mk12_len _]; exact hlt)
      obtain ⟨g, cg, hev, _, hcl, hfz, hgb, hgH, hgl, hset⟩ := own.int_at hz
      rw [show (maxTo a b k).length = 12 from mk12_len _] at hev
      cases hev
      have hsucc := maxTo_succ a b hlt
      have hcw : ∀ x : WB H wr, x.w.cell? ⟨g, k, none⟩ = some (.int .i64 z) := fun x => (x.old g k hgl).trans hcl
      generalize gT a k = x at *
      generalize gT b k = y at *
      replace hsucc := Lib.hid hsucc
      have hk0 : (0 : Int) ≤ (k : Int) := by omega
      have hk1 : (k : Int) < 12 := by omega
      go_upto_region 5 with fail
      refine (wpIn_wide (n := 3)).1 ?_
      show Code.wpIn (FW none) 3 _ _ _ _ _
      have hnq : Nonempty (WB H wr) := ⟨⟨wr, hwr, Below.refl _ _⟩⟩
      refine wpIn_region_qtail (C := fun w' => ∃ x : WB H wr, w' = x.w) 12 (by kernel_rfl) (by kernel_rfl) (by kernel_rfl) ⟨⟨World.drew wr, Holds.drew hwr, (Below.refl _ _).drew⟩, rfl⟩ ?_
      simp only [List.take_succ_cons, List.take_zero, List.drop_succ_cons, List.drop_zero]
      repeat go_big_quiet_step ((first | (fail)))
      refine wpQuiet_nil ?_
      clear hnq
      rintro w2 ⟨⟨_, hw2, hb2⟩, rfl⟩
      have own2 := own.ext hwr ⟨hb2, hw2, fun _ _ => rfl⟩
      have hx2 : Ext w H w2 H := hxr.step (hb2.mono hxr.below.size) hw2
      have hcl2 := (hb2.cell (p := ⟨g, k, none⟩) hgl).trans hcl
      have hfz2 := (hb2.frozen (p := ⟨g, k, none⟩) hgl).trans hfz
      have hset2 := Own.set_int own2 hlt (mk12_len _) (max x y) (by unfold I64; omega)
      gi_wp2
      go_wp2
      go_roundw
      case rel => exact ⟨k + 1, by omega, by go_num, by rw [← hsucc.out]; exact hset2, hx2.setCell (a := ⟨g, k, none⟩) hgb hgH _⟩
      case measure => simp [intOf]; omega
    · obtain rfl : k = 12 := by omega
      go_wp2
      go_ret
      exact ⟨_, H, rfl, hxr, own⟩

end Go.Proofs.YtngdppajailpcaaGreat

namespace Go.Proofs.YtngdppajailpcaaGreat

/-- One more, if it is not there yet. -/
def addN (acc : List Cnt) (n : Cnt) : List Cnt := if decide (n ∈ acc) = true then acc else acc ++ [n]
theorem addN_mem {acc : List Cnt} {n x : Cnt} : x ∈ addN acc n ↔ x ∈ acc ∨ x = n := by
  unfold addN
  split
  · rename_i h
    have hm := of_decide_eq_true h
    constructor
    · exact .inl
    · rintro (h | rfl)
      · exact h
      · exact hm
  · simp
theorem addN_len (acc : List Cnt) (n : Cnt) : (addN acc n).length ≤ acc.length + 1 := by
  unfold addN
  split
  · omega
  · simp
def nextN (h : Hall) (acc : List Cnt) (p : List (List Int)) : List Cnt := if decide (lateOf h.hs p = []) = true then addN acc (needOf h p) else acc
def needsTo (h : Hall) (l : List (List (List Int))) (k : Nat) : List Cnt := (l.take k).foldl (nextN h) []
theorem needsTo_succ {h : Hall} {l : List (List (List Int))} {k : Nat} {p : List (List Int)} (hp : At l k p) : needsTo h l (k + 1) = nextN h (needsTo h l k) p := by
  unfold needsTo; rw [hp.take, List.foldl_append]; rfl
theorem nextN_len (h : Hall) (acc : List Cnt) (p : List (List Int)) : (nextN h acc p).length ≤ acc.length + 1 := by
  unfold nextN
  split
  · exact addN_len _ _
  · omega
theorem foldN_mem {h : Hall} {x : Cnt} : ∀ (l : List (List (List Int))) (acc : List Cnt), x ∈ l.foldl (nextN h) acc ↔ x ∈ acc ∨ x ∈ (l.filter fun p => decide (lateOf h.hs p = [])).map (needOf h)
  | [], acc => by simp
  | p :: l, acc => by
    rw [List.foldl_cons, foldN_mem l, List.filter_cons]
    unfold nextN
    split
    · rw [addN_mem, List.map_cons, List.mem_cons, or_assoc]
    · rfl
def needsU (h : Hall) (stop : Int) : List Cnt := (plansOf h.hs stop).foldl (nextN h) []
theorem needsTo_end (h : Hall) (stop : Int) : needsTo h (plansOf h.hs stop) (plansOf h.hs stop).length = needsU h stop := by
  unfold needsTo needsU; rw [List.take_length]
theorem needsU_mem {h : Hall} {stop : Int} {x : Cnt} : x ∈ needsU h stop ↔ x ∈ needsA h stop := by
  unfold needsU needsA; rw [foldN_mem]; simp
theorem foldN_len {h : Hall} : ∀ (l : List (List (List Int))) (acc : List Cnt), (l.foldl (nextN h) acc).length ≤ acc.length + l.length
  | [], acc => by simp
  | p :: l, acc => by
    rw [List.foldl_cons]
    have h1 := foldN_len (h := h) l (nextN h acc p)
    have h2 := nextN_len h acc p
    rw [List.length_cons]
    omega
theorem needsTo_len (h : Hall) (l : List (List (List Int))) (k : Nat) : (needsTo h l k).length ≤ l.length := by
  have h1 := foldN_len (h := h) (l.take k) []
  have h2 : (l.take k).length ≤ l.length := by rw [List.length_take]; omega
  unfold needsTo
  simp only [List.length_nil] at h1
  omega
theorem needsU_len (h : Hall) (stop : Int) : (needsU h stop).length ≤ (plansOf h.hs stop).length := by
  rw [← needsTo_end]; exact needsTo_len _ _ _

theorem doesC_mem {c : Cnt} {l m : List Cnt} (h : ∀ x, x ∈ l ↔ x ∈ m) : doesC c l = doesC c m := by
  unfold doesC
  rw [Bool.eq_iff_iff, List.any_eq_true, List.any_eq_true]
  exact ⟨fun ⟨x, hx, hc⟩ => ⟨x, (h x).1 hx, hc⟩, fun ⟨x, hx, hc⟩ => ⟨x, (h x).2 hx, hc⟩⟩
theorem doesU {h : Hall} {stop : Int} (c : Cnt) : doesC c (needsU h stop) = doesC c (needsA h stop) := doesC_mem fun _ => needsU_mem
def allU (h : Hall) : List (List Cnt) := (casesOf h.hs).map (needsU h)
theorem doAllU {h : Hall} (c : Cnt) : doAllC c (allU h) = doAllC c (allA h) := by
  unfold doAllC allU allA
  rw [List.all_map, List.all_map]
  congr 1
  funext s
  exact doesU c
theorem doms_map {l : List Int} {f g : Int → List Cnt} (h : ∀ s x, x ∈ f s → x ∈ g s) : Doms (l.map f) (l.map g) := by
  induction l with
  | nil => exact .nil
  | cons s l ih => exact .cons (dom_sub fun x hx => h s x hx) ih
theorem needsU_cn {h : Hall} (hv : ValidH h) {stop : Int} : ∀ c ∈ needsU h stop, Cn c := fun c hc => needsA_cn hv c (needsU_mem.1 hc)
theorem allU_cn {h : Hall} (hv : ValidH h) : ∀ l ∈ allU h, ∀ c ∈ l, Cn c := fun l hl => by
  obtain ⟨s, _, rfl⟩ := List.mem_map.1 hl
  exact needsU_cn hv
theorem grownU {h : Hall} (hv : ValidH h) {c : Cnt} (hc : c.length = 12) : grownC (allU h) c = leastA h c :=
  grownC_same (n := 12) (fun l hl x hx => (allU_cn hv l hl x hx).len) (allA_six hv) hc (doms_map fun _ _ => needsU_mem.1) (doms_map fun _ _ => needsU_mem.2)
def allTo (h : Hall) (l : List Int) (k : Nat) : List (List Cnt) := (l.take k).map (needsU h)
theorem allTo_succ {h : Hall} {l : List Int} {k : Nat} {s : Int} (hs : At l k s) : allTo h l (k + 1) = allTo h l k ++ [needsU h s] := by
  unfold allTo; rw [hs.take, List.map_append]; rfl
theorem allTo_end (h : Hall) : allTo h (casesOf h.hs) (casesOf h.hs).length = allU h := by
  unfold allTo allU; rw [List.take_length]

end Go.Proofs.YtngdppajailpcaaGreat

namespace Go.Proofs.YtngdppajailpcaaGreat
open Go.RowKit

attribute [local go_sem] Holds.drew Holds.alloc Holds.drewN WB.holds Oper.semAt_some FW_fn FW_dep FW_round

theorem isTo_succ {acc : List Cnt} {n x : Cnt} {k : Nat} (hx : At acc k x) : ((acc.take (k + 1)).any fun y => decide (y = n)) = (((acc.take k).any fun y => decide (y = n)) || decide (x = n)) := by
  rw [hx.take, List.any_append]; simp
theorem isTo_end {acc : List Cnt} {n : Cnt} {k : Nat} (hk : acc.length ≤ k) : ((acc.take k).any fun y => decide (y = n)) = decide (n ∈ acc) := by
  rw [List.take_of_length_le hk, Bool.eq_iff_iff, List.any_eq_true, decide_eq_true_eq]
  constructor
  · rintro ⟨x, hx, e⟩
    rw [← of_decide_eq_true e]; exact hx
  · exact fun h => ⟨n, h, decide_eq_true rfl⟩

set_option maxRecDepth 100000 in
set_option maxHeartbeats 4000000 in
theorem needsOf9_any (vm vb vt vo ve : Value) (h : Hall) (hv : ValidH h) (stop : Int) (hst : -1 ≤ stop ∧ stop ≤ 3) (H : Snap) (w : World) (hw : Holds H w) (hh : Hal H vm vb vt vo ve h) :
    Calls Tryz.prog 70 #[halV vm vb vt vo ve h, .int .i64 stop] w (PostO w H 24 (needsU h stop)) := by
  have hpl := plansOf_isPlan hv.hs stop
  have hln := plansOf_len hv.hs stop
  have hend := needsTo_end h stop
  go_enter Tryz.func70, Tryz.ntmps70
  go_upto_region 1 with (refine wpList_boxF rfl _ rfl (Ext.refl hw) ?_; intro B w1 H1 hle hx hB hBw; obtain ⟨hc0, hc1, hc2, hc3, hc4, hc5⟩ := cellsHal hB; clear hB hw; have hw1 := hx.holds)
  have hhc := hh.mono hle
  go_upto_region 2 with (go_at_call 101; refine (plansOf4_any _ _ _ h.hs stop H1 _ hw1 hhc.hs hv.hs hst).mono ?_; rintro e w2 ⟨v2, H2, rfl, x2, o2⟩; obtain ⟨a2, c2, rfl, _, _⟩ := o2.form)
  obtain ⟨H3, x3, l3, s3, _⟩ := (o2.weaken hx.below.size).close (hx.trans x2)
  have l13 : SLe H1 H3 := (x2.le hw1).trans l3
  replace hhc := hhc.mono l13
  replace hc0 := lift l13 hc0
  replace hc1 := lift l13 hc1
  replace hc2 := lift l13 hc2
  replace hc3 := lift l13 hc3
  replace hc4 := lift l13 hc4
  replace hc5 := lift l13 hc5
  clear x2 o2 l3 hw1 hx l13
  generalize hP : plansOf h.hs stop = P at *
  clear hP
  replace hend := Lib.hid hend
  replace hpl := Lib.hid hpl
  go_wp2
  go_loopw [6, 7, 8, 9, 10] (fun v i _ _ _ wr => ∃ (k : Nat) (acc : List Cnt) (Hr : Snap), k ≤ P.length ∧ i = .int .i64 k ∧ Hid (acc = needsTo h P k) ∧ SLe H3 Hr ∧ Ext w H wr Hr ∧ Own Hr w.heap.size wr 24 v acc) (fun _ i _ _ _ _ => P.length - (intOf i).toNat)
  case atStart => exact ⟨0, [], H3, Nat.zero_le _, rfl, rfl, SLe.refl _, x3, Own.nil _ _ _ _⟩
  case round =>
    clear x3
    obtain ⟨k, acc, Hr, hk, rfl, hacc, lr, xr, hown⟩ := hrel
    have hwr := xr.holds
    obtain ⟨av, cv, ev, _, _⟩ := hown.form
    subst ev
    by_cases hlk : k < P.length
    · obtain ⟨p, hp⟩ := At.mk hlk
      have hpp := hpl.out p hp.mem
      obtain ⟨b, o, c, u, he, hu, hr⟩ := s3.list hp
      cases he
      obtain ⟨au, cu, rfl, _, _⟩ := hu.form
      replace hr := lift lr hr
      have hur := hu.mono lr
      have hhr := hhc.mono lr
      have hd0 := lift lr hc0
      have hd1 := lift lr hc1
      have hd2 := lift lr hc2
      have hd3 := lift lr hc3
      have hd4 := lift lr hc4
      have hd5 := lift lr hc5
      have hk0 : (0 : Int) ≤ (k : Int) := by omega
      have hk1 : (k : Int) < (P.length : Int) := by omega
      have hsucc := needsTo_succ (h := h) hp
      have hacl : acc.length ≤ P.length := by rw [hacc.out]; exact needsTo_len h P k
      rw [← hacc.out] at hsucc
      obtain ⟨n, hn⟩ : ∃ n, Hid (n = needOf h p) := ⟨_, rfl⟩
      rcases hll : lateOf h.hs p with _ | ⟨y, ys⟩
      · have hsucc2 : needsTo h P (k + 1) = if decide (n ∈ acc) = true then acc else acc ++ [n] := by
          rw [hsucc, hn.out]; unfold nextN addN; rw [hll]; rfl
        replace hsucc2 := Lib.hid hsucc2
        clear hsucc
        go_upto_region 6 with fail
        go_cut [29] (fun t wx => t = .bool false ∧ Ext w H wx Hr ∧ Own Hr w.heap.size wx 24 (.slice av acc.length cv) acc)
        case first =>
          go_region_held3 (fun w' => Holds Hr w' ∧ Ext w H w' Hr) (first | assumption | exact ⟨by assumption, by assumption⟩ | (go_split_ands; exact ⟨Holds.drew (by assumption), Ext.drew (by assumption)⟩) | (go_split_ands; exact ⟨Holds.alloc (by assumption) _, Ext.alloc (by assumption) _⟩) | (go_split_ands; exact ⟨Holds.drew (Holds.alloc (by assumption) _), Ext.drew (Ext.alloc (by assumption) _)⟩)) (first | ((go_split_ands; go_at_call 102; refine (lateOf4_any _ _ _ _ _ _ Hr _ (by assumption) hhr.hs hur hv.hs hpp).mono ?_; rintro e w' ⟨v, H4, rfl, hx', hs4⟩; rw [hll] at hs4; obtain ⟨a', c', rfl, _, _⟩ := hs4.form; have l4 := hx'.le (by assumption); have hk1 : Holds Hr w' := hx'.old (by assumption); have hk2 : Ext w H w' Hr := Ext.step (by assumption) (hx'.below.mono (by assumption : Ext w H _ Hr).below.size) hk1; have hownC := hown.drew.ext (by assumption) (hx'.back (Ext.refl (by assumption)) l4))))
          all_goals
            go_wp2_with fail
            go_meet
            exact ⟨rfl, hk2, hownC⟩
        case rest =>
          obtain ⟨rfl, xr, hown⟩ := hcut
          have hwr := xr.holds
          go_upto_region 7 with fail
          go_cut [8] (fun u wx => ∃ H4, Ext w H wx H4 ∧ SLe Hr H4 ∧ Sl H4 u n ∧ Own H4 w.heap.size wx 24 (.slice av acc.length cv) acc)
          case first =>
            go_region_held3 (fun w' => Holds Hr w' ∧ Ext w H w' Hr) (first | assumption | exact ⟨by assumption, by assumption⟩ | (go_split_ands; exact ⟨Holds.drew (by assumption), Ext.drew (by assumption)⟩) | (go_split_ands; exact ⟨Holds.alloc (by assumption) _, Ext.alloc (by assumption) _⟩) | (go_split_ands; exact ⟨Holds.drew (Holds.alloc (by assumption) _), Ext.drew (Ext.alloc (by assumption) _)⟩)) (first | ((go_split_ands; go_at_call 103; refine (needOf9_any _ _ _ _ _ _ h hv p hpp Hr _ (by assumption) hhr hur).mono ?_; rintro e w' ⟨v, H', rfl, hx', ho'⟩; rw [← hn.out] at ho'; obtain ⟨H4, hx4, hle4, hs4, _⟩ := ho'.close hx'; have hle24 := hx4.le (by assumption); have hownC := hown.drew.ext (by assumption) hx4; have hk5 := (by assumption : Ext w H _ Hr).trans hx4; have hk1 : Holds Hr w' := hx4.holds.mono hle24; have hk2 : Ext w H w' Hr := hk5.back (by assumption) hle24)))
            all_goals
              go_wp2_with fail
              go_meet
              exact ⟨H4, hk5, hle24, hs4, hownC⟩
          case rest =>
            obtain ⟨H4, x4, l4, s4, own4⟩ := hcut
            have hw4 := x4.holds
            obtain ⟨an, cn, rfl, _, _⟩ := s4.form
            clear hown xr hwr
            go_wp2_with fail
            go_loopw [9, 10] (fun b i wr => ∃ (j : Nat), j ≤ acc.length ∧ i = .int .i64 j ∧ b = .bool ((acc.take j).any fun y => decide (y = n)) ∧ Ext w H wr H4 ∧ Own H4 w.heap.size wr 24 (.slice av acc.length cv) acc) (fun _ i _ => acc.length - (intOf i).toNat)
            case atStart => exact ⟨0, Nat.zero_le _, rfl, by simp, x4, own4⟩
            case round =>
              clear x4 own4 hw4
              obtain ⟨j, hj, rfl, rfl, xj, ownj⟩ := hrel
              have hwj := xj.holds
              by_cases hlj : j < acc.length
              · obtain ⟨x, hx⟩ := At.mk hlj
                obtain ⟨H5, l5, hw5, s5, _⟩ := ownj.freeze hwj
                obtain ⟨b', o', c', u', he, hu', hr'⟩ := s5.list hx
                cases he
                obtain ⟨au', cu', rfl, _, _⟩ := hu'.form
                have s45 := s4.mono l5
                have hsu := isTo_succ (n := n) hx
                replace hsu := Lib.hid hsu
                have hj0 : (0 : Int) ≤ (j : Int) := by omega
                have hj1 : (j : Int) < (acc.length : Int) := by omega
                have hbk : ∀ w2, Below wr.heap.size wr w2 → Ext w H w2 H4 ∧ Own H4 w.heap.size w2 24 (.slice (some ⟨b', o', none⟩) acc.length cv) acc := fun w2 hb2 =>
                  ⟨xj.step (hb2.mono xj.below.size) (hwj.below hb2), ownj.ext hwj ⟨hb2, hwj.below hb2, fun _ _ => rfl⟩⟩
                replace hbk := Lib.hid hbk
                clear xj ownj hwj
                cases hin : (acc.take j).any fun y => decide (y = n)
                · go_wp2_with (first | (go_at_call 26; refine (sameInts_any _ _ _ _ H5 _ hw5 hu' s45).mono ?_; rintro e w2 ⟨rfl, hb2⟩))
                  go_roundw
                  case rel => exact ⟨j + 1, by omega, by go_num, by rw [hsu.out, hin]; simp, hbk.out _ hb2⟩
                  case measure => simp [intOf]; omega
                · go_wp2_with fail
                  go_roundw
                  case rel => exact ⟨j + 1, by omega, by go_num, by rw [hsu.out, hin]; simp, hbk.out _ (Below.refl _ _)⟩
                  case measure => simp [intOf]; omega
              · have hie := isTo_end (acc := acc) (n := n) (k := j) (by omega)
                rw [hie]
                clear hie
                cases hin : decide (n ∈ acc)
                · rw [hin, if_neg (by decide)] at hsucc2
                  go_wp2_with (first | ((at_builtin; have hgd := ownj; clear hgd; go_must (refine wpList_app1L eList _ _ xj ownj n s4 (by omega) rfl rfl rfl rfl ?_); intro vD wD hownD hxD hwD)))
                  go_roundw
                  case rel => exact ⟨k + 1, acc ++ [n], H4, by omega, by go_num, by show _ = _; rw [hsucc2.out], lr.trans l4, hxD, hownD⟩
                  case measure => simp [intOf]; omega
                · rw [hin, if_pos rfl] at hsucc2
                  go_wp2_with fail
                  go_roundw
                  case rel => exact ⟨k + 1, acc, H4, by omega, by go_num, by show _ = _; rw [hsucc2.out], lr.trans l4, xj, ownj⟩
                  case measure => simp [intOf]; omega
      · have hsucc2 : needsTo h P (k + 1) = acc := by
          rw [hsucc]; unfold nextN; rw [hll]; rfl
        replace hsucc2 := Lib.hid hsucc2
        clear hsucc
        go_upto_region 6 with fail
        go_cut [29] (fun t wx => t = .bool true ∧ Ext w H wx Hr ∧ Own Hr w.heap.size wx 24 (.slice av acc.length cv) acc)
        case first =>
          go_region_held3 (fun w' => Holds Hr w' ∧ Ext w H w' Hr) (first | assumption | exact ⟨by assumption, by assumption⟩ | (go_split_ands; exact ⟨Holds.drew (by assumption), Ext.drew (by assumption)⟩) | (go_split_ands; exact ⟨Holds.alloc (by assumption) _, Ext.alloc (by assumption) _⟩) | (go_split_ands; exact ⟨Holds.drew (Holds.alloc (by assumption) _), Ext.drew (Ext.alloc (by assumption) _)⟩)) (first | ((go_split_ands; go_at_call 102; refine (lateOf4_any _ _ _ _ _ _ Hr _ (by assumption) hhr.hs hur hv.hs hpp).mono ?_; rintro e w' ⟨v, H4, rfl, hx', hs4⟩; rw [hll] at hs4; obtain ⟨a', c', rfl, _, _⟩ := hs4.form; have l4 := hx'.le (by assumption); have hk1 : Holds Hr w' := hx'.old (by assumption); have hk2 : Ext w H w' Hr := Ext.step (by assumption) (hx'.below.mono (by assumption : Ext w H _ Hr).below.size) hk1; have hownC := hown.drew.ext (by assumption) (hx'.back (Ext.refl (by assumption)) l4))))
          all_goals
            go_wp2_with fail
            go_meet
            exact ⟨rfl, hk2, hownC⟩
        case rest =>
          obtain ⟨rfl, xr, hown⟩ := hcut
          go_wp2_with fail
          go_roundw
          case rel => exact ⟨k + 1, acc, Hr, by omega, by go_num, by show _ = _; rw [hsucc2.out], lr, xr, hown⟩
          case measure => simp [intOf]; omega
    · go_wp2_with fail
      go_ret
      have e : acc = needsU h stop := by rw [hacc.out, ← hend.out, show k = P.length by omega]
      exact ⟨_, Hr, rfl, xr, hown.congr e⟩

end Go.Proofs.YtngdppajailpcaaGreat

namespace Go.Proofs.YtngdppajailpcaaGreat
open Go.RowKit

attribute [local go_sem] Holds.drew Holds.alloc Holds.drewN WB.holds Oper.semAt_some FW_fn FW_dep FW_round

set_option maxRecDepth 100000 in
set_option maxHeartbeats 4000000 in
theorem allNeeds9_any (vm vb vt vo ve : Value) (h : Hall) (hv : ValidH h) (H : Snap) (w : World) (hw : Holds H w) (hh : Hal H vm vb vt vo ve h) :
    Calls Tryz.prog 59 #[halV vm vb vt vo ve h] w (Post w H fun v H' => Sl H' v (allU h)) := by
  have hm3 := hv.hs.m3
  have hclen : (casesOf h.hs).length ≤ 4 := Nat.le_trans (casesTo_len h.hs _) (by omega)
  have hcm : ∀ c ∈ casesOf h.hs, -1 ≤ c ∧ c ≤ 3 := fun c hc => by have := casesOf_mem hc; omega
  have hend := allTo_end h
  replace hcm := Lib.hid hcm
  go_enter Tryz.func59, Tryz.ntmps59
  go_upto_region 1 with (refine wpList_boxF rfl _ rfl (Ext.refl hw) ?_; intro B w1 H1 hle hx hB hBw; obtain ⟨hc0, hc1, hc2, hc3, hc4, hc5⟩ := cellsHal hB; clear hB hw; have hw1 := hx.holds)
  have hhc := hh.mono hle
  go_upto_region 3 with (go_at_call 72; refine (casesOf4_any _ _ _ h.hs H1 _ hw1 hhc.hs hv.hs).mono ?_; rintro e w2 ⟨v2, H2, rfl, x2, s2⟩; obtain ⟨a2, c2, rfl, _, _⟩ := s2.form)
  have x3 := hx.trans x2
  have l13 : SLe H1 H2 := x2.le hw1
  replace hhc := hhc.mono l13
  replace hc0 := lift l13 hc0
  replace hc1 := lift l13 hc1
  replace hc2 := lift l13 hc2
  replace hc3 := lift l13 hc3
  replace hc4 := lift l13 hc4
  replace hc5 := lift l13 hc5
  clear x2 hw1 hx l13
  generalize hP : casesOf h.hs = P at *
  clear hP
  replace hend := Lib.hid hend
  go_wp2
  go_loopw [3, 5] (fun v i wr => ∃ (k : Nat) (acc : List (List Cnt)) (Hr : Snap), k ≤ P.length ∧ i = .int .i64 k ∧ Hid (acc = allTo h P k) ∧ SLe H2 Hr ∧ Ext w H wr Hr ∧ Own Hr w.heap.size wr 27 v acc) (fun _ i _ => P.length - (intOf i).toNat)
  case atStart => exact ⟨0, [], H2, Nat.zero_le _, rfl, rfl, SLe.refl _, x3, Own.nil _ _ _ _⟩
  case round =>
    clear x3
    obtain ⟨k, acc, Hr, hk, rfl, hacc, lr, xr, hown⟩ := hrel
    have hwr := xr.holds
    obtain ⟨av, cv, ev, _, _⟩ := hown.form
    subst ev
    by_cases hlk : k < P.length
    · obtain ⟨s, hs⟩ := At.mk hlk
      have hsb := Lib.hid (hcm.out s hs.mem)
      obtain ⟨b, o, c, he, hi, hr⟩ := s2.int hs
      cases he
      replace hr := lift lr hr
      have hhr := hhc.mono lr
      have hd0 := lift lr hc0
      have hd1 := lift lr hc1
      have hd2 := lift lr hc2
      have hd3 := lift lr hc3
      have hd4 := lift lr hc4
      have hd5 := lift lr hc5
      have hsucc := allTo_succ (h := h) hs
      have hacl : acc.length ≤ 4 := by rw [hacc.out]; unfold allTo; rw [List.length_map, List.length_take]; omega
      rw [← hacc.out] at hsucc
      obtain ⟨ll, hll⟩ : ∃ ll, Hid (ll = needsU h s) := ⟨_, rfl⟩
      rw [← hll.out] at hsucc
      replace hsucc := Lib.hid hsucc
      go_upto_region 6 with fail
      go_region_held3 (fun w' => Holds Hr w' ∧ Ext w H w' Hr) (first | assumption | exact ⟨by assumption, by assumption⟩ | (go_split_ands; exact ⟨Holds.drew (by assumption), Ext.drew (by assumption)⟩) | (go_split_ands; exact ⟨Holds.alloc (by assumption) _, Ext.alloc (by assumption) _⟩) | (go_split_ands; exact ⟨Holds.drew (Holds.alloc (by assumption) _), Ext.drew (Ext.alloc (by assumption) _)⟩)) (first | ((go_split_ands; refine step_appCX (w0 := w) (H0 := H) eLists rfl _ _ rfl (hk5.alloc _) rfl (hown4.alloc _) rfl ⟨_, rfl, hs4⟩ (one_cell (by simp [go_sem])) (by simp [Enc.by_]; omega) (by omega) ?_; intro vB wB hownB hxB hwB hgB; have hk3 : Holds Hr wB := hwB.mono hle4; have hk4 : Ext w H wB Hr := hxB.back xr hle4)) | ((go_split_ands; go_at_call 70; refine (needsOf9_any _ _ _ _ _ h hv s hsb.out Hr _ (by assumption) hhr).mono ?_; rintro e w' ⟨v, H', rfl, hx', ho'⟩; rw [← hll.out] at ho'; obtain ⟨H4, hx4, hle14, hs4, _⟩ := ho'.close hx'; obtain ⟨a', c', rfl, _, _⟩ := hs4.form; have hle4 := hx4.le (by assumption); have hk5 := xr.drew.trans hx4; have hown4 := hown.drew.ext (by assumption) hx4; have hk1 : Holds Hr w' := hx4.holds.mono hle4; have hk2 : Ext w H w' Hr := hk5.back xr hle4)))
      all_goals
        go_wp2_with fail
        go_roundw
        case rel => exact ⟨k + 1, acc ++ [ll], H4, by omega, by go_num, by show _ = _; rw [hsucc.out], lr.trans hle4, hxB, hownB⟩
        case measure => simp [intOf]; omega
    · go_wp2_with fail
      go_ret
      obtain ⟨H', hx', _, hs', _⟩ := hown.close xr
      have e : acc = allU h := by rw [hacc.out, ← hend.out, show k = P.length by omega]
      exact ⟨_, H', rfl, hx', by rw [← e]; exact hs'⟩

theorem better_lt {x y : Cnt} : better (some x) (some y) = if (decide (cntSum y < cntSum x) || (decide (cntSum y = cntSum x) && earlier x y)) = true then some y else some x := rfl
theorem foldB_succ {l : List Cnt} {k : Nat} {n : Cnt} (hn : At l k n) (f : Cnt → Option Cnt) : (l.take (k + 1)).foldl (fun acc n => better acc (f n)) none = better ((l.take k).foldl (fun acc n => better acc (f n)) none) (f n) := by
  rw [hn.take, List.foldl_append]; rfl

set_option maxRecDepth 100000 in
set_option maxHeartbeats 8000000 in
theorem grown9_any : ∀ (L : List (List Cnt)) (c : Cnt), Cn c → (∀ l ∈ L, ∀ s ∈ l, Cn s) → ∀ (vL vc : Value) (H : Snap) (w : World), Holds H w → Sl H vL L → Sl H vc c →
    Calls Tryz.prog 58 #[vL, vc] w (Post w H fun v H' => ∃ u, v = .tuple #[u, .bool (grownC L c).isSome] ∧ Sl H' u ((grownC L c).getD []))
  | [], c, hc, hL, vL, vc, H, w, hw, hs, hsc => by
    obtain ⟨aL, cL, rfl, hc1, hc2⟩ := hs.form
    obtain ⟨ac, cc, rfl, _, _⟩ := hsc.form
    go_enter Tryz.func58, Tryz.ntmps58
    go_wp2
    go_ret2
    exact ⟨_, H, rfl, Ext.refl hw, _, rfl, hsc⟩
  | l :: L, c, hc, hL, vL, vc, H, w, hw, hs, hsc => by
    have ih := grown9_any L
    have hll := hs.le
    have hs2 := hs
    obtain ⟨bL, oL, cL, u, he, hsl, hrl⟩ := hs.list (k := 0) (x := l) rfl
    cases he
    obtain ⟨al, cl, rfl, hl1, hl2⟩ := hsl.form
    obtain ⟨ac, cc, rfl, _, _⟩ := hsc.form
    have hcl : ∀ s ∈ l, Cn s := hL l (by simp)
    obtain ⟨n, hn⟩ : ∃ n, Hid (n = (l :: L).length) := ⟨_, rfl⟩
    have hn1 : 1 ≤ n := by rw [hn.out, List.length_cons]; omega
    obtain ⟨_, cx, ecx, hncx, hcx9⟩ := hs2.form
    cases ecx
    rw [← hn.out] at hs2 hll hncx ⊢
    have hL1 : (1 : Int) ≤ (n : Int) := by omega
    have hL2 : (n : Int) ≤ (cL : Int) := by omega
    have hLp : ((n : Int) == 0) = false := by simp; omega
    have hL0 : (0 : Int) < (n : Int) := by omega
    have hcL : ∀ l' ∈ L, ∀ s ∈ l', Cn s := fun l' h => hL l' (by simp [h])
    simp only [Nat.add_zero] at hrl
    obtain ⟨aT, haT⟩ : ∃ aT, (if cL = 1 then some (⟨bL, oL, none⟩ : Addr) else some ⟨bL, oL + 1, none⟩) = aT := ⟨_, rfl⟩
    have hsT : Sl H (.slice aT (n - 1) (cL - 1)) L := by
      rw [← haT]
      split
      · rename_i e
        have e1 : L = [] := by
          have := hn.out
          rw [List.length_cons] at this
          exact List.eq_nil_of_length_eq_zero (by omega)
        rw [e1, show n - 1 = 0 by omega]
        exact Sl.nil _ _ (by omega)
      · exact Sl.tail1 rfl hs2
    have hgr : grownC (l :: L) c = l.foldl (fun acc n => better acc (grownC L (cntMax c n))) none := rfl
    replace hgr := Lib.hid hgr
    have hclen := hc.len
    replace hclen := Lib.hid hclen
    go_enter Tryz.func58, Tryz.ntmps58
    go_wp2
    go_loopw [6, 7, 9, 10, 11] (fun v b i _ _ wr => ∃ (k : Nat) (acc : Option Cnt) (Hr : Snap), k ≤ l.length ∧ i = .int .i64 k ∧ Hid (acc = (l.take k).foldl (fun acc n => better acc (grownC L (cntMax c n))) none) ∧ b = .bool acc.isSome ∧ SLe H Hr ∧ Ext w H wr Hr ∧ Sl Hr v (acc.getD []) ∧ ∀ x, acc = some x → Cn x) (fun _ _ i _ _ _ => l.length - (intOf i).toNat)
    case atStart => exact ⟨0, none, H, Nat.zero_le _, rfl, rfl, rfl, SLe.refl _, Ext.refl hw, Sl.nil0 _, fun x e => by cases e⟩
    case round =>
      obtain ⟨k, acc, Hr, hk, rfl, hacc, rfl, lr, xr, hsb, hacn⟩ := hrel
      have hwr := xr.holds
      obtain ⟨av, cv, ev, _, _⟩ := hsb.form
      subst ev
      by_cases hlk : k < l.length
      · obtain ⟨x, hx⟩ := At.mk hlk
        have hcx := hcl x hx.mem
        obtain ⟨b, o, c', u, he, hux, hrx⟩ := hsl.list hx
        cases he
        obtain ⟨ax, cx, rfl, _, _⟩ := hux.form
        replace hrx := lift lr hrx
        have hrl' := lift lr hrl
        have hux' := hux.mono lr
        have hsT' := hsT.mono lr
        have hsc' := hsc.mono lr
        have hjn : Cn (cntMax c x) := cntMax_cn hc hcx
        have hstep := foldB_succ (k := k) hx fun n => grownC L (cntMax c n)
        rw [← hacc.out] at hstep
        have hyn : ∀ y, grownC L (cntMax c x) = some y → Cn y := fun y e => grownC_cn hcL hjn e
        have hk0 : (0 : Int) ≤ (k : Int) := by omega
        have hk1 : (k : Int) < (l.length : Int) := by omega
        have ihc := fun (J : Value) (H' : Snap) (W : World) (hW : Holds H' W) (hJ : Sl H' J (cntMax c x)) (hT : Sl H' (.slice aT (n - 1) (cL - 1)) L) => ih (cntMax c x) hjn hcL _ J H' W hW hT hJ
        generalize grownC L (cntMax c x) = y at *
        replace ihc := Lib.hid ihc
        replace hstep := Lib.hid hstep
        go_upto_region 9 with fail
        go_cut [10, 11] (fun u b wx => ∃ H4, b = .bool y.isSome ∧ SLe Hr H4 ∧ Ext w H wx H4 ∧ Sl H4 u (y.getD []))
        case first =>
          go_region_held3 (fun w' => Holds Hr w' ∧ Ext w H w' Hr) (first | assumption | exact ⟨by assumption, by assumption⟩ | (go_split_ands; exact ⟨Holds.drew (by assumption), Ext.drew (by assumption)⟩) | (go_split_ands; exact ⟨Holds.alloc (by assumption) _, Ext.alloc (by assumption) _⟩) | (go_split_ands; exact ⟨Holds.drew (Holds.alloc (by assumption) _), Ext.drew (Ext.alloc (by assumption) _)⟩)) (first | ((go_split_ands; go_at_call 58; refine (ihc.out _ H4 _ hx4.holds hs4 (hsT'.mono hle4)).mono ?_; rintro e wz ⟨vz, H5, rfl, hx5, uz, rfl, hs5⟩; obtain ⟨az, cz, rfl, _, _⟩ := hs5.form; have hle5 := hle4.trans (hx5.le hx4.holds); have hk6 := hk5.trans hx5; have hk7 : Holds Hr wz := hx5.holds.mono hle5; have hk8 : Ext w H wz Hr := hk6.back xr hle5)) | ((go_split_ands; go_at_call 92; refine (both9_any _ _ c x hc hcx Hr _ (by assumption) hsc' hux').mono ?_; rintro e w' ⟨v, H', rfl, hx', ho'⟩; obtain ⟨H4, hx4, hle14, hs4, _⟩ := ho'.close hx'; obtain ⟨a', c', rfl, _, _⟩ := hs4.form; have hle4 := hx4.le (by assumption); have hk5 := xr.drew.trans hx4; have hk1 : Holds Hr w' := hx4.holds.mono hle4; have hk2 : Ext w H w' Hr := hk5.back xr hle4)))
          all_goals
            go_wp2_with fail
            go_meet
            exact ⟨H5, rfl, hle5, hk6, hs5⟩
        case rest =>
          obtain ⟨H5, rfl, l5, x5, s5⟩ := hcut
          have hsb5 := hsb.mono l5
          have hw5 := x5.holds
          obtain ⟨a5, c5, rfl, _, _⟩ := s5.form
          clear xr hwr hsT' hsc' hux' hrx hrl' ihc
          go_upto_region 10 with fail
          cases y with
          | none =>
            have hbt : better acc none = acc := rfl
            rw [hbt] at hstep
            simp only [Option.isSome_none]
            go_wp2_with fail
            go_roundw
            case rel => exact ⟨k + 1, acc, H5, by omega, by go_num, by show _ = _; rw [hstep.out], rfl, lr.trans l5, x5, hsb5, hacn⟩
            case measure => simp [intOf]; omega
          | some yv =>
            have hyc : Cn yv := hyn _ rfl
            cases acc with
            | none =>
              have hbt : better none (some yv) = some yv := rfl
              rw [hbt] at hstep
              simp only [Option.isSome_none, Option.isSome_some, Option.getD_none, Option.getD_some] at *
              go_wp2_with fail
              go_roundw
              case rel => exact ⟨k + 1, some yv, H5, by omega, by go_num, by show _ = _; rw [hstep.out], rfl, lr.trans l5, x5, s5, fun x e => by cases e; exact hyc⟩
              case measure => simp [intOf]; omega
            | some xv =>
              have hxc : Cn xv := hacn _ rfl
              rw [better_lt] at hstep
              simp only [Option.isSome_some, Option.getD_some] at *
              have hq1 := hyc.len
              have hq2 := hxc.len
              have hSy := fun (W : World) (hW : Holds H5 W) => sum1_any _ yv (by omega) hyc.bd H5 W hW s5
              have hSx := fun (W : World) (hW : Holds H5 W) => sum1_any _ xv (by omega) hxc.bd H5 W hW hsb5
              have hBf := fun (W : World) (hW : Holds H5 W) => before9_any _ _ yv xv H5 W hW s5 hsb5
              generalize earlier xv yv = E at *
              generalize cntSum yv = sy at *
              generalize cntSum xv = sx at *
              generalize yv.length = ny at *
              generalize xv.length = nx at *
              replace hSy := Lib.hid hSy
              replace hSx := Lib.hid hSx
              replace hBf := Lib.hid hBf
              replace hstep := hstep.out
              clear hq1 hq2
              rcases Int.lt_trichotomy sy sx with g | g | g
              · rw [if_pos (by rw [decide_eq_true g]; rfl)] at hstep
                replace hstep := Lib.hid hstep
                have d1 : decide (sy < sx) = true := decide_eq_true g
                go_wp2_with (first | (have hgz := h71; clear hgz; go_at_call_of 39 (Value.slice av nx cv); refine (hSx.out _ h71).mono ?_; rintro e w72 ⟨rfl, hd72⟩; have h72 := h71.below hd72; have b72 := b71.trans (hd72.mono b71.size)) | (have hgz := hw5; clear hgz; go_at_call_of 39 (Value.slice a5 ny c5); refine (hSy.out _ hw5).mono ?_; rintro e w71 ⟨rfl, hd71⟩; have h71 := hw5.below hd71; have b71 := x5.below.trans (hd71.mono x5.below.size)))
                go_roundw
                case rel => exact ⟨k + 1, some yv, H5, by omega, by go_num, by show _ = _; rw [hstep.out], rfl, lr.trans l5, ⟨b72, h72, x5.same⟩, s5, fun x e => by cases e; exact hyc⟩
                case measure => simp [intOf]; omega
              · subst g
                have d1 : decide (sy < sy) = false := decide_eq_false (by omega)
                cases E
                · rw [if_neg (by rw [d1]; simp)] at hstep
                  replace hstep := Lib.hid hstep
                  go_wp2_with (first | (have hgz := h74; clear hgz; go_at_call 93; refine (hBf.out _ h74).mono ?_; rintro e w75 ⟨rfl, hd75⟩; have h75 := h74.below hd75; have b75 := b74.trans (hd75.mono b74.size)) | (have hgz := h73; clear hgz; go_at_call_of 39 (Value.slice av nx cv); refine (hSx.out _ h73).mono ?_; rintro e w74 ⟨rfl, hd74⟩; have h74 := h73.below hd74; have b74 := b73.trans (hd74.mono b73.size)) | (have hgz := h72; clear hgz; go_at_call_of 39 (Value.slice a5 ny c5); refine (hSy.out _ h72).mono ?_; rintro e w73 ⟨rfl, hd73⟩; have h73 := h72.below hd73; have b73 := b72.trans (hd73.mono b72.size)) | (have hgz := h71; clear hgz; go_at_call_of 39 (Value.slice av nx cv); refine (hSx.out _ h71).mono ?_; rintro e w72 ⟨rfl, hd72⟩; have h72 := h71.below hd72; have b72 := b71.trans (hd72.mono b71.size)) | (have hgz := hw5; clear hgz; go_at_call_of 39 (Value.slice a5 ny c5); refine (hSy.out _ hw5).mono ?_; rintro e w71 ⟨rfl, hd71⟩; have h71 := hw5.below hd71; have b71 := x5.below.trans (hd71.mono x5.below.size)))
                  go_roundw
                  case rel => exact ⟨k + 1, some xv, H5, by omega, by go_num, by show _ = _; rw [hstep.out], rfl, lr.trans l5, ⟨b75, h75, x5.same⟩, hsb5, fun x e => by cases e; exact hxc⟩
                  case measure => simp [intOf]; omega
                · rw [if_pos (by simp)] at hstep
                  replace hstep := Lib.hid hstep
                  go_wp2_with (first | (have hgz := h74; clear hgz; go_at_call 93; refine (hBf.out _ h74).mono ?_; rintro e w75 ⟨rfl, hd75⟩; have h75 := h74.below hd75; have b75 := b74.trans (hd75.mono b74.size)) | (have hgz := h73; clear hgz; go_at_call_of 39 (Value.slice av nx cv); refine (hSx.out _ h73).mono ?_; rintro e w74 ⟨rfl, hd74⟩; have h74 := h73.below hd74; have b74 := b73.trans (hd74.mono b73.size)) | (have hgz := h72; clear hgz; go_at_call_of 39 (Value.slice a5 ny c5); refine (hSy.out _ h72).mono ?_; rintro e w73 ⟨rfl, hd73⟩; have h73 := h72.below hd73; have b73 := b72.trans (hd73.mono b72.size)) | (have hgz := h71; clear hgz; go_at_call_of 39 (Value.slice av nx cv); refine (hSx.out _ h71).mono ?_; rintro e w72 ⟨rfl, hd72⟩; have h72 := h71.below hd72; have b72 := b71.trans (hd72.mono b71.size)) | (have hgz := hw5; clear hgz; go_at_call_of 39 (Value.slice a5 ny c5); refine (hSy.out _ hw5).mono ?_; rintro e w71 ⟨rfl, hd71⟩; have h71 := hw5.below hd71; have b71 := x5.below.trans (hd71.mono x5.below.size)))
                  go_roundw
                  case rel => exact ⟨k + 1, some yv, H5, by omega, by go_num, by show _ = _; rw [hstep.out], rfl, lr.trans l5, ⟨b75, h75, x5.same⟩, s5, fun x e => by cases e; exact hyc⟩
                  case measure => simp [intOf]; omega
              · have d1 : decide (sy < sx) = false := decide_eq_false (by omega)
                have d2 : (sy == sx) = false := by rw [beq_eq_false_iff_ne]; omega
                have d3 : decide (sy = sx) = false := decide_eq_false (by omega)
                rw [if_neg (by rw [d1, d3]; simp)] at hstep
                replace hstep := Lib.hid hstep
                go_wp2_with (first | (have hgz := h73; clear hgz; go_at_call_of 39 (Value.slice av nx cv); refine (hSx.out _ h73).mono ?_; rintro e w74 ⟨rfl, hd74⟩; have h74 := h73.below hd74; have b74 := b73.trans (hd74.mono b73.size)) | (have hgz := h72; clear hgz; go_at_call_of 39 (Value.slice a5 ny c5); refine (hSy.out _ h72).mono ?_; rintro e w73 ⟨rfl, hd73⟩; have h73 := h72.below hd73; have b73 := b72.trans (hd73.mono b72.size)) | (have hgz := h71; clear hgz; go_at_call_of 39 (Value.slice av nx cv); refine (hSx.out _ h71).mono ?_; rintro e w72 ⟨rfl, hd72⟩; have h72 := h71.below hd72; have b72 := b71.trans (hd72.mono b71.size)) | (have hgz := hw5; clear hgz; go_at_call_of 39 (Value.slice a5 ny c5); refine (hSy.out _ hw5).mono ?_; rintro e w71 ⟨rfl, hd71⟩; have h71 := hw5.below hd71; have b71 := x5.below.trans (hd71.mono x5.below.size)))
                go_roundw
                case rel => exact ⟨k + 1, some xv, H5, by omega, by go_num, by show _ = _; rw [hstep.out], rfl, lr.trans l5, ⟨b74, h74, x5.same⟩, hsb5, fun x e => by cases e; exact hxc⟩
                case measure => simp [intOf]; omega
      · have e : grownC (l :: L) c = acc := by
          rw [hgr.out, hacc.out, List.take_of_length_le (by omega)]
        replace e := Lib.hid e
        go_wp2_with fail
        go_ret2
        refine ⟨_, Hr, rfl, xr, .slice av (acc.getD []).length cv, ?_, by rw [e.out]; exact hsb⟩
        show Value.tuple #[.slice av (acc.getD []).length cv, .bool acc.isSome] = _
        rw [e.out]

end Go.Proofs.YtngdppajailpcaaGreat

namespace Go.Proofs.YtngdppajailpcaaGreat
open Go.RowKit

attribute [local go_sem] Holds.drew Holds.alloc Holds.drewN WB.holds Oper.semAt_some FW_fn FW_dep FW_round

theorem can9_no {h : Hall} {set : List Plate} {stop : Int} (hok : (validHall h && (setOk set && isCaseA h stop)) = false) : canA h set stop = false := (canA_no hok).1

set_option maxRecDepth 100000 in
set_option maxHeartbeats 4000000 in
theorem can9_any (vm vb vt vo ve vs : Value) (h : Hall) (set : List Plate) (stop : Int) (hstop : I64 stop) (H : Snap) (w : World) (hw : Holds H w) (hh : Hal H vm vb vt vo ve h) (hs : Sl H vs set) :
    Calls Tryz.prog 23 #[halV vm vb vt vo ve h, vs, .int .i64 stop] w (PostV w (.tuple #[.bool (canA h set stop), .int .i64 (askM (validHall h) (setOk set && isCaseA h stop))])) := by
  have hgs : ∀ (b c : Bool), setOk set = b → isCaseA h stop = c → (∀ (w2 : World) (H1 : Snap), True) := fun _ _ _ _ _ _ => trivial
  clear hgs
  cases hok : validHall h && (setOk set && isCaseA h stop)
  · have hn := can9_no hok
    have he := askM_ne hok
    rw [hn]
    replace hok := Lib.hid hok
    cases gs : setOk set
    · rw [gs] at he
      simp only [Bool.false_and] at he ⊢
      rcases he with he | he
      all_goals
        rw [he]
        replace he := Lib.hid he
        go_enter Tryz.func23, Tryz.ntmps23
        go_upto_region 1 with (refine wpList_boxF rfl _ rfl (Ext.refl hw) ?_; intro B w1 H1 hle hx hB hBw; obtain ⟨hc0, hc1, hc2, hc3, hc4, hc5⟩ := cellsHal hB; clear hB hw; have hw1 := hx.holds)
        have hhc := hh.mono hle
        have hS : Hid (∀ w, Holds H1 w → Calls Tryz.prog 68 #[vs] w (PostV w (.bool (setOk set)))) := Lib.hid fun w hw => isSet9_any _ _ _ _ hw (hs.mono hle)
        rw [gs] at hS
        refine wp_region_quietB H1 (by kernel_rfl) (by kernel_rfl) hw1 (fun hne => ?_)
        repeat go_big_quiet_step ((first | (go_at_call 68; exact Calls.quietB (hS.out _ (WB.holds _))) | (go_at_call 50; exact Calls.quietB (ask9_any _ _ _ _ _ _ _ _ _ (WB.holds _) hhc))))
        refine wpQuiet_nil ?_
        rintro ⟨w2, hw2, hb2⟩
        clear hne
        rw [he.out]
        go_wp2
        go_ret2
        exact ⟨rfl, hx.below.trans (hb2.mono hx.below.size)⟩
    · rw [gs] at he
      simp only [Bool.true_and] at he ⊢
      cases g1 : (stop == -1)
      · have hce : isCaseA h stop = within stop 0 ((h.hs.ms.length : Int) - 1) := by
          unfold isCaseA isMachA
          rw [show decide (stop = -1) = false from by rw [decide_eq_false_iff_not]; rw [beq_eq_false_iff_ne] at g1; exact g1, Bool.false_or]
        rw [hce] at he ⊢
        rcases he with he | he
        all_goals
          rw [he]
          replace he := Lib.hid he
          go_enter Tryz.func23, Tryz.ntmps23
          go_upto_region 1 with (refine wpList_boxF rfl _ rfl (Ext.refl hw) ?_; intro B w1 H1 hle hx hB hBw; obtain ⟨hc0, hc1, hc2, hc3, hc4, hc5⟩ := cellsHal hB; clear hB hw; have hw1 := hx.holds)
          have hhc := hh.mono hle
          have hS : Hid (∀ w, Holds H1 w → Calls Tryz.prog 68 #[vs] w (PostV w (.bool (setOk set)))) := Lib.hid fun w hw => isSet9_any _ _ _ _ hw (hs.mono hle)
          rw [gs] at hS
          refine wp_region_quietB H1 (by kernel_rfl) (by kernel_rfl) hw1 (fun hne => ?_)
          repeat go_big_quiet_step ((first | (go_at_call 51; exact Calls.quietB (isMachine4_any _ _ _ _ stop _ _ (WB.holds _) hhc.hs)) | (go_at_call 68; exact Calls.quietB (hS.out _ (WB.holds _))) | (go_at_call 50; exact Calls.quietB (ask9_any _ _ _ _ _ _ _ _ _ (WB.holds _) hhc))))
          refine wpQuiet_nil ?_
          rintro ⟨w2, hw2, hb2⟩
          clear hne
          rw [he.out]
          go_wp2
          go_ret2
          exact ⟨rfl, hx.below.trans (hb2.mono hx.below.size)⟩
      · have hce : isCaseA h stop = true := by
          unfold isCaseA
          rw [show decide (stop = -1) = true from by rw [decide_eq_true_eq]; exact eq_of_beq g1, Bool.true_or]
        rw [hce] at he ⊢
        rcases he with he | he
        all_goals
          rw [he]
          replace he := Lib.hid he
          go_enter Tryz.func23, Tryz.ntmps23
          go_upto_region 1 with (refine wpList_boxF rfl _ rfl (Ext.refl hw) ?_; intro B w1 H1 hle hx hB hBw; obtain ⟨hc0, hc1, hc2, hc3, hc4, hc5⟩ := cellsHal hB; clear hB hw; have hw1 := hx.holds)
          have hhc := hh.mono hle
          have hS : Hid (∀ w, Holds H1 w → Calls Tryz.prog 68 #[vs] w (PostV w (.bool (setOk set)))) := Lib.hid fun w hw => isSet9_any _ _ _ _ hw (hs.mono hle)
          rw [gs] at hS
          refine wp_region_quietB H1 (by kernel_rfl) (by kernel_rfl) hw1 (fun hne => ?_)
          repeat go_big_quiet_step ((first | (go_at_call 68; exact Calls.quietB (hS.out _ (WB.holds _))) | (go_at_call 50; exact Calls.quietB (ask9_any _ _ _ _ _ _ _ _ _ (WB.holds _) hhc))))
          refine wpQuiet_nil ?_
          rintro ⟨w2, hw2, hb2⟩
          clear hne
          rw [he.out]
          go_wp2
          go_ret2
          exact ⟨rfl, hx.below.trans (hb2.mono hx.below.size)⟩
  · simp only [Bool.and_eq_true] at hok
    obtain ⟨hv1, hv2, hv3⟩ := hok
    have hV := validHall_iff.1 hv1
    have hm3 := hV.hs.m3
    have he : askM (validHall h) true = 0 := by rw [hv1]; rfl
    have hcn := countsOf_cn hv2
    have hst : -1 ≤ stop ∧ stop ≤ 3 := by
      unfold isCaseA isMachA at hv3
      rw [Bool.or_eq_true, decide_eq_true_eq, within_iff] at hv3
      omega
    have hcan : canA h set stop = doesC (countsOf set) (needsU h stop) := by
      unfold canA; rw [hv1, hv2, hv3, doesU]; rfl
    rw [hcan, hv2, hv3, Bool.true_and, he]
    replace hst := Lib.hid hst
    clear hcan
    have tail : ∀ (g : Bool), (stop == -1) = g → Calls Tryz.prog 23 #[halV vm vb vt vo ve h, vs, .int .i64 stop] w (PostV w (.tuple #[.bool (doesC (countsOf set) (needsU h stop)), .int .i64 0])) := by
      intro g hg
      have hce : g = false → within stop 0 ((h.hs.ms.length : Int) - 1) = true := fun e => by
        subst e
        unfold isCaseA isMachA at hv3
        rw [show decide (stop = -1) = false from by rw [decide_eq_false_iff_not]; rw [beq_eq_false_iff_ne] at hg; exact hg, Bool.false_or] at hv3
        exact hv3
      cases g
      all_goals
        have hce2 := Lib.hid hce
        clear hce
        go_enter Tryz.func23, Tryz.ntmps23
        go_upto_region 1 with (refine wpList_boxF rfl _ rfl (Ext.refl hw) ?_; intro B w1 H1 hle hx hB hBw; obtain ⟨hc0, hc1, hc2, hc3, hc4, hc5⟩ := cellsHal hB; clear hB hw; have hw1 := hx.holds)
        have hhc := hh.mono hle
        have hS : Hid (∀ w, Holds H1 w → Calls Tryz.prog 68 #[vs] w (PostV w (.bool true))) := Lib.hid fun w hw => by rw [← hv2]; exact isSet9_any _ _ _ _ hw (hs.mono hle)
        have hM : Hid (∀ w, Holds H1 w → false = false → Calls Tryz.prog 51 #[houV vm vb vt h.hs, .int .i64 stop] w (PostV w (.bool (within stop 0 ((h.hs.ms.length : Int) - 1))))) := Lib.hid fun w hw _ => isMachine4_any _ _ _ _ stop _ _ hw hhc.hs
        try rw [hce2.out rfl] at hM
        refine wp_region_quietB H1 (by kernel_rfl) (by kernel_rfl) hw1 (fun hne => ?_)
        repeat go_big_quiet_step ((first | (go_at_call 51; exact Calls.quietB (hM.out _ (WB.holds _) rfl)) | (go_at_call 68; exact Calls.quietB (hS.out _ (WB.holds _))) | (go_at_call 50; exact Calls.quietB (ask9_any _ _ _ _ _ _ _ _ _ (WB.holds _) hhc))))
        refine wpQuiet_nil ?_
        rintro ⟨w2, hw2, hb2⟩
        clear hne
        rw [he]
        have hx2 := hx.step (hb2.mono hx.below.size) hw2
        have hsc := hs.mono hle
        clear hS hM hx hw1
        go_upto_region 4 with fail
        go_cut [6, 7] (fun b e wx => b = .bool (doesC (countsOf set) (needsU h stop)) ∧ e = .int .i64 0 ∧ Ext w H wx H1)
        case first =>
          go_region_held3 (fun w' => Holds H1 w' ∧ Ext w H w' H1) (first | assumption | exact ⟨by assumption, by assumption⟩ | (go_split_ands; exact ⟨Holds.drew (by assumption), Ext.drew (by assumption)⟩) | (go_split_ands; exact ⟨Holds.alloc (by assumption) _, Ext.alloc (by assumption) _⟩) | (go_split_ands; exact ⟨Holds.drew (Holds.alloc (by assumption) _), Ext.drew (Ext.alloc (by assumption) _)⟩)) (first | ((have hgd := sB; clear hgd; go_split_ands; go_at_call 69; refine (does9_any _ _ _ _ hcn (needsU_cn hV) HB _ xB.holds (sA.mono lB) sB).mono ?_; rintro e wC ⟨rfl, hbC⟩; have k5 : Holds H1 wC := k3.below hbC; have k6 : Ext w H wC H1 := k4.step (hbC.mono k4.below.size) k5)) | ((have hgd := sA; clear hgd; go_split_ands; go_at_call 70; refine (needsOf9_any _ _ _ _ _ h hV stop hst.out HA _ xA.holds (hhc.mono lA)).mono ?_; rintro e wB ⟨vB, HB0, rfl, xB0, oB⟩; obtain ⟨HB, xB, _, sB, _⟩ := oB.close xB0; obtain ⟨aB, cB, rfl, _, _⟩ := sB.form; have lB := xB.le xA.holds; have yB := yA.trans xB; have k3 : Holds H1 wB := xB.holds.mono (lA.trans lB); have k4 : Ext w H wB H1 := yB.back (by assumption) (lA.trans lB))) | ((go_split_ands; go_at_call 36; refine (countsOf9_any _ set H1 _ (by assumption) hsc hv2).mono ?_; rintro e wA ⟨vA, HA0, rfl, xA0, oA⟩; obtain ⟨HA, xA, _, sA, _⟩ := oA.close xA0; obtain ⟨aA, cA, rfl, _, _⟩ := sA.form; have lA := xA.le (by assumption); have yA := (by assumption : Ext w H _ H1).trans xA; have k1 : Holds H1 wA := xA.holds.mono lA; have k2 : Ext w H wA H1 := yA.back (by assumption) lA)))
          all_goals
            go_wp2_with fail
            go_meet
            exact ⟨rfl, rfl, k6⟩
        case rest =>
          obtain ⟨rfl, rfl, x6⟩ := hcut
          go_wp2
          go_ret2
          exact ⟨rfl, x6.below⟩
    cases g : (stop == -1)
    · exact tail false g
    · exact tail true g

set_option maxRecDepth 100000 in
set_option maxHeartbeats 4000000 in
theorem isEnough9_any (vm vb vt vo ve vs : Value) (h : Hall) (hV : ValidH h) (set : List Plate) (hset : setOk set = true) (H : Snap) (w : World) (hw : Holds H w) (hh : Hal H vm vb vt vo ve h) (hs : Sl H vs set) :
    Calls Tryz.prog 34 #[halV vm vb vt vo ve h, vs] w (PostV w (.bool (doAllC (countsOf set) (allA h)))) := by
  have hcn := countsOf_cn hset
  rw [← doAllU]
  obtain ⟨ss, cs, rfl, _, _⟩ := hs.form
  go_enter Tryz.func34, Tryz.ntmps34
  go_upto_region 1 with (refine wpList_boxF rfl _ rfl (Ext.refl hw) ?_; intro B w1 H1 hle hx hB hBw; obtain ⟨hc0, hc1, hc2, hc3, hc4, hc5⟩ := cellsHal hB; clear hB hw; have hw1 := hx.holds)
  have hhc := hh.mono hle
  have hsc := hs.mono hle
  go_cut [4] (fun b wx => b = .bool (doAllC (countsOf set) (allU h)) ∧ Ext w H wx H1)
  case first =>
    go_region_held3 (fun w' => Holds H1 w' ∧ Ext w H w' H1) (first | assumption | exact ⟨by assumption, by assumption⟩ | (go_split_ands; exact ⟨Holds.drew (by assumption), Ext.drew (by assumption)⟩) | (go_split_ands; exact ⟨Holds.alloc (by assumption) _, Ext.alloc (by assumption) _⟩) | (go_split_ands; exact ⟨Holds.drew (Holds.alloc (by assumption) _), Ext.drew (Ext.alloc (by assumption) _)⟩)) (first | ((have hgd := sB; clear hgd; go_split_ands; go_at_call 77; refine (doAll9_any _ _ _ _ hcn (allU_cn hV) HB _ xB.holds (sA.mono lB) sB).mono ?_; rintro e wC ⟨rfl, hbC⟩; have k5 : Holds H1 wC := k3.below hbC; have k6 : Ext w H wC H1 := k4.step (hbC.mono k4.below.size) k5)) | ((have hgd := sA; clear hgd; go_split_ands; go_at_call 59; refine (allNeeds9_any _ _ _ _ _ h hV HA _ xA.holds (hhc.mono lA)).mono ?_; rintro e wB ⟨vB, HB, rfl, xB, sB⟩; obtain ⟨aB, cB, rfl, _, _⟩ := sB.form; have lB := xB.le xA.holds; have yB := yA.trans xB; have k3 : Holds H1 wB := xB.holds.mono (lA.trans lB); have k4 : Ext w H wB H1 := yB.back (by assumption) (lA.trans lB))) | ((go_split_ands; go_at_call 36; refine (countsOf9_any _ set H1 _ (by assumption) hsc hset).mono ?_; rintro e wA ⟨vA, HA0, rfl, xA0, oA⟩; obtain ⟨HA, xA, _, sA, _⟩ := oA.close xA0; obtain ⟨aA, cA, rfl, _, _⟩ := sA.form; have lA := xA.le (by assumption); have yA := (by assumption : Ext w H _ H1).trans xA; have k1 : Holds H1 wA := xA.holds.mono lA; have k2 : Ext w H wA H1 := yA.back (by assumption) lA)))
    all_goals
      go_wp2_with fail
      go_meet
      exact ⟨rfl, k6⟩
  case rest =>
    obtain ⟨rfl, x6⟩ := hcut
    go_wp2
    go_ret
    exact ⟨rfl, x6.below⟩
theorem pair_bool {a : Value} {x : Bool} : (Value.tuple #[a, .bool x]) = .tuple #[a, .bool x] := rfl

set_option maxRecDepth 100000 in
set_option maxHeartbeats 4000000 in
theorem set9_any (vm vb vt vo ve : Value) (h : Hall) (H : Snap) (w : World) (hw : Holds H w) (hh : Hal H vm vb vt vo ve h) :
    Calls Tryz.prog 17 #[halV vm vb vt vo ve h] w (Post w H fun v H' => ∃ u, v = .tuple #[u, .int .i64 (errF h)] ∧ Sl H' u (setA h)) := by
  cases hv : validHall h
  · have hn : setA h = [] := by unfold setA; rw [hv]; rfl
    have he : errF h = 90 := by unfold errF; rw [hv]; rfl
    rw [he]
    go_enter Tryz.func17, Tryz.ntmps17
    go_wp2_with (first | (go_at_call 43; refine (check9_any _ _ _ _ _ h H1 _ hw1 (hh.mono hle)).mono ?_; rintro e w2 ⟨rfl, hb2⟩; rw [hv, show errM false = 90 from rfl]; have x2 := hx.step (hb2.mono hx.below.size) (hw1.below hb2)) | (refine wpList_boxF rfl _ rfl (Ext.refl hw) ?_; intro B w1 H1 hle hx hB hBw; obtain ⟨hc0, hc1, hc2, hc3, hc4, hc5⟩ := cellsHal hB; clear hB hw; have hw1 := hx.holds))
    go_ret2
    exact post2_no x2 hn
  · have hV := validHall_iff.1 hv
    have hgu : grownC (allU h) zero12 = leastA h zero12 := grownU hV (mk12_len _)
    have hcn : ∀ y, leastA h zero12 = some y → Cn y := fun y e => leastA_cn hV Cn.zero e
    have hsetA : setA h = (match leastA h zero12 with | none => [] | some c => setOf c) := by unfold setA; rw [hv]; rfl
    have herr : errF h = (if (leastA h zero12).isSome then 0 else 3) := by unfold errF errL; rw [hv]; rfl
    replace hsetA := Lib.hid hsetA
    replace herr := Lib.hid herr
    have hgA := fun (va vb : Value) (H : Snap) (w : World) hw h1 h2 => grown9_any (allU h) zero12 Cn.zero (allU_cn hV) va vb H w hw h1 h2
    rw [hgu] at hgA
    generalize leastA h zero12 = y at *
    replace hgA := Lib.hid hgA
    clear hgu
    cases y with
    | none =>
      rw [herr.out, if_neg (by decide)]
      have hn : setA h = [] := hsetA.out
      go_enter Tryz.func17, Tryz.ntmps17
      go_wp2_with (first | ((have hgd := sB; clear hgd; go_at_call 58; refine (hgA.out _ _ HB _ xB.holds (sA.mono lB) sB).mono ?_; rintro e wC ⟨vC, HC, rfl, xC, uC, rfl, sC⟩; obtain ⟨aC, cC, rfl, _, _⟩ := sC.form; have yC := yB.trans xC)) | ((have hgd := sA; clear hgd; go_at_call 36; refine (countsOf9_any _ [] HA _ xA.holds (Sl.nil0 _) rfl).mono ?_; rintro e wB ⟨vB, HB0, rfl, xB0, oB⟩; obtain ⟨HB, xB, _, sB, _⟩ := oB.close xB0; obtain ⟨aB, cB, rfl, _, _⟩ := sB.form; have lB := xB.le xA.holds; have yB := yA.trans xB)) | ((have hgd := x2; clear hgd; go_at_call 59; refine (allNeeds9_any _ _ _ _ _ h hV H1 _ x2.holds (hh.mono hle)).mono ?_; rintro e wA ⟨vA, HA, rfl, xA, sA⟩; obtain ⟨aA, cA, rfl, _, _⟩ := sA.form; have yA := x2.trans xA)) | ((have hgd := hw1; clear hgd; go_at_call 43; refine (check9_any _ _ _ _ _ h H1 _ hw1 (hh.mono hle)).mono ?_; rintro e w2 ⟨rfl, hb2⟩; rw [hv, show errM true = 0 from rfl]; have x2 := hx.step (hb2.mono hx.below.size) (hw1.below hb2); have hw2 := x2.holds)) | (have hgd := hw; clear hgd; refine wpList_boxF rfl _ rfl (Ext.refl hw) ?_; intro B w1 H1 hle hx hB hBw; obtain ⟨hc0, hc1, hc2, hc3, hc4, hc5⟩ := cellsHal hB; clear hB hw; have hw1 := hx.holds))
      go_ret2
      exact post2_no yC hn
    | some c =>
      rw [herr.out]
      simp only [Option.isSome_some, ↓reduceIte]
      have hn : setA h = setOf c := hsetA.out
      have hc := hcn c rfl
      replace hn := Lib.hid hn
      go_enter Tryz.func17, Tryz.ntmps17
      go_wp2_with (first | ((have hgd := sC; clear hgd; go_at_call 60; refine (setOf9_any _ c hc HC _ xC.holds sC).mono ?_; rintro e wD ⟨vD, HD0, rfl, xD0, oD⟩; obtain ⟨HD, xD, _, sD, _⟩ := oD.close xD0; obtain ⟨aD, cD, rfl, _, _⟩ := sD.form; have yD := yC.trans xD)) | ((have hgd := sB; clear hgd; go_at_call 58; refine (hgA.out _ _ HB _ xB.holds (sA.mono lB) sB).mono ?_; rintro e wC ⟨vC, HC, rfl, xC, uC, rfl, sC⟩; obtain ⟨aC, cC, rfl, _, _⟩ := sC.form; have yC := yB.trans xC)) | ((have hgd := sA; clear hgd; go_at_call 36; refine (countsOf9_any _ [] HA _ xA.holds (Sl.nil0 _) rfl).mono ?_; rintro e wB ⟨vB, HB0, rfl, xB0, oB⟩; obtain ⟨HB, xB, _, sB, _⟩ := oB.close xB0; obtain ⟨aB, cB, rfl, _, _⟩ := sB.form; have lB := xB.le xA.holds; have yB := yA.trans xB)) | ((have hgd := x2; clear hgd; go_at_call 59; refine (allNeeds9_any _ _ _ _ _ h hV H1 _ x2.holds (hh.mono hle)).mono ?_; rintro e wA ⟨vA, HA, rfl, xA, sA⟩; obtain ⟨aA, cA, rfl, _, _⟩ := sA.form; have yA := x2.trans xA)) | ((have hgd := hw1; clear hgd; go_at_call 43; refine (check9_any _ _ _ _ _ h H1 _ hw1 (hh.mono hle)).mono ?_; rintro e w2 ⟨rfl, hb2⟩; rw [hv, show errM true = 0 from rfl]; have x2 := hx.step (hb2.mono hx.below.size) (hw1.below hb2); have hw2 := x2.holds)) | (have hgd := hw; clear hgd; refine wpList_boxF rfl _ rfl (Ext.refl hw) ?_; intro B w1 H1 hle hx hB hBw; obtain ⟨hc0, hc1, hc2, hc3, hc4, hc5⟩ := cellsHal hB; clear hB hw; have hw1 := hx.holds))
      go_ret2
      rw [hn.out]
      exact post2_of yD sD

end Go.Proofs.YtngdppajailpcaaGreat

namespace Go.Proofs.YtngdppajailpcaaGreat
open Go.RowKit

attribute [local go_sem] Holds.drew Holds.alloc Holds.drewN WB.holds Oper.semAt_some FW_fn FW_dep FW_round


set_option maxRecDepth 100000 in
set_option maxHeartbeats 4000000 in
theorem extra9_any (vm vb vt vo ve vs : Value) (h : Hall) (set : List Plate) (H : Snap) (w : World) (hw : Holds H w) (hh : Hal H vm vb vt vo ve h) (hs : Sl H vs set) :
    Calls Tryz.prog 28 #[halV vm vb vt vo ve h, vs] w (PostV w (.tuple #[.int .i64 (extraA h set), .int .i64 (errL (askM (validHall h) (setOk set)) (leastA h (countsOf set)))])) := by
  cases hok : validHall h && setOk set
  · have hn : extraA h set = 0 := by unfold extraA; rw [hok]; rfl
    have he := askM_ne hok
    have heL : errL (askM (validHall h) (setOk set)) (leastA h (countsOf set)) = askM (validHall h) (setOk set) := by
      unfold errL; rw [if_neg (by rcases he with he | he <;> rw [he] <;> decide)]
    rw [hn, heL]
    replace hok := Lib.hid hok
    clear heL
    rcases he with he | he
    all_goals
      rw [he]
      replace he := Lib.hid he
      go_enter Tryz.func28, Tryz.ntmps28
      go_upto_region 1 with (refine wpList_boxF rfl _ rfl (Ext.refl hw) ?_; intro B w1 H1 hle hx hB hBw; obtain ⟨hc0, hc1, hc2, hc3, hc4, hc5⟩ := cellsHal hB; clear hB hw; have hw1 := hx.holds)
      have hhc := hh.mono hle
      refine wp_region_quietB H1 (by kernel_rfl) (by kernel_rfl) hw1 (fun hne => ?_)
      repeat go_big_quiet_step ((first | (go_at_call 68; exact Calls.quietB (isSet9_any _ _ _ _ (WB.holds _) (hs.mono hle))) | (go_at_call 50; exact Calls.quietB (ask9_any _ _ _ _ _ _ _ _ _ (WB.holds _) hhc))))
      refine wpQuiet_nil ?_
      rintro ⟨w2, hw2, hb2⟩
      clear hne
      rw [he.out]
      go_wp2
      go_ret2
      exact ⟨rfl, hx.below.trans (hb2.mono hx.below.size)⟩
  · simp only [Bool.and_eq_true] at hok
    obtain ⟨hvh, hst⟩ := hok
    have hV := validHall_iff.1 hvh
    have he : askM (validHall h) (setOk set) = 0 := by rw [hvh, hst]; rfl
    have hcn := countsOf_cn hst
    have hgu : grownC (allU h) (countsOf set) = leastA h (countsOf set) := grownU hV hcn.len
    have hyn : ∀ y, leastA h (countsOf set) = some y → Cn y := fun y e => leastA_cn hV hcn e
    have hxA : extraA h set = (match leastA h (countsOf set) with | none => 0 | some c => cntSum c - platesOf set) := by unfold extraA; rw [hvh, hst]; rfl
    have herr : errL 0 (leastA h (countsOf set)) = (if (leastA h (countsOf set)).isSome then 0 else 3) := rfl
    rw [hxA, he, herr]
    rw [hst] at he
    clear hxA herr
    have hgA := fun (va vb : Value) (H : Snap) (w : World) hw h1 h2 => grown9_any (allU h) (countsOf set) hcn (allU_cn hV) va vb H w hw h1 h2
    rw [hgu] at hgA
    generalize leastA h (countsOf set) = y at *
    replace hgA := Lib.hid hgA
    clear hgu
    have hpb := platesOf_bd hst
    obtain ⟨ss, cs, rfl, _, _⟩ := hs.form
    cases y with
    | none =>
      rw [if_neg (by decide)]
      go_enter Tryz.func28, Tryz.ntmps28
      go_upto_region 1 with (refine wpList_boxF rfl _ rfl (Ext.refl hw) ?_; intro B w1 H1 hle hx hB hBw; obtain ⟨hc0, hc1, hc2, hc3, hc4, hc5⟩ := cellsHal hB; clear hB hw; have hw1 := hx.holds)
      have hhc := hh.mono hle
      have hsc := hs.mono hle
      refine wp_region_quietB H1 (by kernel_rfl) (by kernel_rfl) hw1 (fun hne => ?_)
      repeat go_big_quiet_step ((first | (go_at_call 68; exact Calls.quietB (isSet9_any _ _ _ _ (WB.holds _) (hs.mono hle))) | (go_at_call 50; exact Calls.quietB (ask9_any _ _ _ _ _ _ _ _ _ (WB.holds _) hhc))))
      refine wpQuiet_nil ?_
      rintro ⟨w2, hw2, hb2⟩
      clear hne
      rw [he]
      have x2 := hx.step (hb2.mono hx.below.size) hw2
      clear hx hw1
      go_wp2_with (first | (have hgd := sB; clear hgd; go_at_call 58; refine (hgA.out _ _ HB _ xB.holds (sA.mono lB) sB).mono ?_; rintro e wC ⟨vC, HC, rfl, xC, uC, rfl, sC⟩; obtain ⟨aC, cC, rfl, _, _⟩ := sC.form; have lC := xC.le xB.holds; have yC := yB.trans xC; have hwC := xC.holds) | (have hgd := sA; clear hgd; go_at_call 36; refine (countsOf9_any _ set HA _ xA.holds (hsc.mono lA) hst).mono ?_; rintro e wB ⟨vB, HB0, rfl, xB0, oB⟩; obtain ⟨HB, xB, _, sB, _⟩ := oB.close xB0; obtain ⟨aB, cB, rfl, _, _⟩ := sB.form; have lB := xB.le xA.holds; have yB := yA.trans xB) | (have hgd := x2; clear hgd; go_at_call 59; refine (allNeeds9_any _ _ _ _ _ h hV H1 _ x2.holds hhc).mono ?_; rintro e wA ⟨vA, HA, rfl, xA, sA⟩; obtain ⟨aA, cA, rfl, _, _⟩ := sA.form; have lA := xA.le x2.holds; have yA := x2.trans xA))
      go_ret2
      exact ⟨rfl, yC.below⟩
    | some c =>
      simp only [Option.isSome_some, ↓reduceIte]
      have hc := hyn c rfl
      have hcb := hc.sum
      have hcl := hc.len
      have hbd := hc.bd
      (try simp only)
      have hPl := fun (J : Value) (H : Snap) (W : World) (hW : Holds H W) (hJ : Sl H J set) => platesOf9_any J set H W hW hJ hst
      have hSm := fun (J : Value) (H : Snap) (W : World) (hW : Holds H W) (hJ : Sl H J c) => sum1_any J c (by omega) hbd H W hW hJ
      generalize platesOf set = P at *
      generalize cntSum c = S at *
      have hwrp : IntKind.i64.wrap (S - P) = S - P := IntWalk.i64_in _ (by omega)
      replace hPl := Lib.hid hPl
      replace hSm := Lib.hid hSm
      clear hcl
      go_enter Tryz.func28, Tryz.ntmps28
      go_upto_region 1 with (refine wpList_boxF rfl _ rfl (Ext.refl hw) ?_; intro B w1 H1 hle hx hB hBw; obtain ⟨hc0, hc1, hc2, hc3, hc4, hc5⟩ := cellsHal hB; clear hB hw; have hw1 := hx.holds)
      have hhc := hh.mono hle
      have hsc := hs.mono hle
      refine wp_region_quietB H1 (by kernel_rfl) (by kernel_rfl) hw1 (fun hne => ?_)
      repeat go_big_quiet_step ((first | (go_at_call 68; exact Calls.quietB (isSet9_any _ _ _ _ (WB.holds _) (hs.mono hle))) | (go_at_call 50; exact Calls.quietB (ask9_any _ _ _ _ _ _ _ _ _ (WB.holds _) hhc))))
      refine wpQuiet_nil ?_
      rintro ⟨w2, hw2, hb2⟩
      clear hne
      rw [he]
      have x2 := hx.step (hb2.mono hx.below.size) hw2
      clear hx hw1
      go_wp2_with (first | ((have hgd := hwE; clear hgd; go_at_call 37; refine (hPl.out _ HC _ hwE (((hsc.mono lA).mono lB).mono lC)).mono ?_; rintro e wF ⟨rfl, hbF⟩; have yF := yE.trans (hbF.mono yE.size))) | ((have hgd := sC; clear hgd; go_at_call 39; refine (hSm.out _ HC _ hwC sC).mono ?_; rintro e wE ⟨rfl, hbE⟩; have hwE := hwC.below hbE; have yE := yC.below.trans (hbE.mono yC.below.size))) | (have hgd := sB; clear hgd; go_at_call 58; refine (hgA.out _ _ HB _ xB.holds (sA.mono lB) sB).mono ?_; rintro e wC ⟨vC, HC, rfl, xC, uC, rfl, sC⟩; obtain ⟨aC, cC, rfl, _, _⟩ := sC.form; have lC := xC.le xB.holds; have yC := yB.trans xC; have hwC := xC.holds) | (have hgd := sA; clear hgd; go_at_call 36; refine (countsOf9_any _ set HA _ xA.holds (hsc.mono lA) hst).mono ?_; rintro e wB ⟨vB, HB0, rfl, xB0, oB⟩; obtain ⟨HB, xB, _, sB, _⟩ := oB.close xB0; obtain ⟨aB, cB, rfl, _, _⟩ := sB.form; have lB := xB.le xA.holds; have yB := yA.trans xB) | (have hgd := x2; clear hgd; go_at_call 59; refine (allNeeds9_any _ _ _ _ _ h hV H1 _ x2.holds hhc).mono ?_; rintro e wA ⟨vA, HA, rfl, xA, sA⟩; obtain ⟨aA, cA, rfl, _, _⟩ := sA.form; have lA := xA.le x2.holds; have yA := x2.trans xA))
      go_ret2
      exact ⟨rfl, yF⟩
theorem platesOf_setOf {c : Cnt} (hc : Cn c) (h9 : ∀ k, k < 12 → gT c k ≤ 9) : platesOf (setOf c) = cntSum c := by
  rw [platesOf_sum _ (setOk_iff.1 (setOf_ok h9)).1, countsOf_setOf hc]
theorem leastA_few {h : Hall} (hV : ValidH h) {x : Cnt} (e : leastA h zero12 = some x) : ∀ k, k < 12 → gT x k ≤ 9 := by
  obtain ⟨⟨y, hy, rfl⟩, _⟩ := leastA_some hV Cn.zero e
  have h3 := joinsH_cn3 hV y hy
  intro k hk
  have hb := h3.bd k hk
  rw [cntMax_at Cn.zero.len h3.len hk, gt_zero hk]
  omega
theorem setA_ok {h : Hall} : setOk (setA h) = true := by
  unfold setA
  cases hv : validHall h
  · rfl
  · rw [if_pos rfl]
    cases e : leastA h zero12 with
    | none => rfl
    | some c => exact setOf_ok (leastA_few (validHall_iff.1 hv) e)
theorem plates_setA (h : Hall) : platesOf (setA h) = fewestA h := by
  unfold setA fewestA extraA
  rw [show setOk ([] : List Plate) = true from rfl, Bool.and_true]
  cases hv : validHall h
  · rfl
  · rw [if_pos rfl, if_pos rfl]
    show platesOf (match leastA h zero12 with | none => [] | some c => setOf c) = (match leastA h zero12 with | none => 0 | some c => cntSum c - platesOf [])
    cases e : leastA h zero12 with
    | none => rfl
    | some c =>
      have hV := validHall_iff.1 hv
      show platesOf (setOf c) = cntSum c - platesOf []
      rw [platesOf_setOf (leastA_cn hV Cn.zero e) (leastA_few hV e)]
      show cntSum c = cntSum c - 0
      omega
theorem fewest_err {h : Hall} (e : errF h ≠ 0) : fewestA h = 0 := by
  unfold fewestA extraA
  unfold errF errL at e
  cases hv : validHall h
  · rfl
  · rw [hv] at e
    rw [show setOk ([] : List Plate) = true from rfl, Bool.and_true, if_pos rfl]
    show (match leastA h zero12 with | none => 0 | some c => cntSum c - platesOf []) = 0
    cases e2 : leastA h zero12 with
    | none => rfl
    | some c => rw [e2] at e; exact absurd rfl e

set_option maxRecDepth 100000 in
set_option maxHeartbeats 4000000 in
theorem fewest9_any (vm vb vt vo ve : Value) (h : Hall) (H : Snap) (w : World) (hw : Holds H w) (hh : Hal H vm vb vt vo ve h) :
    Calls Tryz.prog 15 #[halV vm vb vt vo ve h] w (PostV w (.tuple #[.int .i64 (fewestA h), .int .i64 (errF h)])) := by
  have hS := fun (H : Snap) (w : World) hw hh => set9_any vm vb vt vo ve h H w hw hh
  have hP := fun (J : Value) (H : Snap) (W : World) (hW : Holds H W) (hJ : Sl H J (setA h)) => platesOf9_any J (setA h) H W hW hJ setA_ok
  rw [plates_setA] at hP
  replace hP := Lib.hid hP
  cases he : (errF h != 0)
  · have he0 : errF h = 0 := by simpa using he
    rw [he0] at hS ⊢
    replace hS := Lib.hid hS
    clear he he0
    go_enter Tryz.func15, Tryz.ntmps15
    go_wp2_with (first | ((have hgd := s2; clear hgd; go_at_call 37; refine (hP.out _ H2 _ x2.holds s2).mono ?_; rintro e w3 ⟨rfl, hb3⟩)) | ((have hgd := hw1; clear hgd; go_at_call 17; refine (hS.out H1 _ hw1 (hh.mono hle)).mono ?_; rintro e w2 ⟨v2, H2, rfl, x2, u2, rfl, s2⟩; obtain ⟨a2, c2, rfl, _, _⟩ := s2.form)) | (have hgd := hw; clear hgd; refine wpList_boxF rfl _ rfl (Ext.refl hw) ?_; intro B w1 H1 hle hx hB hBw; obtain ⟨hc0, hc1, hc2, hc3, hc4, hc5⟩ := cellsHal hB; clear hB hw; have hw1 := hx.holds))
    go_ret2
    exact ⟨rfl, (hx.trans x2).below.trans (hb3.mono (hx.trans x2).below.size)⟩
  · have hf := fewest_err (h := h) (by simpa using he)
    rw [hf]
    generalize errF h = E at *
    clear hf
    replace hS := Lib.hid hS
    go_enter Tryz.func15, Tryz.ntmps15
    go_wp2_with (first | ((have hgd := hw1; clear hgd; go_at_call 17; refine (hS.out H1 _ hw1 (hh.mono hle)).mono ?_; rintro e w2 ⟨v2, H2, rfl, x2, u2, rfl, s2⟩; obtain ⟨a2, c2, rfl, _, _⟩ := s2.form)) | (have hgd := hw; clear hgd; refine wpList_boxF rfl _ rfl (Ext.refl hw) ?_; intro B w1 H1 hle hx hB hBw; obtain ⟨hc0, hc1, hc2, hc3, hc4, hc5⟩ := cellsHal hB; clear hB hw; have hw1 := hx.holds))
    go_ret2
    exact ⟨rfl, (hx.trans x2).below⟩

set_option maxRecDepth 100000 in
set_option maxHeartbeats 4000000 in
theorem calm9_any (vm vb vt vo ve : Value) (h : Hall) (H : Snap) (w : World) (hw : Holds H w) (hh : Hal H vm vb vt vo ve h) :
    Calls Tryz.prog 20 #[halV vm vb vt vo ve h] w (PostV w (.tuple #[.int .i64 (calmA h), .int .i64 (calmE h)])) := by
  unfold calmA calmE
  cases hv : validHall h
  · rw [if_neg (by decide), if_neg (by decide)]
    go_enter Tryz.func20, Tryz.ntmps20
    go_wp2_with (first | ((have hgd := hw1; clear hgd; go_at_call 43; refine (check9_any _ _ _ _ _ h H1 _ hw1 (hh.mono hle)).mono ?_; rintro e w2 ⟨rfl, hb2⟩; rw [hv, show errM false = 90 from rfl]; have x2 := hx.step (hb2.mono hx.below.size) (hw1.below hb2); have hw2 := x2.holds)) | (have hgd := hw; clear hgd; refine wpList_boxF rfl _ rfl (Ext.refl hw) ?_; intro B w1 H1 hle hx hB hBw; obtain ⟨hc0, hc1, hc2, hc3, hc4, hc5⟩ := cellsHal hB; clear hB hw; have hw1 := hx.holds))
    go_ret2
    exact ⟨rfl, x2.below⟩
  · rw [if_pos rfl, if_pos rfl]
    have hV := validHall_iff.1 hv
    obtain ⟨hsz, hs2⟩ : h.ed.length ≤ 1000000 ∧ ∀ l ∈ h.ed, l.length ≤ 1000000 := ed_small hV
    go_enter Tryz.func20, Tryz.ntmps20
    go_wp2_with (first | ((have hgd := x3; clear hgd; go_at_call 15; refine (fewest9_any _ _ _ _ _ (calmH h) H3 _ x3.holds hh3).mono ?_; rintro e w4 ⟨rfl, hb4⟩)) | ((have hgd := x2; clear hgd; go_at_call 62; refine (calmed9_any _ _ _ _ _ h H1 _ x2.holds (hh.mono hle) hsz hs2).mono ?_; rintro e w3 ⟨um, ub, ut, uo, ue, H3, rfl, x3, hh3⟩)) | ((have hgd := hw1; clear hgd; go_at_call 43; refine (check9_any _ _ _ _ _ h H1 _ hw1 (hh.mono hle)).mono ?_; rintro e w2 ⟨rfl, hb2⟩; rw [hv, show errM true = 0 from rfl]; have x2 := hx.step (hb2.mono hx.below.size) (hw1.below hb2); have hw2 := x2.holds)) | (have hgd := hw; clear hgd; refine wpList_boxF rfl _ rfl (Ext.refl hw) ?_; intro B w1 H1 hle hx hB hBw; obtain ⟨hc0, hc1, hc2, hc3, hc4, hc5⟩ := cellsHal hB; clear hB hw; have hw1 := hx.holds))
    go_ret2
    exact ⟨rfl, (x2.trans x3).below.trans (hb4.mono (x2.trans x3).below.size)⟩

set_option maxRecDepth 100000 in
set_option maxHeartbeats 4000000 in
theorem gain9_any (vm vb vt vo ve : Value) (h : Hall) (one other : Int) (hi1 : I64 one) (hi2 : I64 other) (H : Snap) (w : World) (hw : Holds H w) (hh : Hal H vm vb vt vo ve h) :
    Calls Tryz.prog 12 #[halV vm vb vt vo ve h, .int .i64 one, .int .i64 other] w (PostV w (.tuple #[.int .i64 (gainA h one other), .int .i64 (gainE h one other)])) := by
  have hM1 := fun (H : Snap) (w : World) hw (hh : Hal H vm vb vt vo ve h) => isMachine4_any vm vb vt h.hs one H w hw hh.hs
  have hM2 := fun (H : Snap) (w : World) hw (hh : Hal H vm vb vt vo ve h) => isMachine4_any vm vb vt h.hs other H w hw hh.hs
  have hm1 : isMachA h one = within one 0 ((h.hs.ms.length : Int) - 1) := rfl
  have hm2 : isMachA h other = within other 0 ((h.hs.ms.length : Int) - 1) := rfl
  rw [← hm1] at hM1
  rw [← hm2] at hM2
  cases hok : gainOk h one other
  · have e1 : gainA h one other = 0 := by unfold gainA; rw [hok]; rfl
    have e2 : gainE h one other = askM (validHall h) (isMachA h one && isMachA h other) := by unfold gainE; rw [hok]; rfl
    have he : askM (validHall h) (isMachA h one && isMachA h other) = 90 ∨ askM (validHall h) (isMachA h one && isMachA h other) = 1 := askM_ne hok
    rw [e1, e2]
    clear e1 e2 hm1 hm2
    replace hok := Lib.hid hok
    cases g1 : isMachA h one
    all_goals
      rw [g1] at hM1 he
      first
        | rw [Bool.false_and] at he ⊢
        | rw [Bool.true_and] at he ⊢
      generalize isMachA h other = G2 at *
      replace hM1 := Lib.hid hM1
      replace hM2 := Lib.hid hM2
      rcases he with he | he
      all_goals
        rw [he]
        replace he := Lib.hid he
        go_enter Tryz.func12, Tryz.ntmps12
        go_upto_region 1 with (refine wpList_boxF rfl _ rfl (Ext.refl hw) ?_; intro B w1 H1 hle hx hB hBw; obtain ⟨hc0, hc1, hc2, hc3, hc4, hc5⟩ := cellsHal hB; clear hB hw; have hw1 := hx.holds)
        have hhc := hh.mono hle
        refine wp_region_quietB H1 (by kernel_rfl) (by kernel_rfl) hw1 (fun hne => ?_)
        repeat go_big_quiet_step ((first | (go_at_call_of 51 (Value.int .i64 one); exact Calls.quietB (hM1.out _ _ (WB.holds _) hhc)) | (go_at_call_of 51 (Value.int .i64 other); exact Calls.quietB (hM2.out _ _ (WB.holds _) hhc)) | (go_at_call 50; exact Calls.quietB (ask9_any _ _ _ _ _ _ _ _ _ (WB.holds _) hhc))))
        refine wpQuiet_nil ?_
        rintro ⟨w2, hw2, hb2⟩
        clear hne
        rw [he.out]
        go_wp2
        go_ret2
        exact ⟨rfl, hx.below.trans (hb2.mono hx.below.size)⟩
  · have hok2 := hok
    unfold gainOk at hok2
    simp only [Bool.and_eq_true] at hok2
    obtain ⟨hv, g1, g2⟩ := hok2
    have hV := validHall_iff.1 hv
    obtain ⟨hsz, hs2⟩ := ed_small hV
    have hbo := hV.bo
    have q1 := within_iff.1 (hm1 ▸ g1)
    have q2 := within_iff.1 (hm2 ▸ g2)
    have e1 : gainA h one other = if errF h = 0 then fewestA h - fewestA (boredH h one.toNat other.toNat) else 0 := by unfold gainA; rw [hok]; rfl
    have e2 : gainE h one other = if errF h = 0 then errF (boredH h one.toNat other.toNat) else errF h := by unfold gainE; rw [hok]; rfl
    have he : askM (validHall h) true = 0 := by rw [hv]; rfl
    rw [e1, e2]
    rw [g1] at hM1
    rw [g2] at hM2
    obtain ⟨on, rfl⟩ : ∃ n : Nat, one = (n : Int) := ⟨one.toNat, by omega⟩
    obtain ⟨ot, rfl⟩ : ∃ n : Nat, other = (n : Int) := ⟨other.toNat, by omega⟩
    simp only [Int.toNat_natCast] at *
    have hbv := bored_valid hV (one := on) (other := ot) (by omega)
    have hF1 := fun (H : Snap) (w : World) hw hh => fewest9_any vm vb vt vo ve h H w hw hh
    have hF2 := fun (a b c d e : Value) (H : Snap) (w : World) hw hh => fewest9_any a b c d e (boredH h on ot) H w hw hh
    have hB := fun (H : Snap) (w : World) hw hh => bored9_any vm vb vt vo ve h on ot (by omega) (by omega) H w hw hh hsz hs2
    have hb1 := fewestA_bd hV
    have hb2' := fewestA_bd hbv
    generalize fewestA h = F1 at *
    generalize fewestA (boredH h on ot) = F2 at *
    generalize errF (boredH h on ot) = E2 at *
    replace hM1 := Lib.hid hM1
    replace hM2 := Lib.hid hM2
    replace hF2 := Lib.hid hF2
    replace hB := Lib.hid hB
    have hwrp : IntKind.i64.wrap (F1 - F2) = F1 - F2 := IntWalk.i64_in _ (by omega)
    clear e1 e2 hok hbv hsz hs2 hbo hm1 hm2 q1 q2 g1 g2
    cases hE : (errF h != 0)
    · have he0 : errF h = 0 := by simpa using hE
      rw [he0, if_pos rfl, if_pos rfl]
      rw [he0] at hF1
      replace hF1 := Lib.hid hF1
      clear hE he0
      go_enter Tryz.func12, Tryz.ntmps12
      go_upto_region 1 with (refine wpList_boxF rfl _ rfl (Ext.refl hw) ?_; intro B w1 H1 hle hx hB hBw; obtain ⟨hc0, hc1, hc2, hc3, hc4, hc5⟩ := cellsHal hB; clear hB hw; have hw1 := hx.holds)
      have hhc := hh.mono hle
      refine wp_region_quietB H1 (by kernel_rfl) (by kernel_rfl) hw1 (fun hne => ?_)
      repeat go_big_quiet_step ((first | (go_at_call_of 51 (Value.int .i64 (on : Int)); exact Calls.quietB (hM1.out _ _ (WB.holds _) hhc)) | (go_at_call_of 51 (Value.int .i64 (ot : Int)); exact Calls.quietB (hM2.out _ _ (WB.holds _) hhc)) | (go_at_call 50; exact Calls.quietB (ask9_any _ _ _ _ _ _ _ _ _ (WB.holds _) hhc))))
      refine wpQuiet_nil ?_
      rintro ⟨w2, hw2, hb2⟩
      clear hne
      rw [he]
      have x2 := hx.step (hb2.mono hx.below.size) hw2
      go_wp2_with (first | ((have hgd := x4; clear hgd; go_at_call 15; refine (hF2.out _ _ _ _ _ H4 _ x4.holds hh4).mono ?_; rintro e w5 ⟨rfl, hb5⟩)) | ((have hgd := x3; clear hgd; go_at_call 52; refine (hB.out H1 _ x3.holds hhc).mono ?_; rintro e w4 ⟨um, ub, ut, uo, ue, H4, rfl, x4, hh4⟩)) | ((have hgd := x2; clear hgd; go_at_call 15; refine (hF1.out H1 _ x2.holds hhc).mono ?_; rintro e w3 ⟨rfl, hb3⟩; have x3 := x2.step (hb3.mono x2.below.size) (x2.holds.below hb3); have hw3 := x3.holds)))
      go_ret2
      exact ⟨rfl, (x3.trans x4).below.trans (hb5.mono (x3.trans x4).below.size)⟩
    · have he0 : errF h ≠ 0 := by simpa using hE
      rw [if_neg he0, if_neg he0]
      generalize errF h = E at *
      replace hF1 := Lib.hid hF1
      clear he0
      go_enter Tryz.func12, Tryz.ntmps12
      go_upto_region 1 with (refine wpList_boxF rfl _ rfl (Ext.refl hw) ?_; intro B w1 H1 hle hx hB hBw; obtain ⟨hc0, hc1, hc2, hc3, hc4, hc5⟩ := cellsHal hB; clear hB hw; have hw1 := hx.holds)
      have hhc := hh.mono hle
      refine wp_region_quietB H1 (by kernel_rfl) (by kernel_rfl) hw1 (fun hne => ?_)
      repeat go_big_quiet_step ((first | (go_at_call_of 51 (Value.int .i64 (on : Int)); exact Calls.quietB (hM1.out _ _ (WB.holds _) hhc)) | (go_at_call_of 51 (Value.int .i64 (ot : Int)); exact Calls.quietB (hM2.out _ _ (WB.holds _) hhc)) | (go_at_call 50; exact Calls.quietB (ask9_any _ _ _ _ _ _ _ _ _ (WB.holds _) hhc))))
      refine wpQuiet_nil ?_
      rintro ⟨w2, hw2, hb2⟩
      clear hne
      rw [he]
      have x2 := hx.step (hb2.mono hx.below.size) hw2
      go_wp2_with (first | ((have hgd := x2; clear hgd; go_at_call 15; refine (hF1.out H1 _ x2.holds hhc).mono ?_; rintro e w3 ⟨rfl, hb3⟩; have x3 := x2.step (hb3.mono x2.below.size) (x2.holds.below hb3); have hw3 := x3.holds)))
      go_ret2
      exact ⟨rfl, x3.below⟩

end Go.Proofs.YtngdppajailpcaaGreat

namespace Go.Proofs.YtngdppajailpcaaGreat
open Go.RowKit

attribute [local go_sem] Holds.drew Holds.alloc Holds.drewN WB.holds

set_option maxRecDepth 100000 in
set_option maxHeartbeats 4000000 in
theorem same9_any (um ub ut uo ue vm vb vt vo ve : Value) (h : Hall) (H : Snap) (w : World) (hw : Holds H w) (ho : Hal H um ub ut uo ue h) (hh : Hal H vm vb vt vo ve h) :
    Calls Tryz.prog 13 #[halV um ub ut uo ue h, halV vm vb vt vo ve h] w (PostV w (.bool true)) := by
  go_enter Tryz.func13, Tryz.ntmps13
  go_wp2_with (first | (go_at_call 54; have hgd := x4; clear hgd; refine (exSameP _ _ _ H1 _ x4.holds (ho.ed.mono hle) (hh.ed.mono hle)).mono ?_; rintro e w5 ⟨rfl, hb5⟩; have x5 := x4.step (hb5.mono x4.below.size) (x4.holds.below hb5)) | (go_at_call 26; have hgd := x3; clear hgd; refine (exSame _ _ _ H1 _ x3.holds (ho.bo.mono hle) (hh.bo.mono hle)).mono ?_; rintro e w4 ⟨rfl, hb4⟩; have x4 := x3.step (hb4.mono x3.below.size) (x3.holds.below hb4); have hw4 := x4.holds) | (go_at_call 53; have hgd := hx; clear hgd; refine (same_any _ _ _ _ _ _ _ H1 _ hw1 (ho.hs.mono hle) (hh.hs.mono hle)).mono ?_; rintro e w3 ⟨rfl, hb3⟩; have x3 := hx.step (hb3.mono hx.below.size) (hw1.below hb3); have hw3 := x3.holds) | ((have hgd := hx0; clear hgd; refine wpList_boxF rfl _ rfl hx0 ?_; intro BB w1 H1 hle1 hx hBB hBBw; have hle := hle0.trans hle1; obtain ⟨hc0, hc1, hc2, hc3, hc4, hc5⟩ := cellsHal (h := h) (hle1 _ _ hB); obtain ⟨hd0, hd1, hd2, hd3, hd4, hd5⟩ := cellsHal (h := h) hBB; clear hx0 hB hBB hle0 hle1; have hw1 := hx.holds)) | ((have hgd := hw; clear hgd; refine wpList_boxF rfl _ rfl (Ext.refl hw) ?_; intro B w0 H0 hle0 hx0 hB hBw; clear hw)))
  go_ret
  exact ⟨rfl, x5.below⟩

end Go.Proofs.YtngdppajailpcaaGreat
