/- The walks of trains: set.list, and slices.Clone over numbers. The walk of trains.late. -/
import Derived.Test.YteijmboophnmgaaTr8
import Derived.Lib.SliceRun
import Derived.Test.YteijmboophnmgaaPlain

namespace Go.Proofs.Yteijmboophnmgaa
open Go.RowKit

attribute [local go_sem] Holds.drew Holds.alloc Holds.drewN WB.holds

/-- The numbers of a set of bits. -/
def setTo (s : Nat) (k : Nat) : List Int := ((List.range k).filter fun i => s.testBit i).map Int.ofNat
def setList (s : Nat) : List Int := setTo s 4
theorem setTo_succ (s k : Nat) : setTo s (k + 1) = if s.testBit k then setTo s k ++ [(k : Int)] else setTo s k := by
  unfold setTo
  rw [List.range_succ, List.filter_append]
  cases e : s.testBit k <;> simp [e]
theorem setTo_len (s k : Nat) : (setTo s k).length ≤ k := by
  unfold setTo
  rw [List.length_map]
  exact Nat.le_trans (List.length_filter_le _ _) (by simp)
theorem bits_set4 : ∀ s : Fin 16, ∀ k : Fin 4, bits .and .u64 ((s.val : Int) / 2 ^ k.val) 1 = if s.val.testBit k.val then 1 else 0 := by decide

set_option maxRecDepth 100000 in
set_option maxHeartbeats 4000000 in
theorem setList_any (s : Nat) (hs : s < 16) (H : Snap) (w : World) (hw : Holds H w) :
    Calls Try.prog 80 #[.int .u64 s] w (Post w H fun v H' => Sl H' v (setList s)) := by
  go_enter Try.func80, Try.ntmps80
  go_wp2
  go_loopw [3, 4, 5] (fun v _ i wr => ∃ (k : Nat) (acc : List Int), k ≤ 4 ∧ i = .int .i64 k ∧ Hid (acc = setTo s k) ∧ Ext w H wr H ∧ Own H w.heap.size wr 3 v acc) (fun _ _ i _ => 4 - (intOf i).toNat)
  case atStart => exact ⟨0, [], Nat.zero_le _, rfl, rfl, Ext.refl hw, Own.nil _ _ _ _⟩
  case round =>
    obtain ⟨k, acc, hk, rfl, hacc, hxr, hown⟩ := hrel
    have hwr := hxr.holds
    by_cases hlk : k < 4
    · have hb := bits_set4 ⟨s, hs⟩ ⟨k, hlk⟩
      simp only at hb
      have hsucc := setTo_succ s k
      have hacl : acc.length ≤ 4 := by rw [hacc.out]; exact Nat.le_trans (setTo_len s k) (by omega)
      cases g : s.testBit k
      all_goals
        rw [g] at hb hsucc
        replace hsucc := Lib.hid hsucc
        replace g := Lib.hid g
      · rw [if_neg (by decide)] at hb
        go_wp2_with fail
        go_roundw
        case rel => exact ⟨k + 1, acc, by omega, by go_num, by show acc = _; rw [hacc.out, hsucc.out]; rfl, hxr, hown⟩
        case measure => simp [intOf]; omega
      · rw [if_pos rfl] at hb
        obtain ⟨av, cv, ev, _, _⟩ := hown.form
        subst ev
        go_wp2_with (first | ((at_builtin; have hgd := hown; clear hgd; refine wpList_app1I eInt _ _ hxr hown (k : Int) (by unfold I64; omega) (by omega) rfl rfl rfl rfl ?_; intro vA wA hownA hxA hwA)))
        go_roundw
        case rel => exact ⟨k + 1, acc ++ [(k : Int)], by omega, by go_num, by show _ = _; rw [hsucc.out, hacc.out]; rfl, hxA, hownA⟩
        case measure => simp [intOf]; omega
    · go_wp2_with fail
      go_ret
      obtain ⟨H', hx', hle', hs', _⟩ := hown.close hxr
      refine ⟨_, H', rfl, hx', ?_⟩
      rw [hacc.out, show k = 4 by omega] at hs'
      exact hs'

set_option maxRecDepth 100000 in
theorem cloneT_any (va : Value) (xs : List Int) (H : Snap) (w : World) (hw : Holds H w) (ha : Sl H va xs) (hl : xs.length ≤ 1000000) :
    Calls Try.prog 95 #[va] w (Post w H fun v H' => Sl H' v xs) := by
  have ha' := ha
  have heq : ∀ (w : World) (a : Option Addr) (n c n' c' : Nat), _ := fun w a n c n' c' => Go.Lib.run_eql_slice_nil (P := Try.prog) w 24 3 a n c n' c' Try.underlying24
  obtain ⟨aa, ca, rfl, ha1, ha2, ha3, h5⟩ := ha
  cases aa with
  | none =>
    have hx : xs = [] := by
      rcases h5 with h | ⟨b, o, cur, e, fr, h, _⟩
      · exact h
      · cases h
    subst hx
    go_enter Try.func95, Try.ntmps95
    go_wp2
    go_ret
    exact ⟨_, H, rfl, Ext.refl hw, Sl.nil0 _⟩
  | some a =>
    clear h5
    go_enter Try.func95, Try.ntmps95
    go_wp2_with (first | ((refine wpList_appX (w0 := w) (H0 := H) eInt rfl _ _ rfl ((Ext.refl hw).alloc _) rfl (Own.emptyAt (heap_alloc_new _ _) (Nat.le_refl _) (hw.none_of_ge (Nat.le_refl _))) rfl ha' (by simp [Enc.by_]; omega) (by simp; omega) ?_; intro vB wB hownB hxB hwB hgB; rw [List.nil_append] at hownB)))
    go_ret
    obtain ⟨H', hx', _, hs', _⟩ := hownB.close hxB
    exact ⟨_, H', rfl, hx', hs'⟩

end Go.Proofs.Yteijmboophnmgaa

namespace Go.Proofs.Yteijmboophnmgaa
open Go.RowKit

attribute [local go_sem] Holds.drew Holds.alloc Holds.drewN WB.holds

/-- The trains that are late, by when they are ready. -/
def lateBy (h : House) (r : List Int) (k : Nat) : List Int := ((List.range k).filter fun i => decide (h.ts.getD i 0 < r.getD i 0)).map Int.ofNat
theorem lateBy_succ (h : House) (r : List Int) (k : Nat) : lateBy h r (k + 1) = if h.ts.getD k 0 < r.getD k 0 then lateBy h r k ++ [(k : Int)] else lateBy h r k := by
  unfold lateBy
  rw [List.range_succ, List.filter_append]
  by_cases e : h.ts.getD k 0 < r.getD k 0
  · rw [if_pos e, List.map_append]; simp only [List.filter_cons, decide_eq_true e, List.filter_nil]; rfl
  · rw [if_neg e, List.map_append]; simp only [List.filter_cons, decide_eq_false e, List.filter_nil]; simp
theorem lateBy_mem {h : House} {r : List Int} {k : Nat} {x : Int} (hx : x ∈ lateBy h r k) : 0 ≤ x ∧ x ≤ (k : Int) - 1 := by
  unfold lateBy at hx
  obtain ⟨i, hi, rfl⟩ := List.mem_map.1 hx
  have := List.mem_range.1 (List.mem_filter.1 hi).1
  constructor
  · exact Int.natCast_nonneg i
  · have : (i : Int) < k := Int.ofNat_lt.2 this
    show (i : Int) ≤ _
    omega
theorem bits_or5u : ∀ u : Fin 32, ∀ b : Fin 5, bits .or .u64 (u.val : Int) (2 ^ b.val) = ((u.val ||| 2 ^ b.val : Nat) : Int) := by decide
theorem used_orU {n : Nat} (hn : n ≤ 5) {acc : List Int} (h : ∀ x ∈ acc, 0 ≤ x ∧ x ≤ (n : Int) - 1) {b : Nat} (hb : b < 5) : bits .or .u64 (ub acc : Int) (2 ^ b) = (ub (acc ++ [(b : Int)]) : Nat) := by
  have h1 := bits_or5u ⟨ub acc, ub_lt hn h⟩ ⟨b, by omega⟩
  simp only at h1
  rw [h1, ub_snoc, Int.toNat_natCast]

theorem pow_wrapU5 : ∀ b : Fin 5, IntKind.u64.wrap (2 ^ b.val) = 2 ^ b.val := by decide
theorem pow_wrapU {b : Nat} (hb : b < 5) : IntKind.u64.wrap (2 ^ b) = 2 ^ b := pow_wrapU5 ⟨b, hb⟩

set_option maxRecDepth 100000 in
set_option maxHeartbeats 4000000 in
theorem lateT_any (vm vb vt : Value) (h : House) (r0 r1 r2 r3 : Int) (H : Snap) (w : World) (hw : Holds H w) (hh : Hou H vm vb vt h) (ht4 : h.ts.length ≤ 4)
    (hr : (-1 ≤ r0 ∧ r0 ≤ 2000000) ∧ (-1 ≤ r1 ∧ r1 ≤ 2000000) ∧ (-1 ≤ r2 ∧ r2 ≤ 2000000) ∧ (-1 ≤ r3 ∧ r3 ≤ 2000000)) :
    Calls Try.prog 72 #[houV vm vb vt h, .agg #[.int .i64 r0, .int .i64 r1, .int .i64 r2, .int .i64 r3]] w (PostV w (.int .u64 (ub (lateBy h [r0, r1, r2, r3] h.ts.length) : Nat))) := by
  obtain ⟨at', ct, rfl, ht1, ht2⟩ := hh.t.form
  go_enter Try.func72, Try.ntmps72
  go_upto_region 1 with (refine wpList_boxF rfl _ rfl (Ext.refl hw) ?_; intro B w1 H1 hle hx hB hBw; obtain ⟨hc0, hc1, hc2, hc3⟩ := cellsHou hB; clear hB hw; have hw1 := hx.holds)
  have hn : H1 w1.heap.size = none := hw1.none_of_ge (Nat.le_refl _)
  have hxz := (hx.alloc (.cells #[.int .i64 r0, .int .i64 r1, .int .i64 r2, .int .i64 r3] 85)).freeze hx.below.size (heap_alloc_new w1 _)
  have hle2 := Snap.le_put hn (.cells #[.int .i64 r0, .int .i64 r1, .int .i64 r2, .int .i64 r3] 85 (0, 0))
  obtain ⟨r, hrr⟩ : ∃ r, Hid (r = [r0, r1, r2, r3]) := ⟨_, rfl⟩
  have hcr : ∀ k, k < 4 → ∃ x, At r k x ∧ (-1 ≤ x ∧ x ≤ 2000000) ∧ ∀ w, Holds (H1.put w1.heap.size (.cells #[.int .i64 r0, .int .i64 r1, .int .i64 r2, .int .i64 r3] 85 (0, 0))) w → w.cell? ⟨w1.heap.size, k, none⟩ = some (.int .i64 x) := by
    intro k hk
    have hc := fun (w : World) (hw : Holds (H1.put w1.heap.size (.cells #[.int .i64 r0, .int .i64 r1, .int .i64 r2, .int .i64 r3] 85 (0, 0))) w) => cellH (Snap.put_same _ _ _) hw k
    rw [hrr.out]
    match k, hk with
    | 0, _ => exact ⟨r0, rfl, hr.1, fun w hw => (hc w hw).trans rfl⟩
    | 1, _ => exact ⟨r1, rfl, hr.2.1, fun w hw => (hc w hw).trans rfl⟩
    | 2, _ => exact ⟨r2, rfl, hr.2.2.1, fun w hw => (hc w hw).trans rfl⟩
    | 3, _ => exact ⟨r3, rfl, hr.2.2.2, fun w hw => (hc w hw).trans rfl⟩
  generalize H1.put w1.heap.size (.cells #[.int .i64 r0, .int .i64 r1, .int .i64 r2, .int .i64 r3] 85 (0, 0)) = H2 at *
  generalize w1.alloc (.cells #[.int .i64 r0, .int .i64 r1, .int .i64 r2, .int .i64 r3] 85) = wz at *
  generalize w1.heap.size = c at *
  replace hc0 := lift hle2 hc0
  replace hc1 := lift hle2 hc1
  replace hc2 := lift hle2 hc2
  replace hc3 := lift hle2 hc3
  have hwz := hxz.holds
  have htz := (hh.t.mono hle).mono hle2
  replace hcr := Lib.hid hcr
  clear hx hw1 hle hle2 hn
  go_wp2_with fail
  go_loopw [5, 6, 7, 11] (fun u _ _ i wr => ∃ (k : Nat) (acc : List Int), k ≤ h.ts.length ∧ i = .int .i64 k ∧ u = .int .u64 (ub acc : Nat) ∧ Hid (acc = lateBy h r k) ∧ Ext w H wr H2) (fun _ _ _ i _ => h.ts.length - (intOf i).toNat)
  case atStart => exact ⟨0, [], Nat.zero_le _, rfl, rfl, rfl, hxz⟩
  case round =>
    clear hxz hwz
    obtain ⟨k, acc, hk, rfl, rfl, hacc, hxr⟩ := hrel
    have hwr := hxr.holds
    by_cases hlk : k < h.ts.length
    · obtain ⟨t, htk⟩ := At.mk hlk
      obtain ⟨b, o, cc, he, hi, hrt⟩ := htz.int htk
      cases he
      obtain ⟨x, hxk, hxb, hcx⟩ := hcr.out k (by omega)
      have hsucc := lateBy_succ h r k
      rw [htk.getD, hxk.getD, ← hacc.out] at hsucc
      have hor := used_orU (n := 4) (by omega) (acc := acc) (fun y hy => by rw [hacc.out] at hy; have := lateBy_mem hy; omega) (b := k) (by omega)
      cases g : decide (t < x)
      · rw [if_neg (of_decide_eq_false g)] at hsucc
        replace hsucc := Lib.hid hsucc
        go_wp2_with fail
        go_roundw
        case rel => exact ⟨k + 1, acc, by omega, by go_num, rfl, hsucc.out.symm, hxr⟩
        case measure => simp [intOf]; omega
      · rw [if_pos (of_decide_eq_true g)] at hsucc
        replace hsucc := Lib.hid hsucc
        go_wp2_with fail
        go_roundw
        case rel => exact ⟨k + 1, acc ++ [(k : Int)], by omega, by go_num, by rw [pow_wrapU (by omega), hor], hsucc.out.symm, hxr⟩
        case measure => simp [intOf]; omega
    · go_wp2_with fail
      go_ret
      exact ⟨by rw [← hrr.out, ← show k = h.ts.length by omega, ← hacc.out]; rfl, hxr.below⟩

end Go.Proofs.Yteijmboophnmgaa
