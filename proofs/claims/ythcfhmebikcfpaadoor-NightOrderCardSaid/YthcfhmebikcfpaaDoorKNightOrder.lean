/- Proved here: NightOrderCardSaid: the law NightOrder returns true for all texts, from any one on, forwards and backwards, and the texts read afterwards as they did. Conditions: none beyond those of the given statement. -/
import Derived.Test.YthcfhmebikcfpaaDoorG13
import Derived.Test.YthcfhmebikcfpaaDoorG14
import Derived.Test.YthcfhmebikcfpaaDoorG15
import Derived.Test.YthcfhmebikcfpaaDoorRows
import Derived.Test.YthcfhmebikcfpaaDoorTie
import Derived.Test.YthcfhmebikcfpaaDoorCards
import Derived.ProofKit
import Derived.SevenTiedAt

set_option linter.all false

namespace Go.Proofs.YthcfhmebikcfpaaDoor
open Go.RowKit
attribute [local go_sem] Holds.drew Holds.alloc Holds.drewN WB.holds Oper.semAt_some

def turnN (n r i : Nat) : Nat := if i + r < n then i + r else i + r - n
def ordN (n r : Nat) (back : Bool) (i : Nat) : Nat := if back then n - 1 - turnN n r i else turnN n r i
theorem ordN_lt {n r i : Nat} {back : Bool} (hr : r < n) (hi : i < n) : ordN n r back i < n := by
  unfold ordN turnN
  cases back <;> simp only [if_true, Bool.false_eq_true, if_false] <;> split <;> omega
theorem ordN_inj {n r i j : Nat} {back : Bool} (hr : r < n) (hi : i < n) (hj : j < n) (h : ordN n r back i = ordN n r back j) : i = j := by
  unfold ordN turnN at h
  cases back
  · simp only [Bool.false_eq_true, if_false] at h
    split at h <;> split at h <;> omega
  · simp only [if_true] at h
    split at h <;> split at h <;> omega
theorem ordN_onto {n r j : Nat} {back : Bool} (hr : r < n) (hj : j < n) : ∃ i, i < n ∧ ordN n r back i = j := by
  unfold ordN turnN
  cases back
  · simp only [Bool.false_eq_true, if_false]
    by_cases h : r ≤ j
    · exact ⟨j - r, by omega, by rw [if_pos (by omega)]; omega⟩
    · exact ⟨j + n - r, by omega, by rw [if_neg (by omega)]; omega⟩
  · simp only [if_true]
    by_cases h : r ≤ n - 1 - j
    · exact ⟨n - 1 - j - r, by omega, by rw [if_pos (by omega)]; omega⟩
    · exact ⟨n - 1 - j + n - r, by omega, by rw [if_neg (by omega)]; omega⟩
theorem turn_mod {n f i : Nat} (hi : i < n) : (i + f) % n = turnN n (f % n) i := by
  have hr : f % n < n := Nat.mod_lt _ (by omega)
  rw [Nat.add_mod, Nat.mod_eq_of_lt hi]
  unfold turnN
  split
  · rename_i h; exact Nat.mod_eq_of_lt h
  · rename_i h
    rw [Nat.mod_eq_sub_mod (by omega), Nat.mod_eq_of_lt (by omega)]
def ordTo (l : List ByteArray) (r : Nat) (back : Bool) (k : Nat) : List ByteArray := (List.range k).map fun i => l.getD (ordN l.length r back i) ⟨#[]⟩
theorem ordTo_next {l : List ByteArray} {r k : Nat} {back : Bool} {x : ByteArray} (hx : At l (ordN l.length r back k) x) : ordTo l r back (k + 1) = ordTo l r back k ++ [x] := by
  unfold ordTo
  rw [List.range_succ, List.map_append, List.map_cons, List.map_nil, hx.getD]
theorem ordTo_len (l : List ByteArray) (r : Nat) (back : Bool) (k : Nat) : (ordTo l r back k).length = k := by unfold ordTo; simp
theorem ordTo_perm (l : List ByteArray) {r : Nat} (back : Bool) (hr : r < l.length) : (ordTo l r back l.length).Perm l := by
  have e1 : (List.range l.length).map (fun i => l.getD i ⟨#[]⟩) = l := List.ext_getElem (by simp) fun i h1 h2 => by
    simp only [List.getElem_map, List.getElem_range]
    rw [List.getD_eq_getElem?_getD, List.getElem?_eq_getElem h2]; rfl
  have e2 : ((List.range l.length).map (ordN l.length r back)).Perm (List.range l.length) := by
    refine (List.perm_ext_iff_of_nodup ?_ List.nodup_range).2 fun j => ?_
    · exact List.pairwise_map.2 (List.Pairwise.imp_of_mem (fun ha hb hne e => hne (ordN_inj hr (List.mem_range.1 ha) (List.mem_range.1 hb) e)) List.nodup_range)
    · rw [List.mem_map, List.mem_range]
      constructor
      · rintro ⟨i, hi, rfl⟩; exact ordN_lt hr (List.mem_range.1 hi)
      · intro hj
        obtain ⟨i, hi, e⟩ := ordN_onto (back := back) hr hj
        exact ⟨i, List.mem_range.2 hi, e⟩
  have e3 := e2.map (fun i => l.getD i ⟨#[]⟩)
  rw [List.map_map, e1] at e3
  exact e3
theorem msg_cnt {l o : List ByteArray} (h : o.Perm l) (c : Nat) : cnt (msgOf o) c = cnt (msgOf l) c := by
  unfold cnt msgOf
  exact (h.flatMap_right _).countP_eq _
theorem wts_same {l o : List ByteArray} (h : o.Perm l) : wtsA (msgOf o) = wtsA (msgOf l) := by
  have e : cnt (msgOf o) = cnt (msgOf l) := funext (msg_cnt h)
  unfold wtsA wtsTo
  rw [e]
theorem lens_same {l o : List ByteArray} (h : o.Perm l) : lensA (msgOf o) = lensA (msgOf l) := by
  unfold lensA wsA
  rw [wts_same h]
theorem areE_perm {l o : List ByteArray} (h : o.Perm l) (h0 : areE l = 0) : areE o = 0 := by
  obtain ⟨g1, g2⟩ := areE_zero h0
  unfold areE
  rw [if_neg (by rw [h.length_eq]; omega), if_pos (List.all_eq_true.2 fun s hs => g2 s (h.mem_iff.1 hs))]
theorem bits_same {l o : List ByteArray} (h : o.Perm l) (h0 : areE l = 0) : (bitsA (lensA (msgOf o)) (msgOf o)).length = (bitsA (lensA (msgOf l)) (msgOf l)).length := by
  rw [bits_cost (msg_ok h0), bits_cost (msg_ok (areE_perm h h0))]
  unfold wsA
  rw [wts_same h]
set_option maxRecDepth 100000 in
theorem sameWeights_any (va vb : Value) (xs ys : List Pr) (H : Snap) (w : World) (hw : Holds H w) (ha : Sl H va xs) (hb : Sl H vb ys) :
    Calls Tryd.prog 26 #[va, vb] w (PostV w (.bool (decide (xs = ys)))) := by
  obtain ⟨aa, ca, rfl, ha1, ha2⟩ := ha.form
  obtain ⟨ab, cb, rfl, hb1, hb2⟩ := hb.form
  cases hl : ((xs.length : Int) != ys.length)
  · have HL : Hid (xs.length = ys.length) := Lib.hid (by have := bne_eq_false_iff_eq.1 hl; omega)
    go_enter Tryd.func26, Tryd.ntmps26
    go_wp2
    go_loopw [4, 5] (fun _ i wr => ∃ k : Nat, k ≤ xs.length ∧ i = .int .i64 k ∧ xs.take k = ys.take k ∧ Ext w H wr H) (fun _ i _ => xs.length - (intOf i).toNat)
    case atStart => exact ⟨0, Nat.zero_le _, rfl, rfl, Ext.refl hw⟩
    case round =>
      obtain ⟨k, hk, rfl, hok, hxr⟩ := hrel
      have hwr := hxr.holds
      replace hok := Lib.hid hok
      by_cases hlt : k < xs.length
      · obtain ⟨x, hxk⟩ := At.mk hlt
        have hlt2 : k < ys.length := by rw [← HL.out]; exact hlt
        obtain ⟨y, hyk⟩ := At.mk hlt2
        obtain ⟨b, o, c, he, hi, hr, hr1⟩ := ha.pr hxk
        cases he
        obtain ⟨b', o', c', he, hi', hr', hr1'⟩ := hb.pr hyk
        cases he
        clear hi hi'
        obtain ⟨x1, x2⟩ := x
        obtain ⟨y1, y2⟩ := y
        simp only at hr hr1 hr' hr1'
        by_cases hxy : x1 = y1 ∧ x2 = y2
        · obtain ⟨rfl, rfl⟩ := hxy
          go_wp2
          go_quiet (fail)
          go_wp2
          go_roundw
          case rel => exact ⟨k + 1, by omega, by go_num, by rw [hxk.take, hyk.take, hok.out], hxr.drewN _⟩
          case measure => simp [intOf]; omega
        · have hfin : decide (xs = ys) = false := by
            rw [decide_eq_false_iff_not]
            intro e
            have hyk2 := hyk
            rw [← e] at hyk2
            have := Option.some.inj (hxk.symm.trans hyk2)
            simp only [Pr.mk.injEq] at this
            exact hxy this
          by_cases h1 : x1 = y1
          · subst h1
            have ht : (x2 == y2) = false := beq_eq_false_iff_ne.2 fun e => hxy ⟨rfl, e⟩
            have ht2 : ¬ x2 = y2 := fun e => hxy ⟨rfl, e⟩
            go_wp2
            go_quiet (fail)
            go_wp2
            go_ret
            exact ⟨ret_bool hfin.symm, (hxr.drewN _).below⟩
          · have ht : (x1 == y1) = false := beq_eq_false_iff_ne.2 h1
            go_wp2
            go_quiet (fail)
            go_wp2
            go_ret
            exact ⟨ret_bool hfin.symm, (hxr.drewN _).below⟩
      · go_wp2
        go_ret
        have h1 : xs.take k = ys.take k := hok.out
        rw [List.take_of_length_le (by omega), List.take_of_length_le (by rw [← HL.out]; omega)] at h1
        exact ⟨ret_bool (by simp [h1]), hxr.below⟩
  · go_enter Tryd.func26, Tryd.ntmps26
    go_wp2
    go_ret
    exact ⟨ret_bool (by symm; rw [decide_eq_false_iff_not]; rintro rfl; simp at hl), Below.refl _ _⟩

end Go.Proofs.YthcfhmebikcfpaaDoor

namespace Go.Proofs.YthcfhmebikcfpaaDoor
open Go.RowKit
attribute [local go_sem] Holds.drew Holds.alloc Holds.drewN WB.holds Oper.semAt_some

theorem order_k {n k f T : Nat} (hk : k < n) (hn : n ≤ 20) (hf : f ≤ 100) (hT : T = turnN n (f % n) k) :
    wrap64 ((k : Int) + (f : Int)) = (k : Int) + (f : Int) ∧ Int.tmod ((k : Int) + (f : Int)) (n : Int) = (T : Int) ∧ wrap64 ((k : Int) + 1) = (k : Int) + 1 ∧ wrap64 ((n : Int) - 1) = (n : Int) - 1 ∧ wrap64 ((n : Int) - 1 - (T : Int)) = ((n - 1 - T : Nat) : Int) ∧ wrap64 (T : Int) = (T : Int) ∧ T < n := by
  have hT2 : T < n := by
    rw [hT]
    have := ordN_lt (n := n) (r := f % n) (i := k) (back := false) (Nat.mod_lt _ (by omega)) hk
    exact this
  refine ⟨wrap64_in _ (by omega) (by omega), ?_, wrap64_in _ (by omega) (by omega), wrap64_in _ (by omega) (by omega), ?_, wrap64_in _ (by omega) (by omega), hT2⟩
  · rw [hT, ← turn_mod hk]
    rfl
  · rw [show (n : Int) - 1 - (T : Int) = ((n - 1 - T : Nat) : Int) by omega]
    exact wrap64_in _ (by omega) (by omega)
theorem n_meas2 {j n : Nat} (h : j < n) : n - (intOf (.int .i64 ((j : Int) + 1))).toNat < n - (intOf (.int .i64 (j : Int))).toNat := by
  simp only [intOf]
  omega
theorem order_app {k n : Nat} (hk : k < n) (hn : n ≤ 20) (l : List ByteArray) (r : Nat) (back : Bool) : ((ordTo l r back k).length + 1) * Enc.by_ ByteArray ≤ 140737488355328 ∧ (ordTo l r back k).length + 1 ≤ 9223372036854775807 := by
  rw [ordTo_len]
  simp only [Enc.by_]
  exact ⟨by omega, by omega⟩
theorem order_n {k n : Nat} (hk : k < n) : ¬ (n : Int) = 0 ∧ ((n : Int) == 0) = false ∧ ¬ n = 0 := ⟨by omega, beq_eq_false_iff_ne.2 (by omega), by omega⟩
set_option maxRecDepth 100000 in
set_option maxHeartbeats 4000000 in
theorem nightOrder_any (v : Value) (l : List ByteArray) (fr : Int) (back : Bool) (H : Snap) (w : World) (hw : Holds H w) (hs : Sl H v l) (_hz : I64 fr) :
    Calls Tryd.prog 6 #[v, .int .i64 fr, .bool back] w (PostV w (.bool true)) := by
  have cW : ∀ (H' : Snap) (W : World), Holds H' W → Calls Tryd.prog 13 #[] W (PostV W (.bool true)) := fun H' W h => works14_any H' W h
  have cR := ready14_any v l H w hw hs
  obtain ⟨a, c, rfl, hlc, hcm⟩ := hs.form
  by_cases h0 : areE l = 0
  case neg =>
    rw [decide_eq_false h0] at cR
    replace cR := Lib.hid cR
    replace cW := Lib.hid cW
    clear h0
    go_enter Tryd.func6, Tryd.ntmps6
    go_wp2_with (first | ((have hgd := hw2; clear hgd; go_at_call 13; go_must (refine (cW.out H _ hw2).mono ?_); rintro e w3 ⟨rfl, hb3⟩)) | ((go_at_call 12; refine cR.out.mono ?_; rintro e w2 ⟨rfl, hb2⟩; have hw2 := hw.below hb2)))
    go_ret
    exact ⟨rfl, hb2.trans (hb3.mono hb2.size)⟩
  case pos =>
  rw [decide_eq_true h0] at cR
  replace cR := Lib.hid cR
  by_cases hf0 : fr < 0
  · replace cW := Lib.hid cW
    clear h0
    go_enter Tryd.func6, Tryd.ntmps6
    go_wp2_with (first | ((have hgd := hw2; clear hgd; go_at_call 13; go_must (refine (cW.out H _ hw2).mono ?_); rintro e w3 ⟨rfl, hb3⟩)) | ((go_at_call 12; refine cR.out.mono ?_; rintro e w2 ⟨rfl, hb2⟩; have hw2 := hw.below hb2)))
    go_ret
    exact ⟨rfl, hb2.trans (hb3.mono hb2.size)⟩
  by_cases hf1 : 100 < fr
  · replace cW := Lib.hid cW
    clear h0
    go_enter Tryd.func6, Tryd.ntmps6
    go_wp2_with (first | ((have hgd := hw2; clear hgd; go_at_call 13; go_must (refine (cW.out H _ hw2).mono ?_); rintro e w3 ⟨rfl, hb3⟩)) | ((go_at_call 12; refine cR.out.mono ?_; rintro e w2 ⟨rfl, hb2⟩; have hw2 := hw.below hb2)))
    go_ret
    exact ⟨rfl, hb2.trans (hb3.mono hb2.size)⟩
  obtain ⟨f, rfl⟩ := Int.eq_ofNat_of_zero_le (Int.not_lt.1 hf0)
  have hf : f ≤ 100 := by omega
  have hl := (areE_zero h0).1
  have hperm : (ordTo l (f % l.length) back l.length).Perm l := by
    by_cases hn : l.length = 0
    · rw [List.eq_nil_of_length_eq_zero hn]
      exact List.Perm.refl _
    · exact ordTo_perm l back (Nat.mod_lt _ (by omega))
  have hp0 := areE_perm hperm h0
  have hz : ∀ s ∈ l, s.size ≤ 1000000 := fun s hs => by have := areE_size h0 s hs; omega
  have hz2 : ∀ s ∈ ordTo l (f % l.length) back l.length, s.size ≤ 1000000 := fun s hs => hz s (hperm.mem_iff.1 hs)
  have cWt : ∀ (u : Value) (H' : Snap) (W : World), Holds H' W → Sl H' u l → Calls Tryd.prog 25 #[u] W (PostOE W H' 79 (wtsA (msgOf l)) 0) := fun u H' W h1 h2 => by
    have := nWeightsT_any u l H' W h1 h2 hz
    rw [h0, show wtsR l = wtsA (msgOf l) by unfold wtsR; rw [if_pos h0]] at this
    exact this
  have cWo : ∀ (u : Value) (H' : Snap) (W : World), Holds H' W → Sl H' u (ordTo l (f % l.length) back l.length) → Calls Tryd.prog 25 #[u] W (PostOE W H' 79 (wtsA (msgOf l)) 0) := fun u H' W h1 h2 => by
    have := nWeightsT_any u (ordTo l (f % l.length) back l.length) H' W h1 h2 hz2
    rw [hp0, show wtsR (ordTo l (f % l.length) back l.length) = wtsA (msgOf l) by unfold wtsR; rw [if_pos hp0, wts_same hperm]] at this
    exact this
  have cLn := fun (u : Value) (H' : Snap) (W : World) (h1 : Holds H' W) (h2 : Sl H' u l) => lengths14_any u l h0 H' W h1 h2
  have cLo := fun (u : Value) (H' : Snap) (W : World) (h1 : Holds H' W) (h2 : Sl H' u (ordTo l (f % l.length) back l.length)) => lengths14_any u _ hp0 H' W h1 h2
  rw [lens_same hperm] at cLo
  have cBt := fun (u : Value) (H' : Snap) (W : World) (h1 : Holds H' W) (h2 : Sl H' u l) => bits14_any u l h0 H' W h1 h2
  have cBo := fun (u : Value) (H' : Snap) (W : World) (h1 : Holds H' W) (h2 : Sl H' u (ordTo l (f % l.length) back l.length)) => bits14_any u _ hp0 H' W h1 h2
  rw [bits_same hperm h0] at cBo
  have cSW : ∀ (u v : Value) (H' : Snap) (W : World), Holds H' W → Sl H' u (wtsA (msgOf l)) → Sl H' v (wtsA (msgOf l)) → Calls Tryd.prog 26 #[u, v] W (PostV W (.bool true)) := fun u v H' W h1 h2 h3 => by
    have := sameWeights_any u v _ _ H' W h1 h2 h3
    rw [decide_eq_true rfl] at this
    exact this
  have cSL : ∀ (u v : Value) (H' : Snap) (W : World), Holds H' W → Sl H' u (lensA (msgOf l)) → Sl H' v (lensA (msgOf l)) → Calls Tryd.prog 27 #[u, v] W (PostV W (.bool true)) := fun u v H' W h1 h2 h3 => by
    have := sameLengths_any u v _ _ H' W h1 h2 h3
    rw [decide_eq_true rfl] at this
    exact this
  have hbS : (([] : List ByteArray).length + l.length) * Enc.by_ ByteArray ≤ 140737488355328 := by simp only [Enc.by_, List.length_nil]; omega
  have hb63 : ([] : List ByteArray).length + l.length ≤ 9223372036854775807 := by simp only [List.length_nil]; omega
  have hb0 : ∀ B : Nat, decide ((0 : Int) ≤ (B : Int)) = true := fun B => decide_eq_true (Int.natCast_nonneg B)
  generalize (bitsA (lensA (msgOf l)) (msgOf l)).length = B at *
  generalize lensA (msgOf l) = L at *
  generalize wtsA (msgOf l) = G at *
  have hb1 := hb0 B
  have hmark : Hid True := Lib.hid trivial
  replace cW := Lib.hid cW
  replace cWt := Lib.hid cWt
  replace cWo := Lib.hid cWo
  replace cLn := Lib.hid cLn
  replace cLo := Lib.hid cLo
  replace cBt := Lib.hid cBt
  replace cBo := Lib.hid cBo
  replace cSW := Lib.hid cSW
  replace cSL := Lib.hid cSL
  replace hbS := Lib.hid hbS
  replace hb63 := Lib.hid hb63
  replace hl := Lib.hid hl
  replace hf := Lib.hid hf
  clear h0 hperm hp0 hz hz2 hb0 hcm
  go_enter Tryd.func6, Tryd.ntmps6
  go_upto_region 4 with (go_at_call 12; refine cR.out.mono ?_; rintro e w2 ⟨rfl, hb2⟩; have x2 := (Ext.refl hw).step hb2 (hw.below hb2))
  clear hb2 hf0 hf1
  go_wp2_with fail
  go_loopw [7, 8] (fun ov iv wq => ∃ k : Nat, k ≤ l.length ∧ iv = .int .i64 (k : Int) ∧ Ext w H wq H ∧ Own H w.heap.size wq 9 ov (ordTo l (f % l.length) back k)) (fun _ iv _ => l.length - (intOf iv).toNat)
  case atStart => exact ⟨0, Nat.zero_le _, rfl, x2, Own.nil _ _ _ _⟩
  case round =>
    clear x2
    obtain ⟨k, hk, rfl, xr, oO⟩ := hrel
    have hwr := xr.holds
    obtain ⟨ao, co, hov, _, _⟩ := oO.form
    rw [ordTo_len] at hov
    subst hov
    by_cases hlt : k < l.length
    · obtain ⟨T, hT⟩ : ∃ T, T = turnN l.length (f % l.length) k := ⟨_, rfl⟩
      obtain ⟨e1, e2, e3, e4, e5, e6, hTn⟩ := order_k hlt hl.out hf.out hT
      obtain ⟨hln, hln2, hln3⟩ := order_n hlt
      obtain ⟨hbS1, hb631⟩ := order_app hlt hl.out l (f % l.length) back
      replace hbS1 := Lib.hid hbS1
      replace hb631 := Lib.hid hb631
      cases back
      · have hx0 : ordN l.length (f % l.length) false k = T := by rw [hT]; rfl
        obtain ⟨x, hx⟩ := At.mk hTn
        have hnext := ordTo_next (l := l) (r := f % l.length) (k := k) (back := false) (x := x) (by rw [hx0]; exact hx)
        obtain ⟨b, o, c', he, hi, hr⟩ := hs.str hx
        cases he
        replace hT := Lib.hid hT
        replace hnext := Lib.hid hnext
        replace hi := Lib.hid hi
        clear hx0 e4 e5
        go_wp2_with (first | ((at_builtin; go_must (refine wpList_app1 (c := 1) (cs := [.string x]) eStr rfl _ _ rfl rfl oO rfl ⟨rfl, hi.out⟩ xr.holds hbS1.out hb631.out xr.below.size ?_); intro v3 w3 o3 g3 hw3 _; have x3 := (xr.alloc _).grown g3 (fun k hk => (oO.lt k hk).1) (fun k hk => oO.free k hk))))
        go_roundw
        case rel => exact ⟨k + 1, hlt, by first | exact j_up2 e3 | rfl, x3, by rw [hnext.out]; exact o3⟩
        case measure => first | exact n_meas e3 hlt | exact n_meas2 hlt
      · have hx0 : ordN l.length (f % l.length) true k = l.length - 1 - T := by rw [hT]; rfl
        obtain ⟨x, hx⟩ := At.mk (show l.length - 1 - T < l.length from Nat.lt_of_le_of_lt (Nat.sub_le _ _) (Nat.sub_lt (Nat.lt_of_le_of_lt (Nat.zero_le _) hlt) Nat.one_pos))
        have hnext := ordTo_next (l := l) (r := f % l.length) (k := k) (back := true) (x := x) (by rw [hx0]; exact hx)
        have hJ : l.length - 1 - T < l.length := hx.lt
        generalize l.length - 1 - T = J at *
        obtain ⟨b, o, c', he, hi, hr⟩ := hs.str hx
        cases he
        replace hT := Lib.hid hT
        replace hnext := Lib.hid hnext
        replace hi := Lib.hid hi
        clear hx0
        go_wp2_with (first | ((at_builtin; go_must (refine wpList_app1 (c := 1) (cs := [.string x]) eStr rfl _ _ rfl rfl oO rfl ⟨rfl, hi.out⟩ xr.holds hbS1.out hb631.out xr.below.size ?_); intro v3 w3 o3 g3 hw3 _; have x3 := (xr.alloc _).grown g3 (fun k hk => (oO.lt k hk).1) (fun k hk => oO.free k hk))))
        go_roundw
        case rel => exact ⟨k + 1, hlt, by first | exact j_up2 e3 | rfl, x3, by rw [hnext.out]; exact o3⟩
        case measure => first | exact n_meas e3 hlt | exact n_meas2 hlt
    · have hke : k = l.length := Nat.le_antisymm hk (Nat.not_lt.1 hlt)
      subst hke
      obtain ⟨H3, x3, _, sO, _⟩ := oO.close xr
      have s3 := hs.mono (x3.le hw)
      clear oO xr hwr hs hlt
      go_upto_region 12 with (first | (have hgd := sB; clear hgd; go_at_call 25; go_must (refine (cWt.out vB HB _ xB2.holds sB).mono ?_); rintro e w4 ⟨v4, H4, rfl, y4, o4⟩; obtain ⟨H5, y5, _, sG, _⟩ := o4.close y4; obtain ⟨a4, c4, rfl, _, _⟩ := o4.form; have x5 := (x3.trans xB2).trans y5; have s5 := (s3.mono (xB2.le x3.holds)).mono (y5.le xB2.holds); have sO5 := (sO.mono (xB2.le x3.holds)).mono (y5.le xB2.holds)) | (have hgd := hmark; clear hgd; at_builtin; go_must (refine wpList_appX (w0 := wr) (H0 := H3) eStr rfl _ _ rfl ((Ext.refl x3.holds).alloc _) rfl (Own.emptyAt (heap_alloc_new _ _) (Nat.le_refl _) (x3.holds.none_of_ge (Nat.le_refl _))) rfl s3 hbS.out hb63.out ?_); intro vB wB oB xB hwB hgB; rw [List.nil_append] at oB; obtain ⟨HB, xB2, _, sB, _⟩ := oB.close xB; clear hmark xB oB hwB hgB))
      clear x3 xB2 sB y4 o4 y5 s3 sO
      go_upto_region 13 with (go_at_call 25; go_must (refine (cWo.out _ H5 _ x5.holds sO5).mono ?_); rintro e w6 ⟨v6, H6, rfl, y6, o6⟩; obtain ⟨H7, y7, _, sG2, _⟩ := o6.close y6; obtain ⟨a6, c6, rfl, _, _⟩ := o6.form; have x7 := x5.trans y7; have s7 := s5.mono (y7.le x5.holds); have sO7 := sO5.mono (y7.le x5.holds); have sG7 := sG.mono (y7.le x5.holds))
      clear x5 y6 o6 y7 s5 sO5 sG
      go_upto_region 14 with (go_at_call 19; go_must (refine (cLn.out _ H7 _ x7.holds s7).mono ?_); rintro e w8 ⟨v8, H8, rfl, y8, o8⟩; obtain ⟨H9, y9, _, sL, _⟩ := o8.close y8; obtain ⟨a8, c8, rfl, _, _⟩ := o8.form; have x9 := x7.trans y9; have l9 := y9.le x7.holds; have s9 := s7.mono l9; have sO9 := sO7.mono l9; have sG9 := sG7.mono l9; have sH9 := sG2.mono l9)
      clear x7 y8 o8 y9 s7 sO7 sG7 sG2 l9
      go_upto_region 15 with (go_at_call 19; go_must (refine (cLo.out _ H9 _ x9.holds sO9).mono ?_); rintro e w10 ⟨v10, H10, rfl, y10, o10⟩; obtain ⟨H11, y11, _, sM, _⟩ := o10.close y10; obtain ⟨a10, c10, rfl, _, _⟩ := o10.form; have x11 := x9.trans y11; have l11 := y11.le x9.holds; have s11 := s9.mono l11; have sO11 := sO9.mono l11; have sG11 := sG9.mono l11; have sH11 := sH9.mono l11; have sL11 := sL.mono l11)
      clear x9 y10 o10 y11 s9 sO9 sG9 sH9 sL l11
      go_upto_region 16 with (go_at_call 22; go_must (refine (cBt.out _ H11 _ x11.holds s11).mono ?_); rintro e w12 ⟨rfl, hb12⟩; have x12 := x11.step (hb12.mono x11.below.size) (x11.holds.below hb12))
      clear x11 hb12 s11
      go_wp2_with (first | ((have hgd := x15; clear hgd; go_at_call 13; go_must (refine (cW.out H11 _ x15.holds).mono ?_); rintro e w16 ⟨rfl, hb16⟩)) | ((have hgd := x14; clear hgd; go_at_call 22; go_must (refine (cBo.out _ H11 _ x14.holds sO11).mono ?_); rintro e w15 ⟨rfl, hb15⟩; have x15 := x14.step (hb15.mono x14.below.size) (x14.holds.below hb15))) | ((have hgd := x13; clear hgd; go_at_call 27; go_must (refine (cSL.out _ _ H11 _ x13.holds sL11 sM).mono ?_); rintro e w14 ⟨rfl, hb14⟩; have x14 := x13.step (hb14.mono x13.below.size) (x13.holds.below hb14))) | ((go_at_call 26; go_must (refine (cSW.out _ _ H11 _ x12.holds sG11 sH11).mono ?_); rintro e w13 ⟨rfl, hb13⟩; have x13 := x12.step (hb13.mono x12.below.size) (x12.holds.below hb13))))
      go_ret
      exact ⟨rfl, x15.below.trans (hb16.mono x15.below.size)⟩
end Go.Proofs.YthcfhmebikcfpaaDoor

namespace Go.Proofs.YthcfhmebikcfpaaDoor
open Go.ChangeShapes Go.WideShapes Go.ChangeAt Go.RowKit

theorem nightOrder_own : ownKnob Tryd.prog.godebug = none := by kernel_rfl
theorem nightOrder_laid : laidOutB Tryd.prog = true := by kernel_rfl

set_option maxHeartbeats 1600000 in
set_option maxRecDepth 100000 in
theorem nightOrder_lifted (os : Os) (started : os.Started) (H : Type) (enc : TypeId × Value → H) :
    ReturnsInHanded {} Tryd.checked os 6 .any (fun w args => (Rows.nightOrderSpec.pre enc Tryd.prog Tryd.f6 [] false w args ∧ laidMetH Tryd.prog laidN w) ∧ sizedMet enc Tryd.prog Tryd.f6 (OpenSpec.ofChange Rows.nightOrderSpec) false w args)
      (Rows.nightOrderSpec.post enc Tryd.prog Tryd.f6 false true false false) := by
  refine returnsInHanded_of_change_and (C := Tryd.checked) (X := fun w _ => laidMetH Tryd.prog laidN w) (fun _ _ _ hh h => h.of_heap hh) nightOrder_own started (by kernel_rfl) Tryd.func6
    (ChangeSpec.witness_shaped (enc := enc) (C := Tryd.checked) (os := os) (X := fun w _ => laidMetH Tryd.prog laidN w) false (doorN os) #[.slice none 0 0, .int .i64 0, .bool false] 8 rfl (door_shaped os _) (by kernel_rfl) (by kernel_rfl) (by kernel_rfl) (door_met os _)) ?_
  intro W base args ds gs before hval0 hW _ hsz _ _
  have hval : ∀ (j : Nat) t v, Tryd.f6.params[j]? = some t → args[j]? = some v → Value.okWide Tryd.prog W .any base t v := hval0
  have hW' := hW
  obtain ⟨p, q, hA0, hV, rfl, _, _⟩ := hW
  have hA : DataW.TrodAll enc Tryd.prog W 0 (fun _ => true) true Tryd.f6.params.toList args.toList ds p := hA0
  have hS : (DataW.weightsEach Tryd.prog (Tryd.f6.params.toList ++ []) (ds ++ gs)).all (· ≤ reachBytes) = true := hsz
  rw [Tryd.params6] at hA hval hS
  obtain ⟨v0, vs0, d0, ds0, p0, q0, hargs, rfl, rfl, h0, r0⟩ := trodAll_cons hA
  obtain ⟨v1, vs1, d1, ds1, p1, q1, rfl, rfl, rfl, h1, r1⟩ := trodAll_cons r0
  obtain ⟨v2, vs2, d2, ds2, p2, q2, rfl, rfl, rfl, h2, r2⟩ := trodAll_cons r1
  obtain ⟨rfl, rfl, rfl⟩ := trodAll_nil r2
  obtain rfl : args = #[v0, v1, v2] := by cases args; simp_all
  obtain ⟨rfl, rfl⟩ := trodVars_none hV
  clear hA0 hval0 hsz
  simp only [List.append_nil] at hW' hS
  have hlt : ∀ x ∈ p0 ++ (p1 ++ p2), x.block < W.heap.size := fun x hx => by simpa using hW'.lt x hx
  have harg0 : ∀ W', Below W.heap.size W W' → DataW.Trod enc Tryd.prog W' 0 (fun b => decide (b < W.heap.size)) true 22 v0 d0 p0 := fun W' hb =>
    Below.trod nightOrder_laid (by kernel_rfl) (of_decide_eq_true (by kernel_rfl)) h0 hb (fun x hx => hlt x (List.mem_append.2 (.inl hx)))
  have hw0 : ∀ k ∈ d0.weights Tryd.prog 22, k ≤ reachBytes := fun k hk => by
    simpa using List.all_eq_true.1 hS k (DataW.weights_mem_each (j := 0) rfl rfl k hk)
  obtain ⟨a0, l0, c0, rfl⟩ := okWide_slice Tryd.underlying22 (hval 0 22 v0 rfl rfl)
  obtain ⟨n0, h0'⟩ := h0
  obtain ⟨xs0, hx0⟩ := texts_opened (by simpa [Value.cells] using h0') hw0
  obtain ⟨z1, rfl, rfl, rfl, wz1⟩ := open_int Tryd.underlying3 (hval 1 3 v1 rfl rfl) h1
  have hz1 := i64_wf wz1
  obtain ⟨b2, rfl, rfl, rfl⟩ := open_bool Tryd.underlying4 (hval 2 4 v2 rfl rfl) h2
  refine (nightOrder_any _ xs0 z1 b2 (snapOf W) W (snapOf_holds W) hx0 hz1).mono fun e W' ⟨he, hb⟩ => ?_
  subst he
  refine ⟨_, rfl, _, _, _, [], _, [], hW', ?_, trodAll_cons_mk (harg0 W' hb) (trodAll_cons_mk (shut_int Tryd.underlying3 wz1) (trodAll_cons_mk (shut_bool Tryd.underlying4 _) trodAll_mk0)), rfl, hb.frame _, fun h => by cases h⟩
  exact trodAll_mk1 (shut_bool Tryd.underlying4 _)

theorem nightOrder_said : Rows.NightOrderSaid :=
  OpenClaim.holds_of_wide 6 Tryd.f6 rfl rfl rfl rfl rfl rfl rfl ⟨rfl, rfl, rfl, rfl, rfl⟩ rfl rfl rfl rfl rfl (by kernel_rfl) Tryd.func6 (by kernel_rfl)
    (of_decide_eq_true (by kernel_rfl)) (by unfold Func.isWrapper; first | (rw [if_pos (by decide +kernel)]; kernel_rfl) | (rw [if_neg (by decide +kernel)]; exact ⟨rfl, rfl⟩))
    (fun os started H enc _ => nightOrder_lifted os started H enc)
theorem nightOrder_card : Rows.NightOrderCardSaid :=
  Claim7.holds_tied_plain_at .later [] [.data, .pinned] true (true, "939a424db51006e050b52def13aedbed6d4c52175fd3e7427ddbb41609789fdc") false
    nightOrder_said (fun _ h => by cases h) (by kernel_rfl) (fun _ h => by cases h) nightOrder_row_tie rfl ⟨rfl, rfl⟩ (by kernel_rfl) rfl
    (fun f fn hf hfn => by
      obtain rfl : f = 6 := Option.some.inj ((show Tryd.prog.funcNamed "flong/flonglaw14.NightOrder" = some 6 by kernel_rfl).symm.trans hf) |>.symm
      obtain rfl : fn = Tryd.f6 := (Option.some.inj (Tryd.func6.symm.trans hfn)).symm
      exact ⟨by kernel_rfl, fun j t ht => by
        rw [Tryd.params6] at ht
        have hm : t ∈ [22, 3, 4] := by simpa using Array.mem_of_getElem? ht
        have hall : ([22, 3, 4].all fun u => !Tryd.prog.wantsStandIn u) = true := by kernel_rfl
        exact (show Tryd.prog.wantsStandIn t = false by simpa using List.all_eq_true.1 hall t hm)⟩)
    (by kernel_rfl)
end Go.Proofs.YthcfhmebikcfpaaDoor
