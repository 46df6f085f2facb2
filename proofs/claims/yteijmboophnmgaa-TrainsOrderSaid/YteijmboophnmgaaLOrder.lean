/- The walk of flonglaw04.TrainsOrder. -/
import Derived.Test.YteijmboophnmgaaHelp
import Derived.Test.YteijmboophnmgaaBehind
import Derived.Test.YteijmboophnmgaaLWait
import Derived.Test.YteijmboophnmgaaLTold
namespace Go.Proofs.Yteijmboophnmgaa
open Go.RowKit

attribute [local go_sem] Holds.drew Holds.alloc Holds.drewN WB.holds

section
variable {α : Type}
def mixL (xs ys : List α) (k : Nat) : List α := ys.take k ++ xs.drop k
theorem mixL_len {xs ys : List α} (he : ys.length = xs.length) (k : Nat) : (mixL xs ys k).length = xs.length := by unfold mixL; simp; omega
theorem mixL_at {xs ys : List α} (he : ys.length = xs.length) {k : Nat} {x : α} (hx : At xs k x) : At (mixL xs ys k) k x := by
  have hk := hx.lt
  unfold mixL At
  have hl : (ys.take k).length = k := by simp; omega
  rw [List.getElem?_append_right (by omega), hl, Nat.sub_self, List.getElem?_drop]
  exact hx
theorem mixL_set {xs ys : List α} (he : ys.length = xs.length) {k : Nat} {y : α} (hy : At ys k y) : (mixL xs ys k).set k y = mixL xs ys (k + 1) := by
  have hk := hy.lt
  unfold mixL
  have hl : (ys.take k).length = k := by simp; omega
  have hkx : k < xs.length := by omega
  have hd : xs.drop k = xs[k] :: xs.drop (k + 1) := List.drop_eq_getElem_cons hkx
  rw [hy.take, hd, List.set_append_right _ _ (by omega), hl, Nat.sub_self, List.set_cons_zero, List.append_assoc]; rfl
theorem mixL_all {xs ys : List α} (he : ys.length = xs.length) : mixL xs ys xs.length = ys := by
  unfold mixL
  rw [List.drop_length, List.append_nil, List.take_of_length_le (by omega)]
theorem mixL_zero (xs ys : List α) : mixL xs ys 0 = xs := by simp [mixL]
end
def turnN (n s : Nat) : List Nat := (List.range n).map fun i => (i + s) % n
theorem turnN_at {α : Type} {xs : List α} {d : α} {s k : Nat} {z : α} (hk : k < xs.length) (hz : At xs ((k + s) % xs.length) z) : At ((turnN xs.length s).map fun k => xs.getD k d) k z := by
  unfold turnN At
  rw [List.getElem?_map, List.getElem?_map, List.getElem?_range hk]
  simp only [Option.map_some]
  rw [hz.getD]

set_option maxRecDepth 100000 in
set_option maxHeartbeats 8000000 in
theorem trainsOrder_any (vm vb vt : Value) (h : House) (mo bo : Int) (H : Snap) (w : World) (hw : Holds H w) (hh : Hou H vm vb vt h) (hI : I64 mo) (hI2 : I64 bo) :
    Calls Try.prog 9 #[houV vm vb vt h, .int .i64 mo, .int .i64 bo] w (PostV w (.bool true)) := by
  cases hr : readyB h
  · go_enter Try.func9, Try.ntmps9
    go_wp2_with (first
      | (have hgd := x2; clear hgd; go_at_call 16; refine (works_any H1 _ x2.holds).mono ?_; rintro e w3 ⟨rfl, hb3⟩; have x3 := x2.step (hb3.mono x2.below.size) (x2.holds.below hb3))
      | (have hgd := hx; clear hgd; go_at_call 15; refine (ready_any _ _ _ _ H1 _ hw1 (hh.mono hle)).mono ?_; rintro e w2 ⟨rfl, hb2⟩; rw [hr]; have x2 := hx.step (hb2.mono hx.below.size) (hw1.below hb2))
      | (refine wpList_boxF rfl _ rfl (Ext.refl hw) ?_; intro B w1 H1 hle hx hB hBw; obtain ⟨hc0, hc1, hc2, hc3⟩ := cellsHou hB; clear hB hw; have hw1 := hx.holds))
    go_ret
    exact ⟨rfl, x3.below⟩
  · have hv := readyB_valid hr
    by_cases hok : 0 ≤ mo ∧ 0 ≤ bo ∧ mo ≤ 100 ∧ bo ≤ 100
    · obtain ⟨hok1, hok2, hok3, hok4⟩ := hok
      obtain ⟨s1, rfl⟩ := Int.eq_ofNat_of_zero_le hok1
      obtain ⟨s2, rfl⟩ := Int.eq_ofNat_of_zero_le hok2
      have hm3 := hv.m3
      have hm1 := hv.m1
      have hb5 := hv.b5
      obtain ⟨avm, cvm, rfl, _, _⟩ := hh.m.form
      obtain ⟨avb, cvb, rfl, _, _⟩ := hh.b.form
      obtain ⟨rm, hrm⟩ : ∃ rm, Hid (rm = (turnN h.ms.length s1).map fun k => h.ms.getD k default) := ⟨_, rfl⟩
      obtain ⟨rb, hrb⟩ : ∃ rb, Hid (rb = (turnN h.bs.length s2).map fun k => h.bs.getD k default) := ⟨_, rfl⟩
      have hrml : Hid (rm.length = h.ms.length) := by show _ = _; rw [hrm.out]; simp [turnN]
      have hrbl : Hid (rb.length = h.bs.length) := by show _ = _; rw [hrb.out]; simp [turnN]
      have hmin : ∀ (P : Program) (w : World) (ts : Array TypeId) (t : TypeId), (Builtin.min_ ts t #[.int .i64 (s1 : Int), .int .i64 (s2 : Int)]).run P w = .ok (.int .i64 (min (s1 : Int) s2)) w := fun P w ts t => by
        rw [run_min_int2]; congr 2; split <;> omega
      have hmax : ∀ (P : Program) (w : World) (ts : Array TypeId) (t : TypeId), (Builtin.max_ ts t #[.int .i64 (s1 : Int), .int .i64 (s2 : Int)]).run P w = .ok (.int .i64 (max (s1 : Int) s2)) w := fun P w ts t => by
        rw [run_max_int2]; congr 2; split <;> omega
      have hlo : 0 ≤ min (s1 : Int) s2 := by omega
      have hhi : max (s1 : Int) s2 ≤ 100 := by omega
      generalize min (s1 : Int) s2 = lo at *
      generalize max (s1 : Int) s2 = hi at *
      go_enter Try.func9, Try.ntmps9
      go_upto_region 4 with (first
        | (have hgd := x2; clear hgd; go_at_call 29; refine (copy4_any _ _ _ _ H1 _ x2.holds (hh.mono hle)).mono ?_; rintro e w3 ⟨um, ub, ut, H3, rfl, y3, om, ob, ot⟩; obtain ⟨am, cm, rfl, _, _⟩ := om.form; obtain ⟨ab, cb, rfl, _, _⟩ := ob.form; obtain ⟨at', ct, rfl, _, _⟩ := ot.form)
        | (have hgd := hx; clear hgd; go_at_call 15; refine (ready_any _ _ _ _ H1 _ hw1 (hh.mono hle)).mono ?_; rintro e w2 ⟨rfl, hb2⟩; rw [hr]; have x2 := hx.step (hb2.mono hx.below.size) (hw1.below hb2); have hw2 := x2.holds)
        | (refine wpList_boxF rfl _ rfl (Ext.refl hw) ?_; intro B w1 H1 hle hx hB hBw; obtain ⟨hc0, hc1, hc2, hc3⟩ := cellsHou hB; clear hB hw; have hw1 := hx.holds))
      have hb4 := HBox.make (h := h) om ob ot hh.c y3.holds y3.below.size
      have x4 := (x2.trans y3).alloc (.cells #[.slice am h.ms.length cm, .slice ab h.bs.length cb, .slice at' h.ts.length ct, .int .i64 h.ch] 26)
      have l3 := y3.le x2.holds
      have hwb : w.heap.size ≤ w2.heap.size := x2.below.size
      replace hc0 := lift l3 hc0
      replace hc1 := lift l3 hc1
      replace hc2 := lift l3 hc2
      replace hc3 := lift l3 hc3
      have hhm := (hh.mono hle).mono l3
      clear om ob ot y3 hw2 hb2 x2 l3 hle hh hx hw1 hmin hmax hlo hhi
      generalize w3.alloc (.cells #[.slice am h.ms.length cm, .slice ab h.bs.length cb, .slice at' h.ts.length ct, .int .i64 h.ch] 26) = w4 at *
      generalize w3.heap.size = C at *
      go_wp2_with fail
      go_loopw [8] (fun i wr => ∃ (k : Nat) (ml : List Mach), k ≤ h.ms.length ∧ i = .int .i64 k ∧ Hid (ml = mixL h.ms rm k) ∧ HBox H3 w2.heap.size wr C (.slice am h.ms.length cm) (.slice ab h.bs.length cb) (.slice at' h.ts.length ct) { h with ms := ml } ∧ Ext w H wr H3) (fun i _ => h.ms.length - (intOf i).toNat)
      case atStart => exact ⟨0, h.ms, Nat.zero_le _, rfl, by show _ = _; rw [mixL_zero], hb4, x4⟩
      case round =>
        clear hb4 x4
        obtain ⟨k, ml, hk, rfl, hml, hbr, hxr⟩ := hrel
        have hwr := hxr.holds
        by_cases hlk : k < h.ms.length
        · have hp : (k + s1) % h.ms.length < h.ms.length := Nat.mod_lt _ (by omega)
          obtain ⟨z, hz⟩ := At.mk hp
          have hzr : At rm k z := by rw [hrm.out]; exact turnN_at hlk hz
          have hrem : ((k : Int) + (s1 : Int)).tmod (h.ms.length : Int) = (((k + s1) % h.ms.length : Nat) : Int) := by
            rw [← Int.natCast_add]; exact (Int.ofNat_tmod _ _).symm
          generalize (k + s1) % h.ms.length = p at *
          obtain ⟨sb, so, sc, hev, hzi, q0, q1, q2⟩ := hhm.m.mach hz
          cases hev
          obtain ⟨g, c, cur, hev, hgb, hgn, hgC, hgr, hgs, hset⟩ := hbr.setM (i := k) (by show k < ml.length; rw [hml.out, mixL_len hrml.out]; exact hlk)
          have hmll : ml.length = h.ms.length := by rw [hml.out, mixL_len hrml.out]
          dsimp only at hev
          rw [hmll] at hev
          cases hev
          obtain ⟨c0, c1, c2, c3⟩ := hbr.cells
          dsimp only at c3 hgs
          rw [hmll] at hgs
          have t0 := cell_of_row wr g (k * 3) _ _ _ hgr
          have t1 := cell_of_row wr g (k * 3 + 1) _ _ _ hgr
          have t2 := cell_of_row wr g (k * 3 + 2) _ _ _ hgr
          rw [Array.getElem?_eq_getElem (by omega)] at t0 t1 t2
          have f0 : wr.frozen? ⟨g, k * 3, none⟩ = false := by simp [World.frozen?, hgr]
          have f1 : wr.frozen? ⟨g, k * 3 + 1, none⟩ = false := by simp [World.frozen?, hgr]
          have f2 : wr.frozen? ⟨g, k * 3 + 2, none⟩ = false := by simp [World.frozen?, hgr]
          have hb8 := hset z hzi.1 hzi.2.1 hzi.2.2
          have x8 := ((hxr.setCell (a := ⟨g, k * 3, none⟩) (Nat.le_trans hwb hgb) hgn (.int .i64 z.r)).setCell (a := ⟨g, k * 3 + 1, none⟩) (Nat.le_trans hwb hgb) hgn (.int .i64 z.p)).setCell (a := ⟨g, k * 3 + 2, none⟩) (Nat.le_trans hwb hgb) hgn (.int .i64 z.s)
          have hk0 : 0 ≤ (k : Int) := by omega
          have hk1 : (k : Int) < (h.ms.length : Int) := by omega
          have hp0 : 0 ≤ (p : Int) := by omega
          have hp1 : (p : Int) < (h.ms.length : Int) := by omega
          have hn0 : (h.ms.length : Int) ≠ 0 := by omega
          have hsuc : Hid (ml.set k z = mixL h.ms rm (k + 1)) := by show _ = _; rw [hml.out, mixL_set hrml.out hzr]
          replace hb8 := Lib.hid hb8
          replace x8 := Lib.hid x8
          replace hmll := Lib.hid hmll
          clear hset
          have hwrp : IntKind.i64.wrap ((k : Int) + (s1 : Int)) = (k : Int) + (s1 : Int) := by rw [IntKind.wrap_i64]; omega
          go_upto_region 7 with fail
          go_region
          all_goals
            go_wp2_with fail
            go_roundw
            case rel => exact ⟨k + 1, _, by omega, by go_num, hsuc, hb8.out.drew, x8.out.drew⟩
            case measure => simp [intOf]; omega
        · obtain rfl : k = h.ms.length := by omega
          have hmle : ml = rm := by rw [hml.out, mixL_all hrml.out]
          subst hmle
          go_wp2_with fail
          go_loopw [9] (fun i wr => ∃ (k : Nat) (bl : List Bund), k ≤ h.bs.length ∧ i = .int .i64 k ∧ Hid (bl = mixL h.bs rb k) ∧ HBox H3 w2.heap.size wr C (.slice am h.ms.length cm) (.slice ab h.bs.length cb) (.slice at' h.ts.length ct) { h with ms := ml, bs := bl } ∧ Ext w H wr H3) (fun i _ => h.bs.length - (intOf i).toNat)
          case atStart => exact ⟨0, h.bs, Nat.zero_le _, rfl, by show _ = _; rw [mixL_zero], hbr, hxr⟩
          case round =>
            clear hbr hxr hwr
            obtain ⟨k, bl, hk, rfl, hbl, hbr, hxr⟩ := hrel
            have hwr := hxr.holds
            by_cases hlk : k < h.bs.length
            · have hp : (k + s2) % h.bs.length < h.bs.length := Nat.mod_lt _ (by omega)
              obtain ⟨z, hz⟩ := At.mk hp
              have hzr : At rb k z := by rw [hrb.out]; exact turnN_at hlk hz
              have hrem : ((k : Int) + (s2 : Int)).tmod (h.bs.length : Int) = (((k + s2) % h.bs.length : Nat) : Int) := by
                rw [← Int.natCast_add]; exact (Int.ofNat_tmod _ _).symm
              generalize (k + s2) % h.bs.length = p at *
              obtain ⟨sb, so, sc, hev, hzi, q0, q1, q2⟩ := hhm.b.bund hz
              cases hev
              obtain ⟨g, c, cur, hev, hgb, hgn, hgC, hgr, hgs, hset⟩ := hbr.setB (i := k) (by show k < bl.length; rw [hbl.out, mixL_len hrbl.out]; exact hlk)
              have hmll : bl.length = h.bs.length := by rw [hbl.out, mixL_len hrbl.out]
              dsimp only at hev
              rw [hmll] at hev
              cases hev
              obtain ⟨c0, c1, c2, c3⟩ := hbr.cells
              dsimp only at c3 hgs
              rw [hmll] at hgs
              have t0 := cell_of_row wr g (k * 3) _ _ _ hgr
              have t1 := cell_of_row wr g (k * 3 + 1) _ _ _ hgr
              have t2 := cell_of_row wr g (k * 3 + 2) _ _ _ hgr
              rw [Array.getElem?_eq_getElem (by omega)] at t0 t1 t2
              have f0 : wr.frozen? ⟨g, k * 3, none⟩ = false := by simp [World.frozen?, hgr]
              have f1 : wr.frozen? ⟨g, k * 3 + 1, none⟩ = false := by simp [World.frozen?, hgr]
              have f2 : wr.frozen? ⟨g, k * 3 + 2, none⟩ = false := by simp [World.frozen?, hgr]
              have hb8 := hset z hzi.1 hzi.2.1 hzi.2.2
              have x8 := ((hxr.setCell (a := ⟨g, k * 3, none⟩) (Nat.le_trans hwb hgb) hgn (.int .i64 z.t)).setCell (a := ⟨g, k * 3 + 1, none⟩) (Nat.le_trans hwb hgb) hgn (.int .i64 z.h)).setCell (a := ⟨g, k * 3 + 2, none⟩) (Nat.le_trans hwb hgb) hgn (.int .i64 z.e)
              have hk0 : 0 ≤ (k : Int) := by omega
              have hk1 : (k : Int) < (h.bs.length : Int) := by omega
              have hp0 : 0 ≤ (p : Int) := by omega
              have hp1 : (p : Int) < (h.bs.length : Int) := by omega
              have hn0 : (h.bs.length : Int) ≠ 0 := by omega
              have hsuc : Hid (bl.set k z = mixL h.bs rb (k + 1)) := by show _ = _; rw [hbl.out, mixL_set hrbl.out hzr]
              replace hb8 := Lib.hid hb8
              replace x8 := Lib.hid x8
              replace hmll := Lib.hid hmll
              clear hset
              have hwrp : IntKind.i64.wrap ((k : Int) + (s2 : Int)) = (k : Int) + (s2 : Int) := by rw [IntKind.wrap_i64]; omega
              go_upto_region 11 with fail
              go_region
              all_goals
                go_wp2_with fail
                go_roundw
                case rel => exact ⟨k + 1, _, by omega, by go_num, hsuc, hb8.out.drew, x8.out.drew⟩
                case measure => simp [intOf]; omega
            · obtain rfl : k = h.bs.length := by omega
              have hble : bl = rb := by rw [hbl.out, mixL_all hrbl.out]
              subst hble
              have ht : ({ h with ms := ml, bs := bl } : House) = turnH h (turnN h.ms.length s1) (turnN h.bs.length s2) := by
                unfold turnH; rw [← hrm.out, ← hrb.out]
              rw [ht] at hbr
              obtain ⟨H6, x6, l6, hho, hC6⟩ := (hbr.weaken hwb).closeC hxr
              have hM : Perm0 h.ms.length (turnN h.ms.length s1) := turned _ _
              have hB : Perm0 h.bs.length (turnN h.bs.length s2) := turned _ _
              have hov := turn_valid hv hM hB
              obtain ⟨hd0, hd1, hd2, hd3⟩ := cellsHou (h := turnH h (turnN h.ms.length s1) (turnN h.bs.length s2)) hC6
              have hvo := valid_iff.2 hov
              have S1 := turn_sim hM hB
              have S2 := turn_back hM hB
              have hSall : ∀ l, sureB h l = sureB (turnH h (turnN h.ms.length s1) (turnN h.bs.length s2)) l := fun l => by
                rw [Bool.eq_iff_iff]; exact ⟨(S1.told hv hov).1 l, (S2.told hov hv).1 l⟩
              have hFe : fewestOf (turnH h (turnN h.ms.length s1) (turnN h.bs.length s2)) = fewestOf h := by
                have e1 := S1.fewest hv hov
                have e2 := S2.fewest hov hv
                unfold fewestOf
                rw [hvo, valid_iff.2 hv, if_pos rfl, if_pos rfl]; omega
              have hTe : toldOf (turnH h (turnN h.ms.length s1) (turnN h.bs.length s2)) = toldOf h := toldOf_same rfl hSall
              have hSe : sureB (turnH h (turnN h.ms.length s1) (turnN h.bs.length s2)) [] = sureB h [] := (hSall []).symm
              obtain ⟨hsp1, hsp2⟩ := spare_turn hv hM hB
              have hVe : spareVal (turnH h (turnN h.ms.length s1) (turnN h.bs.length s2)) = spareVal h := by
                unfold spareVal
                rw [hvo, valid_iff.2 hv, if_pos rfl, if_pos rfl]
                by_cases c : spareRaw h < 0
                · rw [if_pos c, if_pos (hsp1.1 c)]
                · rw [if_neg c, if_neg (fun d => c (hsp1.2 d)), hsp2 (by omega)]
              have hEe : spareErr (turnH h (turnN h.ms.length s1) (turnN h.bs.length s2)) = spareErr h := by
                unfold spareErr
                rw [hvo, valid_iff.2 hv, if_pos rfl, if_pos rfl]
                by_cases c : spareRaw h < 0
                · rw [if_pos c, if_pos (hsp1.1 c)]
                · rw [if_neg c, if_neg (fun d => c (hsp1.2 d))]
              have hwr6 := x6.holds
              replace hc0 := lift l6 hc0
              replace hc1 := lift l6 hc1
              replace hc2 := lift l6 hc2
              replace hc3 := lift l6 hc3
              replace hhm := hhm.mono l6
              clear hbr hxr hwr l6 hC6 S1 S2 hSall hsp1 hsp2 hM hB ht hvo hrm hrb hrml hrbl hml hbl
              go_upto_region 12 with fail
              generalize turnH h (turnN h.ms.length s1) (turnN h.bs.length s2) = o at *
              generalize hvmq : Value.slice avm h.ms.length cvm = vm at *
              generalize hvbq : Value.slice avb h.bs.length cvb = vb at *
              generalize hvumq : Value.slice am h.ms.length cm = um at *
              generalize hvubq : Value.slice ab h.bs.length cb = ub at *
              generalize hvutq : Value.slice at' h.ts.length ct = ut at *
              clear hvmq hvbq hvumq hvubq hvutq
              have x5 := x6
              have hw5 := hwr6
              have hF1 : ∀ (H' : Snap) (w : World), Holds H' w → SLe H6 H' → Calls Try.prog 34 #[houV vm vb vt h] w (PostV w (.int .i64 (fewestOf h))) := fun H' w hw k => fewestL_any _ _ _ _ hv H' w hw (hhm.mono k)
              have hF2 : ∀ (H' : Snap) (w : World), Holds H' w → SLe H6 H' → Calls Try.prog 34 #[houV um ub ut o] w (PostV w (.int .i64 (fewestOf o))) := fun H' w hw k => fewestL_any _ _ _ _ hov H' w hw (hho.mono k)
              have hT1 : ∀ (H' : Snap) (w : World), Holds H' w → SLe H6 H' → Calls Try.prog 17 #[houV vm vb vt h] w (Post w H' fun v H' => ∃ u, v = .tuple #[u, .bool true] ∧ Sl H' u (toldOf h)) := fun H' w hw k => toldL_any _ _ _ _ hv H' w hw (hhm.mono k)
              have hT2 : ∀ (H' : Snap) (w : World), Holds H' w → SLe H6 H' → Calls Try.prog 17 #[houV um ub ut o] w (Post w H' fun v H' => ∃ u, v = .tuple #[u, .bool true] ∧ Sl H' u (toldOf o)) := fun H' w hw k => toldL_any _ _ _ _ hov H' w hw (hho.mono k)
              have hS1 : ∀ (H' : Snap) (w : World), Holds H' w → SLe H6 H' → Calls Try.prog 18 #[houV vm vb vt h] w (PostV w (.tuple #[.bool (sureB h []), .bool true])) := fun H' w hw k => sureL_any _ _ _ _ hv H' w hw (hhm.mono k)
              have hS2 : ∀ (H' : Snap) (w : World), Holds H' w → SLe H6 H' → Calls Try.prog 18 #[houV um ub ut o] w (PostV w (.tuple #[.bool (sureB o []), .bool true])) := fun H' w hw k => sureL_any _ _ _ _ hov H' w hw (hho.mono k)
              have hP1 : ∀ (H' : Snap) (w : World), Holds H' w → SLe H6 H' → Calls Try.prog 26 #[houV vm vb vt h] w (PostV w (.tuple #[.int .i64 (spareVal h), .int .i64 (spareErr h)])) := fun H' w hw k => spareP_any _ _ _ _ H' w hw (hhm.mono k)
              have hP2 : ∀ (H' : Snap) (w : World), Holds H' w → SLe H6 H' → Calls Try.prog 26 #[houV um ub ut o] w (PostV w (.tuple #[.int .i64 (spareVal o), .int .i64 (spareErr o)])) := fun H' w hw k => spareP_any _ _ _ _ H' w hw (hho.mono k)
              rw [hFe] at hF2
              rw [hTe] at hT2
              rw [hSe] at hS2
              rw [hVe, hEe] at hP2
              have hFb1 := (fewestOf_bd hv).1
              generalize fewestOf h = f1 at *
              generalize toldOf h = l1 at *
              generalize sureB h [] = s1 at *
              generalize spareVal h = p1 at *
              generalize spareErr h = p2 at *
              clear hhm hho hv hov hFe hTe hSe hVe hEe
              replace hF1 := Lib.hid hF1
              replace hF2 := Lib.hid hF2
              replace hT1 := Lib.hid hT1
              replace hT2 := Lib.hid hT2
              replace hS1 := Lib.hid hS1
              replace hS2 := Lib.hid hS2
              replace hP1 := Lib.hid hP1
              replace hP2 := Lib.hid hP2
              refine wp_region_quietB H6 (by kernel_rfl) (by kernel_rfl) hw5 (fun hne => ?_)
              repeat go_big_quiet_step ((first | (go_at_call_of 34 (Value.agg #[vm, vb, vt, .int .i64 h.ch]); exact Calls.quietB (hF1.out _ _ (WB.holds _) (SLe.refl _))) | (go_at_call_of 34 (Value.agg #[um, ub, ut, .int .i64 o.ch]); exact Calls.quietB (hF2.out _ _ (WB.holds _) (SLe.refl _)))))
              refine wpQuiet_nil ?_
              rintro ⟨w6, hw6, hb6⟩
              clear hne
              have x6 := x5.step (hb6.mono x5.below.size) hw6
              go_wp2_with (first
                | (have hgd := x13; clear hgd; go_at_call 16; refine (works_any HB _ x13.holds).mono ?_; rintro e w14 ⟨rfl, hb14⟩; have xE := x13.step (hb14.mono x13.below.size) (x13.holds.below hb14))
                | (have hgd := x12; clear hgd; go_at_call 36; refine (sameI _ _ _ HB _ x12.holds (sA.mono lB) sB).mono ?_; rintro e w13 ⟨rfl, hb13⟩; have x13 := x12.step (hb13.mono x12.below.size) (x12.holds.below hb13); have hw13 := x13.holds)
                | (have hgd := x11; clear hgd; go_at_call 26; refine (hP2.out HB _ x11.holds lAB).mono ?_; rintro e w12 ⟨rfl, hb12⟩; have x12 := x11.step (hb12.mono x11.below.size) (x11.holds.below hb12); have hw12 := x12.holds)
                | (have hgd := x10; clear hgd; go_at_call 26; refine (hP1.out HB _ x10.holds lAB).mono ?_; rintro e w11 ⟨rfl, hb11⟩; have x11 := x10.step (hb11.mono x10.below.size) (x10.holds.below hb11); have hw11 := x11.holds)
                | (have hgd := x9; clear hgd; go_at_call 18; refine (hS2.out HB _ x9.holds lAB).mono ?_; rintro e w10 ⟨rfl, hb10⟩; have x10 := x9.step (hb10.mono x9.below.size) (x9.holds.below hb10); have hw10 := x10.holds)
                | (have hgd := x8; clear hgd; go_at_call 18; refine (hS1.out HB _ x8.holds lAB).mono ?_; rintro e w9 ⟨rfl, hb9⟩; have x9 := x8.step (hb9.mono x8.below.size) (x8.holds.below hb9); have hw9 := x9.holds)
                | (have hgd := x7; clear hgd; go_at_call 17; refine (hT2.out HA _ x7.holds lA).mono ?_; rintro e w8 ⟨v8, HB, rfl, yB, uB, rfl, sB⟩; obtain ⟨aB, cB, rfl, _, _⟩ := sB.form; have x8 := x7.trans yB; have lB := yB.le x7.holds; have lAB := lA.trans lB; have hw8 := x8.holds; replace hc0 := lift lB hc0; replace hc1 := lift lB hc1; replace hc2 := lift lB hc2; replace hc3 := lift lB hc3; replace hd0 := lift lB hd0; replace hd1 := lift lB hd1; replace hd2 := lift lB hd2; replace hd3 := lift lB hd3)
                | (have hgd := x6; clear hgd; go_at_call 17; refine (hT1.out H6 _ x6.holds (SLe.refl _)).mono ?_; rintro e w7 ⟨v7, HA, rfl, yA, uA, rfl, sA⟩; obtain ⟨aA, cA, rfl, _, _⟩ := sA.form; have x7 := x6.trans yA; have lA := yA.le x6.holds; have hw7 := x7.holds; replace hc0 := lift lA hc0; replace hc1 := lift lA hc1; replace hc2 := lift lA hc2; replace hc3 := lift lA hc3; replace hd0 := lift lA hd0; replace hd1 := lift lA hd1; replace hd2 := lift lA hd2; replace hd3 := lift lA hd3))
              go_ret
              exact ⟨rfl, xE.below⟩
    · go_enter Try.func9, Try.ntmps9
      go_upto_region 3 with (first
        | (have hgd := x2; clear hgd; go_at_call 16; refine (works_any H1 _ x2.holds).mono ?_; rintro e w3 ⟨rfl, hb3⟩; have x3 := x2.step (hb3.mono x2.below.size) (x2.holds.below hb3))
        | (have hgd := hx; clear hgd; go_at_call 15; refine (ready_any _ _ _ _ H1 _ hw1 (hh.mono hle)).mono ?_; rintro e w2 ⟨rfl, hb2⟩; rw [hr]; have x2 := hx.step (hb2.mono hx.below.size) (hw1.below hb2))
        | (refine wpList_boxF rfl _ rfl (Ext.refl hw) ?_; intro B w1 H1 hle hx hB hBw; obtain ⟨hc0, hc1, hc2, hc3⟩ := cellsHou hB; clear hB hw; have hw1 := hx.holds))
      all_goals first
        | (exfalso; omega)
        | (go_ret; exact ⟨rfl, x3.below⟩)

end Go.Proofs.Yteijmboophnmgaa
