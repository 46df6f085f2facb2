/- Proved here: MachinesBoresSaid: the law MachinesBores returns true for every hall and any two numbers, and the hall reads afterwards as it did. Conditions: none beyond those of the given statement. -/
import Derived.Test.YtngdppajailpcaaG24
import Derived.Test.YtngdppajailpcaaRows
import Derived.ProofKit

set_option linter.all false

namespace Go.Proofs.Ytngdppajailpcaa
open Go.RowKit

attribute [local go_sem] Holds.drew Holds.alloc Holds.drewN WB.holds Oper.semAt_some FW_fn FW_dep FW_round

/-- The first bores are one machine's. -/
def oneTo (h : Hall) (m k : Nat) : Hall := { h with bo := (h.bo.take k).map (fun _ => bore h m) ++ h.bo.drop k }
theorem oneTo_zero (h : Hall) (m : Nat) : oneTo h m 0 = h := by unfold oneTo; simp
theorem oneTo_end (h : Hall) (m : Nat) : oneTo h m h.bo.length = oneBore h m := by unfold oneTo oneBore; simp
theorem oneTo_len (h : Hall) (m k : Nat) : (oneTo h m k).bo.length = h.bo.length := by unfold oneTo; simp; omega
theorem oneTo_at {h : Hall} {m k : Nat} {z : Int} (hz : At h.bo k z) : At (oneTo h m k).bo k z := by
  show _ = _
  unfold oneTo
  simp only
  rw [List.getElem?_append_right (by rw [List.length_map, List.length_take]; exact Nat.min_le_left _ _), List.length_map, List.length_take, Nat.min_eq_left (Nat.le_of_lt hz.lt), List.getElem?_drop, Nat.sub_self, Nat.add_zero]
  exact hz
theorem oneTo_succ {h : Hall} {m k : Nat} {z : Int} (hz : At h.bo k z) : ({ oneTo h m k with bo := (oneTo h m k).bo.set k (bore h m) } : Hall) = oneTo h m (k + 1) := by
  unfold oneTo
  simp only
  have e : h.bo.drop k = z :: h.bo.drop (k + 1) := by
    obtain ⟨hk, rfl⟩ := hz.get; exact List.drop_eq_getElem_cons hk
  have hlen : ((h.bo.take k).map (fun _ => bore h m)).length = k := by rw [List.length_map, List.length_take, Nat.min_eq_left (Nat.le_of_lt hz.lt)]
  rw [List.set_append_right _ _ (by omega), hlen, Nat.sub_self, e, List.set_cons_zero, hz.take, List.map_append]
  simp
theorem gain_num {h : Hall} (hv : ValidH h) {x y : Nat} (hx : x < h.hs.ms.length) (hy : y < h.hs.ms.length) : (gainE h (x : Int) (y : Int) = 3 ∧ numC h zero12 = 10000 ∧ numC (boredH h x y) zero12 = 10000) ∨
    (gainE h (x : Int) (y : Int) = 0 ∧ gainA h (x : Int) (y : Int) = numC h zero12 - numC (boredH h x y) zero12 ∧ (0 ≤ numC h zero12 ∧ numC h zero12 ≤ 36) ∧ 0 ≤ numC (boredH h x y) zero12 ∧ numC (boredH h x y) zero12 ≤ 36) := by
  have hok : gainOk h (x : Int) (y : Int) = true := by
    unfold gainOk
    rw [validHall_iff.2 hv, show isMachA h (x : Int) = true from within_iff.2 ⟨by omega, by omega⟩, show isMachA h (y : Int) = true from within_iff.2 ⟨by omega, by omega⟩]; rfl
  have hvb := bored_valid (one := x) hv hy
  have hj := bored_joins (one := x) hv hy
  unfold gainE gainA
  rw [hok, if_pos rfl, if_pos rfl, Int.toNat_natCast, Int.toNat_natCast]
  rcases fewest_num hv with ⟨g1, g2, g3, g4⟩ | ⟨g1, g2, g3, g4, g5⟩
  · rcases fewest_num hvb with ⟨k1, k2, k3, k4⟩ | ⟨k1, k2, k3, k4, k5⟩
    · exact .inl ⟨by rw [g2, if_neg (by decide)], g4, k4⟩
    · exact absurd g1 (hj.2 k1)
  · rcases fewest_num hvb with ⟨k1, k2, k3, k4⟩ | ⟨k1, k2, k3, k4, k5⟩
    · exact absurd k1 (hj.1 g1)
    · exact .inr ⟨by rw [g2, if_pos rfl, k2], by rw [g2, if_pos rfl, g3, k3], ⟨g4, g5⟩, k4, k5⟩

set_option maxRecDepth 100000 in
set_option maxHeartbeats 8000000 in
theorem machinesBores_any (vm vb vt vo ve : Value) (h : Hall) (one other : Int) (H : Snap) (w : World) (hw : Holds H w) (hh : Hal H vm vb vt vo ve h) (hi1 : I64 one) (hi2 : I64 other) :
    Calls Try.prog 4 #[halV vm vb vt vo ve h, .int .i64 one, .int .i64 other] w (PostV w (.bool true)) := by
  cases hr : ready9 h
  · go_enter Try.func4, Try.ntmps4
    go_wp2_with (first
      | (have hgd := x2; clear hgd; go_at_call 13; refine (works9_any H1 _ x2.holds).mono ?_; rintro e w3 ⟨rfl, hb3⟩; have x3 := x2.step (hb3.mono x2.below.size) (x2.holds.below hb3); have hw3 := x3.holds)
      | (have hgd := x1; clear hgd; go_at_call 11; refine (ready9_any _ _ _ _ _ _ H1 _ x1.holds (hh.mono hle)).mono ?_; rintro e w2 ⟨rfl, hb2⟩; rw [hr]; have x2 := x1.step (hb2.mono x1.below.size) (x1.holds.below hb2); have hw2 := x2.holds)
      | (have hgd := hw; clear hgd; refine wpList_boxF rfl _ rfl (Ext.refl hw) ?_; intro B w1 H1 hle hx hB hBw; obtain ⟨hc0, hc1, hc2, hc3, hc4, hc5⟩ := cellsHal hB; clear hB hw; have hw1 := hx.holds; have x1 := hx))
    go_ret
    exact ⟨rfl, x3.below⟩
  · have hv := ready9_valid hr
    cases m1 : within one 0 ((h.hs.ms.length : Int) - 1)
    · go_enter Try.func4, Try.ntmps4
      go_wp2_with (first
        | (have hgd := x3; clear hgd; go_at_call 13; refine (works9_any H1 _ x3.holds).mono ?_; rintro e w4 ⟨rfl, hb4⟩; have x4 := x3.step (hb4.mono x3.below.size) (x3.holds.below hb4); have hw4 := x4.holds)
        | (have hgd := x2; clear hgd; go_at_call 22; refine (isMachine4_any _ _ _ _ one H1 _ x2.holds (hh.mono hle).hs).mono ?_; rintro e w3 ⟨rfl, hb3⟩; rw [m1]; have x3 := x2.step (hb3.mono x2.below.size) (x2.holds.below hb3); have hw3 := x3.holds)
        | (have hgd := x1; clear hgd; go_at_call 11; refine (ready9_any _ _ _ _ _ _ H1 _ x1.holds (hh.mono hle)).mono ?_; rintro e w2 ⟨rfl, hb2⟩; rw [hr]; have x2 := x1.step (hb2.mono x1.below.size) (x1.holds.below hb2); have hw2 := x2.holds)
        | (have hgd := hw; clear hgd; refine wpList_boxF rfl _ rfl (Ext.refl hw) ?_; intro B w1 H1 hle hx hB hBw; obtain ⟨hc0, hc1, hc2, hc3, hc4, hc5⟩ := cellsHal hB; clear hB hw; have hw1 := hx.holds; have x1 := hx))
      go_ret
      exact ⟨rfl, x4.below⟩
    · cases m2 : within other 0 ((h.hs.ms.length : Int) - 1)
      · go_enter Try.func4, Try.ntmps4
        go_wp2_with (first
          | (have hgd := x4; clear hgd; go_at_call 13; refine (works9_any H1 _ x4.holds).mono ?_; rintro e w5 ⟨rfl, hb5⟩; have x5 := x4.step (hb5.mono x4.below.size) (x4.holds.below hb5); have hw5 := x5.holds)
          | (have hgd := x3; clear hgd; go_at_call 22; refine (isMachine4_any _ _ _ _ other H1 _ x3.holds (hh.mono hle).hs).mono ?_; rintro e w4 ⟨rfl, hb4⟩; rw [m2]; have x4 := x3.step (hb4.mono x3.below.size) (x3.holds.below hb4); have hw4 := x4.holds)
          | (have hgd := x2; clear hgd; go_at_call 22; refine (isMachine4_any _ _ _ _ one H1 _ x2.holds (hh.mono hle).hs).mono ?_; rintro e w3 ⟨rfl, hb3⟩; rw [m1]; have x3 := x2.step (hb3.mono x2.below.size) (x2.holds.below hb3); have hw3 := x3.holds)
          | (have hgd := x1; clear hgd; go_at_call 11; refine (ready9_any _ _ _ _ _ _ H1 _ x1.holds (hh.mono hle)).mono ?_; rintro e w2 ⟨rfl, hb2⟩; rw [hr]; have x2 := x1.step (hb2.mono x1.below.size) (x1.holds.below hb2); have hw2 := x2.holds)
          | (have hgd := hw; clear hgd; refine wpList_boxF rfl _ rfl (Ext.refl hw) ?_; intro B w1 H1 hle hx hB hBw; obtain ⟨hc0, hc1, hc2, hc3, hc4, hc5⟩ := cellsHal hB; clear hB hw; have hw1 := hx.holds; have x1 := hx))
        go_ret
        exact ⟨rfl, x5.below⟩
      · obtain ⟨hsz, hs2⟩ := ed_small hv
        have a1 := within_iff.1 m1
        have a2 := within_iff.1 m2
        obtain ⟨x, rfl⟩ : ∃ x : Nat, one = (x : Int) := ⟨one.toNat, by omega⟩
        obtain ⟨y, rfl⟩ : ∃ y : Nat, other = (y : Int) := ⟨other.toNat, by omega⟩
        have hxm : x < h.hs.ms.length := by omega
        have hym : y < h.hs.ms.length := by omega
        have hcase := gain_num hv hxm hym
        have hvo := oneBore_valid hv hxm
        have hvb := bored_valid (one := x) hv hym
        have hle9 := oneBore_fewer hv hxm
        have hsame := fun e => bored_same (h := h) (other := y) hv hxm e
        have hbl3 : h.bo.length ≤ 3 := by rw [hv.bo]; exact hv.hs.m3
        have hxb : x < h.bo.length := by rw [hv.bo]; exact hxm
        have hyb : y < h.bo.length := by rw [hv.bo]; exact hym
        obtain ⟨zx, hzx⟩ := At.mk hxb
        obtain ⟨zy, hzy⟩ := At.mk hyb
        have ezx : bore h x = zx := hzx.bore
        have ezy : bore h y = zy := hzy.bore
        have hK0 : (zx != zy) = false → numC (boredH h x y) zero12 = numC h zero12 := fun e => by
          rw [hsame (by rw [ezx, ezy]; simpa using e)]
        obtain ⟨N, hN⟩ : ∃ N, numC h zero12 = N := ⟨_, rfl⟩
        obtain ⟨MB, hMB⟩ : ∃ N, numC (oneBore h x) zero12 = N := ⟨_, rfl⟩
        obtain ⟨KB, hKB⟩ : ∃ N, numC (boredH h x y) zero12 = N := ⟨_, rfl⟩
        obtain ⟨G, hG⟩ : ∃ N, gainA h (x : Int) (y : Int) = N := ⟨_, rfl⟩
        obtain ⟨E, hE⟩ : ∃ N, gainE h (x : Int) (y : Int) = N := ⟨_, rfl⟩
        rw [hN, hKB, hG, hE] at hcase
        rw [hN, hMB] at hle9
        rw [hN, hKB] at hK0
        replace hcase := Lib.hid hcase
        replace hK0 := Lib.hid hK0
        clear hsame a1 a2 ezy
        have e1 : (0 : Int) ≤ (x : Int) := by omega
        have e2 : (x : Int) < (h.bo.length : Int) := by omega
        have e3 : (0 : Int) ≤ (y : Int) := by omega
        have e4 : (y : Int) < (h.bo.length : Int) := by omega
        obtain ⟨ao, co, rfl, ho1, ho2⟩ := hh.bo.form
        go_enter Try.func4, Try.ntmps4
        go_upto_region 4 with (first
          | (have hgd := x4; clear hgd; go_at_call 23; refine (copy9_any _ _ _ _ _ h H1 _ x4.holds (hh.mono hle) hsz hs2).mono ?_; rintro e w5 ⟨um, ub, ut, uo, ue, H5, rfl, x5, K⟩; obtain ⟨aM, cM, rfl, _, _⟩ := K.m.form; obtain ⟨aB, cB, rfl, _, _⟩ := K.b.form; obtain ⟨aT, cT, rfl, _, _⟩ := K.t.form; obtain ⟨aO, cO, rfl, _, _⟩ := K.o.form; obtain ⟨aE, cE, rfl, _, _⟩ := K.e.form)
          | (have hgd := x3; clear hgd; go_at_call 22; refine (isMachine4_any _ _ _ _ (y : Int) H1 _ x3.holds (hh.mono hle).hs).mono ?_; rintro e w4 ⟨rfl, hb4⟩; rw [m2]; have x4 := x3.step (hb4.mono x3.below.size) (x3.holds.below hb4); have hw4 := x4.holds)
          | (have hgd := x2; clear hgd; go_at_call 22; refine (isMachine4_any _ _ _ _ (x : Int) H1 _ x2.holds (hh.mono hle).hs).mono ?_; rintro e w3 ⟨rfl, hb3⟩; rw [m1]; have x3 := x2.step (hb3.mono x2.below.size) (x2.holds.below hb3); have hw3 := x3.holds)
          | (have hgd := x1; clear hgd; go_at_call 11; refine (ready9_any _ _ _ _ _ _ H1 _ x1.holds (hh.mono hle)).mono ?_; rintro e w2 ⟨rfl, hb2⟩; rw [hr]; have x2 := x1.step (hb2.mono x1.below.size) (x1.holds.below hb2); have hw2 := x2.holds)
          | (have hgd := hw; clear hgd; refine wpList_boxF rfl _ rfl (Ext.refl hw) ?_; intro B w1 H1 hle hx hB hBw; obtain ⟨hc0, hc1, hc2, hc3, hc4, hc5⟩ := cellsHal hB; clear hB hw; have hw1 := hx.holds; have x1 := hx))
        have l5 := x5.le x4.holds
        have hb6 := KBox.make K x5.holds x5.below.size
        have x6 := (x4.trans x5).alloc (.cells #[.slice aM h.hs.ms.length cM, .slice aB h.hs.bs.length cB, .slice aT h.hs.ts.length cT, .int .i64 h.hs.ch, .slice aO h.bo.length cO, .slice aE h.ed.length cE] 29)
        have hwb : w.heap.size ≤ w4.heap.size := x4.below.size
        have hh5 := (hh.mono hle).mono l5
        generalize w5.alloc (.cells #[.slice aM h.hs.ms.length cM, .slice aB h.hs.bs.length cB, .slice aT h.hs.ts.length cT, .int .i64 h.hs.ch, .slice aO h.bo.length cO, .slice aE h.ed.length cE] 29) = w6 at *
        generalize w5.heap.size = C at *
        clear K
        replace hc0 := lift l5 hc0
        replace hc1 := lift l5 hc1
        replace hc2 := lift l5 hc2
        replace hc3 := lift l5 hc3
        replace hc4 := lift l5 hc4
        replace hc5 := lift l5 hc5
        obtain ⟨bx', ox', cx', hez, hio, hro⟩ := hh5.bo.int hzx
        cases hez
        obtain ⟨by', oy', cy', hez, hiy, hry⟩ := hh5.bo.int hzy
        cases hez
        clear x5
        go_wp2
        go_loopw [8] (fun i wr => ∃ k : Nat, k ≤ h.bo.length ∧ i = .int .i64 k ∧ KBox H5 w4.heap.size wr C (.slice aM h.hs.ms.length cM) (.slice aB h.hs.bs.length cB) (.slice aT h.hs.ts.length cT) (.slice aO h.bo.length cO) (.slice aE h.ed.length cE) (oneTo h x k) ∧ Ext w H wr H5) (fun i _ => h.bo.length - (intOf i).toNat)
        case atStart => exact ⟨0, Nat.zero_le _, rfl, by rw [oneTo_zero]; exact hb6, x6⟩
        case round =>
          clear hb6 x6
          obtain ⟨k, hk, rfl, hb, xr⟩ := hrel
          have hwr := xr.holds
          by_cases hlk : k < h.bo.length
          · obtain ⟨z, hz⟩ := At.mk hlk
            have hzt := oneTo_at (m := x) hz
            obtain ⟨g, cg, heg, _, hcl, hfz, hgb, hgH, hgl, hgC, hset⟩ := hb.setO hzt
            rw [oneTo_len] at heg
            cases heg
            obtain ⟨c0, c1, c2, c3, c4, c5⟩ := hb.cells
            have hC := hb.lt
            have d4 : ∀ X : WB H5 wr, X.w.cell? ⟨C, 4, none⟩ = some (.slice (some ⟨g, 0, none⟩) h.bo.length cO) := fun X => (X.old C 4 hC).trans c4
            have e5 : (0 : Int) ≤ (k : Int) := by omega
            have e6 : (k : Int) < (h.bo.length : Int) := by omega
            go_upto_region 7 with fail
            refine (wpIn_wide (n := 3)).1 ?_
            show Code.wpIn (FW none) 3 _ _ _ _ _
            have hnq : Nonempty (WB H5 wr) := ⟨⟨wr, hwr, Below.refl _ _⟩⟩
            refine wpIn_region_qtail (C := fun w' => ∃ x : WB H5 wr, w' = x.w) 9 (by kernel_rfl) (by kernel_rfl) (by kernel_rfl) ⟨⟨World.drew wr, Holds.drew hwr, (Below.refl _ _).drew⟩, rfl⟩ ?_
            simp only [List.take_succ_cons, List.take_zero, List.drop_succ_cons, List.drop_zero]
            repeat go_big_quiet_step ((first | (fail)))
            refine wpQuiet_nil ?_
            clear hnq
            rintro w2 ⟨⟨_, hw2, hb2⟩, rfl⟩
            have xb : Ext wr H5 w2 H5 := ⟨hb2, hw2, fun _ _ => rfl⟩
            obtain ⟨_, _, he', _, hcl2, hfz2, _, _, _, _, hset2⟩ := (hb.ext hwr xb).setO hzt
            rw [oneTo_len] at he'
            cases he'
            have hb7 := hset2 zx hio
            have hsu := oneTo_succ (m := x) hz
            rw [ezx] at hsu
            rw [hsu] at hb7
            have x7 := (xr.trans xb).setCell (a := ⟨g, k, none⟩) (Nat.le_trans hwb hgb) hgH (.int .i64 zx)
            replace hb7 := Lib.hid hb7
            replace x7 := Lib.hid x7
            clear hset hset2 hsu d4
            gi_wp2
            try clear h
            go_wp2
            go_roundw
            case rel => exact ⟨k + 1, by omega, by go_num, hb7.out, x7.out⟩
            case measure => simp [intOf]; omega
          · have hke : k = h.bo.length := by omega
            rw [hke, oneTo_end] at hb
            obtain ⟨H7, x7, l7, hho, hC7⟩ := (hb.weaken hwb).closeC xr
            obtain ⟨hd0, hd1, hd2, hd3, hd4, hd5⟩ := cellsHal (h := oneBore h x) hC7
            have hh7 := hh5.mono l7
            have hw7 := x7.holds
            obtain ⟨c0, c1, c2, c3, c4, c5⟩ := hb.cells
            replace hro := lift l7 hro
            replace hry := lift l7 hry
            replace hc0 := lift l7 hc0
            replace hc1 := lift l7 hc1
            replace hc2 := lift l7 hc2
            replace hc3 := lift l7 hc3
            replace hc4 := lift l7 hc4
            replace hc5 := lift l7 hc5
            go_upto_region 12 with (first
              | (have hgd := x11; clear hgd; go_at_call 14; refine (fewestL9_any _ _ _ _ _ _ hvb H11 _ x11.holds k11).mono ?_; rintro e w12 ⟨rfl, hb12⟩; rw [hKB]; have x12 := x11.step (hb12.mono x11.below.size) (x11.holds.below hb12); have hw12 := x12.holds)
              | (have hgd := x10; clear hgd; go_at_call 25; refine (bored9_any _ _ _ _ _ h x y hxb hyb H7 _ x10.holds hh7 hsz hs2).mono ?_; rintro e w11 ⟨um11, ub11, ut11, uo11, ue11, H11, rfl, y11, k11⟩; have x11 := x10.trans y11; have l11 := y11.le x10.holds; have hw11 := x11.holds; replace hc0 := lift l11 hc0; replace hc1 := lift l11 hc1; replace hc2 := lift l11 hc2; replace hc3 := lift l11 hc3; replace hc4 := lift l11 hc4; replace hc5 := lift l11 hc5; replace hro := lift l11 hro; replace hry := lift l11 hry)
              | (have hgd := x9; clear hgd; go_at_call 24; refine (gainM_any _ _ _ _ _ h (x : Int) (y : Int) hi1 hi2 H7 _ x9.holds hh7).mono ?_; rintro e w10 ⟨rfl, hb10⟩; rw [hG, hE]; have x10 := x9.step (hb10.mono x9.below.size) (x9.holds.below hb10); have hw10 := x10.holds)
              | (have hgd := x8; clear hgd; go_at_call 14; refine (fewestL9_any _ _ _ _ _ _ hvo H7 _ x8.holds hho).mono ?_; rintro e w9 ⟨rfl, hb9⟩; rw [hMB]; have x9 := x8.step (hb9.mono x8.below.size) (x8.holds.below hb9); have hw9 := x9.holds)
              | (have hgd := x7; clear hgd; go_at_call 14; refine (fewestL9_any _ _ _ _ _ _ hv H7 _ x7.holds hh7).mono ?_; rintro e w8 ⟨rfl, hb8⟩; rw [hN]; have x8 := x7.step (hb8.mono x7.below.size) (x7.holds.below hb8); have hw8 := x8.holds))
            rcases hcase.out with ⟨rfl, rfl, rfl⟩ | ⟨rfl, rfl, ⟨b1, b2⟩, b3, b4⟩
            · go_upto_region 14 with (have hgd := x12; clear hgd; go_at_call 26; refine (isKnown_any _ _).mono ?_; rintro e w13 ⟨rfl, hb13⟩; have x13 := x12.step (hb13.mono x12.below.size) (x12.holds.below hb13); have hw13 := x13.holds)
              refine wp_region_quietB H11 (by kernel_rfl) (by kernel_rfl) hw13 (fun hne => ?_)
              repeat go_big_quiet_step ((first | (go_at_call 13; exact Calls.quietB (works9_any H11 _ (WB.holds _)))))
              refine wpQuiet_nil ?_
              rintro ⟨w2, hw2, hb2⟩
              clear hne
              go_wp2
              go_ret
              exact ⟨rfl, x13.below.trans (hb2.mono x13.below.size)⟩
            · have hlt : N < 10000 := by omega
              have hlt2 : KB < 10000 := by omega
              have hn1 : (N == 10000) = false := by rw [beq_eq_false_iff_ne]; omega
              have hn2 : (KB == 10000) = false := by rw [beq_eq_false_iff_ne]; omega
              go_upto_region 14 with (have hgd := x12; clear hgd; go_at_call 26; refine (isKnown_any _ _).mono ?_; rintro e w13 ⟨rfl, hb13⟩; have x13 := x12.step (hb13.mono x12.below.size) (x12.holds.below hb13); have hw13 := x13.holds)
              cases hz : (zx != zy)
              · have hK1 := hK0.out hz
                have hz0 : N - KB = 0 := by omega
                have hz1 : ((N - KB) == 0) = true := by rw [beq_iff_eq]; exact hz0
                clear hK1 hz0
                refine wp_region_quietB H11 (by kernel_rfl) (by kernel_rfl) hw13 (fun hne => ?_)
                repeat go_big_quiet_step ((first | (go_at_call 13; exact Calls.quietB (works9_any H11 _ (WB.holds _)))))
                refine wpQuiet_nil ?_
                rintro ⟨w2, hw2, hb2⟩
                clear hne
                go_wp2
                go_ret
                exact ⟨rfl, x13.below.trans (hb2.mono x13.below.size)⟩
              · refine wp_region_quietB H11 (by kernel_rfl) (by kernel_rfl) hw13 (fun hne => ?_)
                repeat go_big_quiet_step ((first | (go_at_call 13; exact Calls.quietB (works9_any H11 _ (WB.holds _)))))
                refine wpQuiet_nil ?_
                rintro ⟨w2, hw2, hb2⟩
                clear hne
                go_wp2
                go_ret
                exact ⟨rfl, x13.below.trans (hb2.mono x13.below.size)⟩

end Go.Proofs.Ytngdppajailpcaa

namespace Go.Proofs.Ytngdppajailpcaa
open Go.ChangeShapes Go.WideShapes Go.ChangeAt Go.RowKit

theorem machinesBores_own : ownKnob Try.prog.godebug = none := by kernel_rfl
theorem machinesBores_laid : laidOutB Try.prog = true := by kernel_rfl

set_option maxHeartbeats 1600000 in
set_option maxRecDepth 100000 in
theorem machinesBores_lifted (os : Os) (started : os.Started) (H : Type) (enc : TypeId × Value → H) :
    ReturnsInHanded {} Try.checked os 4 .any (Rows.machinesBoresSpec.pre6 enc Try.prog Try.f4 Rows.machinesBoresRow.domain false) (Rows.machinesBoresSpec.post enc Try.prog Try.f4 false true false false) := by
  refine returnsInHanded_of_change_sized (C := Try.checked) machinesBores_own started (by kernel_rfl) Try.func4
    (ChangeSpec.witness6 (enc := enc) (C := Try.checked) false ⟨#[], #[.agg #[.slice none 0 0, .slice none 0 0, .slice none 0 0, .int .i64 0, .slice none 0 0, .slice none 0 0], .int .i64 0, .int .i64 0], []⟩ 8 (by kernel_rfl) (by kernel_rfl) (by kernel_rfl) (by kernel_rfl)) ?_
  intro W base args ds gs before hval0 hW _ hsz _
  have hval : ∀ (j : Nat) t v, Try.f4.params[j]? = some t → args[j]? = some v → Value.okWide Try.prog W .any base t v := hval0
  have hW' := hW
  obtain ⟨p, q, hA0, hV, rfl, _, _⟩ := hW
  have hA : DataW.TrodAll enc Try.prog W 0 (fun _ => true) true Try.f4.params.toList args.toList ds p := hA0
  have hS : (DataW.weightsEach Try.prog (Try.f4.params.toList ++ []) (ds ++ gs)).all (· ≤ reachBytes) = true := hsz
  rw [Try.params4] at hA hval hS
  obtain ⟨v0, vs0, d0, ds0, p0, q0, hargs, rfl, rfl, h0, r0⟩ := trodAll_cons hA
  obtain ⟨v1, vs1, d1, ds1, p1, q1, rfl, rfl, rfl, h1, r1⟩ := trodAll_cons r0
  obtain ⟨v2, vs2, d2, ds2, p2, q2, rfl, rfl, rfl, h2, r2⟩ := trodAll_cons r1
  obtain ⟨rfl, rfl, rfl⟩ := trodAll_nil r2
  obtain rfl : args = #[v0, v1, v2] := by cases args; simp_all
  obtain ⟨rfl, rfl⟩ := trodVars_none hV
  clear hA0 hval0 hsz
  simp only [List.append_nil] at hW' hS
  have hlt : ∀ x ∈ p0 ++ (p1 ++ p2), x.block < W.heap.size := fun x hx => by simpa using hW'.lt x hx
  have harg0 : ∀ W', Below W.heap.size W W' → DataW.Trod enc Try.prog W' 0 (fun b => decide (b < W.heap.size)) true 29 v0 d0 p0 := fun W' hb =>
    Below.trod machinesBores_laid (by kernel_rfl) (of_decide_eq_true (by kernel_rfl)) h0 hb (fun x hx => hlt x (List.mem_append.2 (.inl hx)))
  have hw0 : ∀ k ∈ d0.weights Try.prog 29, k ≤ reachBytes := fun k hk => by
    simpa using List.all_eq_true.1 hS k (DataW.weights_mem_each (j := 0) rfl rfl k hk)
  obtain ⟨vm, vb, vt, vo, ve, hs, rfl, hh⟩ := hall_opened (hval 0 29 v0 rfl rfl) h0 hw0
  obtain ⟨z1, rfl, rfl, rfl, wz1⟩ := open_int Try.underlying3 (hval 1 3 v1 rfl rfl) h1
  have hz1 := i64_of_wf wz1
  obtain ⟨z2, rfl, rfl, rfl, wz2⟩ := open_int Try.underlying3 (hval 2 3 v2 rfl rfl) h2
  have hz2 := i64_of_wf wz2
  refine (machinesBores_any vm vb vt vo ve hs z1 z2 (snapOf W) W (snapOf_holds W) hh hz1 hz2).mono fun e W' ⟨he, hb⟩ => ?_
  subst he
  refine ⟨_, rfl, _, _, _, [], _, [], hW', ?_, trodAll_cons_mk (harg0 W' hb) (trodAll_cons_mk (shut_int Try.underlying3 wz1) (trodAll_cons_mk (shut_int Try.underlying3 wz2) trodAll_mk0)), rfl, hb.frame _, fun h => by cases h⟩
  exact trodAll_mk1 (shut_bool Try.underlying4 _)

theorem machinesBores_said : Rows.MachinesBoresSaid :=
  OpenClaim.holds_of_wide 4 Try.f4 rfl rfl rfl rfl rfl rfl rfl ⟨rfl, rfl, rfl, rfl, rfl⟩ rfl rfl rfl rfl rfl (by kernel_rfl) Try.func4 (by kernel_rfl)
    (of_decide_eq_true (by kernel_rfl)) (by unfold Func.isWrapper; first | (rw [if_pos (by decide +kernel)]; kernel_rfl) | (rw [if_neg (by decide +kernel)]; exact ⟨rfl, rfl⟩))
    (fun os started H enc _ => machinesBores_lifted os started H enc)

end Go.Proofs.Ytngdppajailpcaa
