/- Proved here: MachinesCanSaid: the law MachinesCan returns true for every hall, set and machine, and they read afterwards as they did. Conditions: none beyond those of the given statement. -/
import Derived.Test.YtngdppajailpcaaGreatG24
import Derived.Test.YtngdppajailpcaaGreatG25
import Derived.Test.YtngdppajailpcaaGreatG26
import Derived.Test.YtngdppajailpcaaGreatG27
import Derived.Test.YtngdppajailpcaaGreatRows
import Derived.ProofKit

set_option linter.all false

namespace Go.Proofs.YtngdppajailpcaaGreat
open Go.RowKit

attribute [local go_sem] Holds.drew Holds.alloc Holds.drewN WB.holds Oper.semAt_some FW_fn FW_dep FW_round

attribute [local go_sem ↓] storeAt_hm

set_option maxRecDepth 100000 in
set_option maxHeartbeats 8000000 in
theorem machinesCan_any (vm vb vt vo ve vs : Value) (h : Hall) (set : List Plate) (stop : Int) (H : Snap) (w : World) (hw : Holds H w) (hh : Hal H vm vb vt vo ve h) (hs : Sl H vs set) (hn64 : I64 stop) :
    Calls Tryz.prog 5 #[halV vm vb vt vo ve h, .agg #[vs, .int .i64 stop]] w (PostV w (.bool true)) := by
  obtain ⟨sa, sc, rfl, _, _⟩ := hs.form
  cases g1 : far9 h
  rotate_left
  · go_enter Tryz.func5, Tryz.ntmps5
    go_wp2_with (first
      | (have hgd := x2; clear hgd; go_at_call 9; refine (works9_any H1 _ x2.holds).mono ?_; rintro e w3 ⟨rfl, hb3⟩; have x3 := x2.step (hb3.mono x2.below.size) (x2.holds.below hb3); have hw3 := x3.holds)
      | (have hgd := x1; clear hgd; go_at_call 8; refine (far9_any _ _ _ _ _ _ H1 _ x1.holds (hh.mono hle)).mono ?_; rintro e w2 ⟨rfl, hb2⟩; rw [g1]; have x2 := x1.step (hb2.mono x1.below.size) (x1.holds.below hb2); have hw2 := x2.holds)
      | (have hgd := hx0; clear hgd; refine wpList_boxF rfl _ rfl hx0 ?_; intro XB w1 H1 hle1 hx hX hXb; have hle := hle0.trans hle1; obtain ⟨hc0, hc1, hc2, hc3, hc4, hc5⟩ := cellsHal (h := h) (hle1 _ _ hB); have hX1 : H1 XB = some (.cells #[.slice sa set.length sc, .int .i64 stop] 44 (0, 0)) := hX; have hX0 : ∀ w, Holds H1 w → w.cell? ⟨XB, 0, none⟩ = some (.slice sa set.length sc) := fun w hw => cellH hX1 hw 0; have hX1' : ∀ w, Holds H1 w → w.cell? ⟨XB, 1, none⟩ = some (.int .i64 stop) := fun w hw => cellH hX1 hw 1; clear hx0 hB hX hX1 hle0 hle1; have hw1 := hx.holds; have x1 := hx)
      | (have hgd := hw; clear hgd; refine wpList_boxF rfl _ rfl (Ext.refl hw) ?_; intro B w0 H0 hle0 hx0 hB hBw; clear hw))
    go_ret
    exact ⟨rfl, x3.below⟩
  · cases g3 : decide (40 < (set.length : Int))
    rotate_left
    · go_enter Tryz.func5, Tryz.ntmps5
      go_wp2_with (first
        | (have hgd := x2; clear hgd; go_at_call 9; refine (works9_any H1 _ x2.holds).mono ?_; rintro e w3 ⟨rfl, hb3⟩; have x3 := x2.step (hb3.mono x2.below.size) (x2.holds.below hb3); have hw3 := x3.holds)
        | (have hgd := x1; clear hgd; go_at_call 8; refine (far9_any _ _ _ _ _ _ H1 _ x1.holds (hh.mono hle)).mono ?_; rintro e w2 ⟨rfl, hb2⟩; rw [g1]; have x2 := x1.step (hb2.mono x1.below.size) (x1.holds.below hb2); have hw2 := x2.holds)
        | (have hgd := hx0; clear hgd; refine wpList_boxF rfl _ rfl hx0 ?_; intro XB w1 H1 hle1 hx hX hXb; have hle := hle0.trans hle1; obtain ⟨hc0, hc1, hc2, hc3, hc4, hc5⟩ := cellsHal (h := h) (hle1 _ _ hB); have hX1 : H1 XB = some (.cells #[.slice sa set.length sc, .int .i64 stop] 44 (0, 0)) := hX; have hX0 : ∀ w, Holds H1 w → w.cell? ⟨XB, 0, none⟩ = some (.slice sa set.length sc) := fun w hw => cellH hX1 hw 0; have hX1' : ∀ w, Holds H1 w → w.cell? ⟨XB, 1, none⟩ = some (.int .i64 stop) := fun w hw => cellH hX1 hw 1; clear hx0 hB hX hX1 hle0 hle1; have hw1 := hx.holds; have x1 := hx)
        | (have hgd := hw; clear hgd; refine wpList_boxF rfl _ rfl (Ext.refl hw) ?_; intro B w0 H0 hle0 hx0 hB hBw; clear hw))
      go_ret
      exact ⟨rfl, x3.below⟩
    · have g0 : huge9 h = false := by
        unfold far9 at g1
        rw [Bool.or_eq_false_iff] at g1; exact g1.1
      obtain ⟨hsz, hs2⟩ := far_small g0
      have c1 := fun (a b c d e s : Value) (S : Snap) (W : World) (hW : Holds S W) hh hs => canM_any a b c d e s h set stop hn64 S W hW hh hs
      have c2 := fun (S : Snap) (W : World) (hW : Holds S W) hh hs => can9_any vm vb vt vo ve (.slice sa set.length sc) h set stop hn64 S W hW hh hs
      have c3 := fun (a b c d e s : Value) (S : Snap) (W : World) (hW : Holds S W) hh hs => lacksM_any a b c d e s h set S W hW hh hs
      have c4 := fun (S : Snap) (W : World) (hW : Holds S W) hh hs => lacks9_any vm vb vt vo ve (.slice sa set.length sc) h set S W hW hh hs
      have c5 := fun (a b c d e s : Value) (S : Snap) (W : World) (hW : Holds S W) hh hs => extra_any a b c d e s h set S W hW hh hs
      have c6 := fun (S : Snap) (W : World) (hW : Holds S W) hh hs => extra9_any vm vb vt vo ve (.slice sa set.length sc) h set S W hW hh hs
      have c7 := fun (a b c d e s : Value) (S : Snap) (W : World) (hW : Holds S W) hh hs => idleM_any a b c d e s h set S W hW hh hs
      have c8 := fun (S : Snap) (W : World) (hW : Holds S W) hh hs => idle9_any vm vb vt vo ve (.slice sa set.length sc) h set S W hW hh hs
      generalize canA h set stop = V1 at *
      generalize errL (askM (validHall h) (setOk set)) (leastA h (countsOf set)) = E3 at *
      generalize askM (validHall h) (setOk set && isCaseA h stop) = E1 at *
      generalize askM (validHall h) (setOk set) = E2 at *
      generalize lacksA h set = V2 at *
      generalize extraA h set = V3 at *
      generalize idleA h set = V4 at *
      generalize idleE h set = E4 at *
      replace c1 := Lib.hid c1
      replace c2 := Lib.hid c2
      replace c3 := Lib.hid c3
      replace c4 := Lib.hid c4
      replace c5 := Lib.hid c5
      replace c6 := Lib.hid c6
      replace c7 := Lib.hid c7
      replace c8 := Lib.hid c8
      clear g0 hn64
      go_enter Tryz.func5, Tryz.ntmps5
      go_upto_region 3 with (first
        | (have hgd := x1; clear hgd; go_at_call 8; refine (far9_any _ _ _ _ _ _ H1 _ x1.holds (hh.mono hle)).mono ?_; rintro e w2 ⟨rfl, hb2⟩; rw [g1]; have x2 := x1.step (hb2.mono x1.below.size) (x1.holds.below hb2); have hw2 := x2.holds)
        | (have hgd := hx0; clear hgd; refine wpList_boxF rfl _ rfl hx0 ?_; intro XB w1 H1 hle1 hx hX hXb; have hle := hle0.trans hle1; obtain ⟨hc0, hc1, hc2, hc3, hc4, hc5⟩ := cellsHal (h := h) (hle1 _ _ hB); have hX1 : H1 XB = some (.cells #[.slice sa set.length sc, .int .i64 stop] 44 (0, 0)) := hX; have hX0 : ∀ w, Holds H1 w → w.cell? ⟨XB, 0, none⟩ = some (.slice sa set.length sc) := fun w hw => cellH hX1 hw 0; have hX1' : ∀ w, Holds H1 w → w.cell? ⟨XB, 1, none⟩ = some (.int .i64 stop) := fun w hw => cellH hX1 hw 1; clear hx0 hB hX hX1 hle0 hle1; have hw1 := hx.holds; have x1 := hx)
        | (have hgd := hw; clear hgd; refine wpList_boxF rfl _ rfl (Ext.refl hw) ?_; intro B w0 H0 hle0 hx0 hB hBw; clear hw))
      have hh1 := hh.mono hle
      have hs1 := hs.mono hle
      clear x1 hx hw1
      have hx := x2
      have hw1 := x2.holds
      clear x2 hw2
      go_cut [5, 6] (fun o s wc => ∃ C um ub ut uo ue H6, o = .pointer (some ⟨C, 0, none⟩) ∧ SLe H1 H6 ∧ Ext w H wc H6 ∧ H6 C = some (.cells (halV um ub ut uo ue h).cells 29 (0, 0)) ∧ Hal H6 um ub ut uo ue h ∧ Sl H6 s set)
      case first =>
          go_region_held3 (fun w' => Holds H1 w' ∧ Ext w H w' H1) (first | assumption | exact ⟨by assumption, by assumption⟩ | (go_split_ands; exact ⟨Holds.drew (by assumption), Ext.drew (by assumption)⟩) | (go_split_ands; exact ⟨Holds.alloc (by assumption) _, Ext.alloc (by assumption) _⟩) | (go_split_ands; exact ⟨Holds.drew (Holds.alloc (by assumption) _), Ext.drew (Ext.alloc (by assumption) _)⟩)) (first | ((go_split_ands; refine upon_storeHm (H := H5) (cs' := #[.slice aM h.hs.ms.length cM, .slice aB h.hs.bs.length cB, .slice aT h.hs.ts.length cT, .int .i64 h.hs.ch, .slice aO h.bo.length cO, .slice aE h.ed.length cE]) (cs := #[.slice none 0 0, .slice none 0 0, .slice none 0 0, .int .i64 0, .slice none 0 0, .slice none 0 0]) (by first | exact kk5 _ _ (kk3 _ _ (HmV.new (by assumption) (Ext.below (by assumption)).size)) | exact kk5 _ _ (kk3 _ _ (HmV.new hw1.drew hx.below.size)) | exact kk5 _ _ (HmV.new (by assumption) (Ext.below (by assumption)).size) | exact HmV.new (by assumption) (Ext.below (by assumption)).size) (by rfl) (by simp [Value.oneCell']) (by first | exact xx5 | exact Ext.alloc xx5 _) (Nat.le_refl _) ?_; intro w9 r9 x9 hO9 hz9; have k1 := x9.holds.mono l15; have k2 : Ext w H w9 H1 := ⟨x9.below, k1, hx.same⟩)) | ((go_split_ands; go_at_call 21; refine (copySetP_any _ set H3 _ (by first | exact k3 | exact Holds.alloc k3 _ | assumption) (hs1.mono l3)).mono ?_; rintro e w5 ⟨v5, H5, rfl, x5, s5⟩; obtain ⟨a5, c5, rfl, _, _⟩ := s5.form; have k5 := x5.holds; have l5 := x5.le (by first | exact k3 | exact Holds.alloc k3 _ | assumption); have l15 := l3.trans l5; have xx5 : Ext w H w5 H5 := Ext.trans (by first | exact xx3 | exact Ext.alloc xx3 _) x5; have k1 : Holds H1 w5 := k5.mono l15; have k2 : Ext w H w5 H1 := Ext.step (by assumption) (x5.below.mono (by assumption : Ext w H _ H1).below.size) k1; have kk5 : ∀ B cs, HmV H3 w.heap.size _ B cs → HmV H5 w.heap.size w5 B cs := fun _ _ q => HmV.ext q x5)) | ((go_split_ands; go_at_call 10; refine ((copy9_any _ _ _ _ _ h H1 _ (by assumption) (hh1) hsz hs2).mono (fun _ _ k => k.hal)).mono ?_; rintro e w3 ⟨um, ub, ut, uo, ue, H3, rfl, x3, h3⟩; obtain ⟨aM, cM, rfl, _, _⟩ := h3.hs.m.form; obtain ⟨aB, cB, rfl, _, _⟩ := h3.hs.b.form; obtain ⟨aT, cT, rfl, _, _⟩ := h3.hs.t.form; obtain ⟨aO, cO, rfl, _, _⟩ := h3.bo.form; obtain ⟨aE, cE, rfl, _, _⟩ := h3.ed.form; have k3 := x3.holds; have l3 := x3.le (by assumption); have xx3 : Ext w H w3 H3 := Ext.trans (by assumption) x3; have k1 : Holds H1 w3 := k3.mono l3; have k2 : Ext w H w3 H1 := Ext.step (by assumption) (x3.below.mono (by assumption : Ext w H _ H1).below.size) k1; have kk3 : ∀ B cs, HmV H1 w.heap.size _ B cs → HmV H3 w.heap.size w3 B cs := fun _ _ q => HmV.ext q x3)))

          all_goals
            go_wp2_with fail
            go_meet
            exact ⟨_, _, _, _, _, _, _, rfl, l15.trans (Snap.le_put r9.free _), x9.freeze r9.base r9.at_, Snap.put_same _ _ _, (h3.mono l5).mono (Snap.le_put r9.free _), s5.mono (Snap.le_put r9.free _)⟩
      case rest =>
        obtain ⟨C, um, ub, ut, uo, ue, H6, rfl, l6, x6, hC6, ho6, ss6⟩ := hcut
        obtain ⟨hd0, hd1, hd2, hd3, hd4, hd5⟩ := cellsHal (h := h) hC6
        obtain ⟨sa2, sc2, rfl, _, _⟩ := ss6.form
        have hw6 := x6.holds
        have hh6 := hh1.mono l6
        have hs6 := hs1.mono l6
        replace hc0 := lift l6 hc0
        replace hc1 := lift l6 hc1
        replace hc2 := lift l6 hc2
        replace hc3 := lift l6 hc3
        replace hc4 := lift l6 hc4
        replace hc5 := lift l6 hc5
        replace hX0 := lift l6 hX0
        replace hX1' := lift l6 hX1'
        go_upto_region 10 with (first
          | (have hgd := x10; clear hgd; go_at_call 26; refine (exSame _ _ V2 H10 _ x10.holds s9 s10).mono ?_; rintro e w11 ⟨rfl, hb11⟩; have x11 := x10.step (hb11.mono x10.below.size) (x10.holds.below hb11); have hw11 := x11.holds)
          | (have hgd := x9; clear hgd; go_at_call 25; refine (c4.out H9 _ x9.holds (hh6.mono l9) (hs6.mono l9)).mono ?_; rintro e w10 ⟨v10, H10, rfl, y10, u10, rfl, s10⟩; obtain ⟨a10, c10, rfl, _, _⟩ := s10.form; have x10 := x9.trans y10; have l10 := y10.le x9.holds; have hw10 := x10.holds; replace hd0 := lift l10 hd0; replace hc0 := lift l10 hc0; replace hd1 := lift l10 hd1; replace hc1 := lift l10 hc1; replace hd2 := lift l10 hd2; replace hc2 := lift l10 hc2; replace hd3 := lift l10 hd3; replace hc3 := lift l10 hc3; replace hd4 := lift l10 hd4; replace hc4 := lift l10 hc4; replace hd5 := lift l10 hd5; replace hc5 := lift l10 hc5; replace hX0 := lift l10 hX0; replace hX1' := lift l10 hX1'; replace s9 := s9.mono l10; have hhA := (hh6.mono l9).mono l10; have hsA := (hs6.mono l9).mono l10; have hoA := (ho6.mono l9).mono l10; have ssA := (ss6.mono l9).mono l10)
          | (have hgd := x8; clear hgd; go_at_call 24; refine (c3.out _ _ _ _ _ _ H6 _ x8.holds ho6 ss6).mono ?_; rintro e w9 ⟨v9, H9, rfl, y9, u9, rfl, s9⟩; obtain ⟨a9, c9, rfl, _, _⟩ := s9.form; have x9 := x8.trans y9; have l9 := y9.le x8.holds; have hw9 := x9.holds; replace hd0 := lift l9 hd0; replace hc0 := lift l9 hc0; replace hd1 := lift l9 hd1; replace hc1 := lift l9 hc1; replace hd2 := lift l9 hd2; replace hc2 := lift l9 hc2; replace hd3 := lift l9 hd3; replace hc3 := lift l9 hc3; replace hd4 := lift l9 hd4; replace hc4 := lift l9 hc4; replace hd5 := lift l9 hd5; replace hc5 := lift l9 hc5; replace hX0 := lift l9 hX0; replace hX1' := lift l9 hX1'; skip)
          | (have hgd := x7; clear hgd; go_at_call 23; refine (c2.out H6 _ x7.holds hh6 hs6).mono ?_; rintro e w8 ⟨rfl, hb8⟩; have x8 := x7.step (hb8.mono x7.below.size) (x7.holds.below hb8); have hw8 := x8.holds)
          | (have hgd := x6; clear hgd; go_at_call 22; refine (c1.out _ _ _ _ _ _ H6 _ x6.holds ho6 ss6).mono ?_; rintro e w7 ⟨rfl, hb7⟩; have x7 := x6.step (hb7.mono x6.below.size) (x6.holds.below hb7); have hw7 := x7.holds))
        go_wp2_with (first
          | (have hgd := x18; clear hgd; go_at_call 9; refine (works9_any H15 _ x18.holds).mono ?_; rintro e w19 ⟨rfl, hb19⟩; have x19 := x18.step (hb19.mono x18.below.size) (x18.holds.below hb19); have hw19 := x19.holds)
          | (have hgd := x17; clear hgd; have hgd := x17; clear hgd; go_at_call 18; refine (sameSets_any _ _ set H15 _ x17.holds ((ssA.mono l14).mono l15) ((hsA.mono l14).mono l15)).mono ?_; rintro e w18 ⟨rfl, hb18⟩; have x18 := x17.step (hb18.mono x17.below.size) (x17.holds.below hb18); have hw18 := x18.holds)
          | (have hgd := x16; clear hgd; go_at_call 13; refine (same9_any _ _ _ _ _ _ _ _ _ _ h H15 _ x16.holds ((hoA.mono l14).mono l15) ((hhA.mono l14).mono l15)).mono ?_; rintro e w17 ⟨rfl, hb17⟩; have x17 := x16.step (hb17.mono x16.below.size) (x16.holds.below hb17); have hw17 := x17.holds)
          | (have hgd := x15; clear hgd; go_at_call 18; refine (sameSets_any _ _ V4 H15 _ x15.holds s14 s15).mono ?_; rintro e w16 ⟨rfl, hb16⟩; have x16 := x15.step (hb16.mono x15.below.size) (x15.holds.below hb16); have hw16 := x16.holds)
          | (have hgd := x14; clear hgd; go_at_call 30; refine (c8.out H14 _ x14.holds (hhA.mono l14) (hsA.mono l14)).mono ?_; rintro e w15 ⟨v15, H15, rfl, y15, u15, rfl, s15⟩; obtain ⟨a15, c15, rfl, _, _⟩ := s15.form; have x15 := x14.trans y15; have l15 := y15.le x14.holds; have hw15 := x15.holds; replace hd0 := lift l15 hd0; replace hc0 := lift l15 hc0; replace hd1 := lift l15 hd1; replace hc1 := lift l15 hc1; replace hd2 := lift l15 hd2; replace hc2 := lift l15 hc2; replace hd3 := lift l15 hd3; replace hc3 := lift l15 hc3; replace hd4 := lift l15 hd4; replace hc4 := lift l15 hc4; replace hd5 := lift l15 hd5; replace hc5 := lift l15 hc5; replace hX0 := lift l15 hX0; replace hX1' := lift l15 hX1'; replace s14 := s14.mono l15)
          | (have hgd := x13; clear hgd; go_at_call 29; refine (c7.out _ _ _ _ _ _ H10 _ x13.holds hoA ssA).mono ?_; rintro e w14 ⟨v14, H14, rfl, y14, u14, rfl, s14⟩; obtain ⟨a14, c14, rfl, _, _⟩ := s14.form; have x14 := x13.trans y14; have l14 := y14.le x13.holds; have hw14 := x14.holds; replace hd0 := lift l14 hd0; replace hc0 := lift l14 hc0; replace hd1 := lift l14 hd1; replace hc1 := lift l14 hc1; replace hd2 := lift l14 hd2; replace hc2 := lift l14 hc2; replace hd3 := lift l14 hd3; replace hc3 := lift l14 hc3; replace hd4 := lift l14 hd4; replace hc4 := lift l14 hc4; replace hd5 := lift l14 hd5; replace hc5 := lift l14 hc5; replace hX0 := lift l14 hX0; replace hX1' := lift l14 hX1'; skip)
          | (have hgd := x12; clear hgd; go_at_call 28; refine (c6.out H10 _ x12.holds hhA hsA).mono ?_; rintro e w13 ⟨rfl, hb13⟩; have x13 := x12.step (hb13.mono x12.below.size) (x12.holds.below hb13); have hw13 := x13.holds)
          | (have hgd := x11; clear hgd; go_at_call 27; refine (c5.out _ _ _ _ _ _ H10 _ x11.holds hoA ssA).mono ?_; rintro e w12 ⟨rfl, hb12⟩; have x12 := x11.step (hb12.mono x11.below.size) (x11.holds.below hb12); have hw12 := x12.holds))
        go_ret
        exact ⟨rfl, x19.below⟩

end Go.Proofs.YtngdppajailpcaaGreat

namespace Go.Proofs.YtngdppajailpcaaGreat
open Go.ChangeShapes Go.WideShapes Go.ChangeAt Go.RowKit

theorem machinesCan_own : ownKnob Tryz.prog.godebug = none := by kernel_rfl
theorem machinesCan_laid : laidOutB Tryz.prog = true := by kernel_rfl

set_option maxHeartbeats 1600000 in
set_option maxRecDepth 100000 in
theorem machinesCan_lifted (os : Os) (started : os.Started) (H : Type) (enc : TypeId × Value → H) :
    ReturnsInHanded {} Tryz.checked os 5 .any (Rows.machinesCanSpec.pre6 enc Tryz.prog Tryz.f5 Rows.machinesCanRow.domain false) (Rows.machinesCanSpec.post enc Tryz.prog Tryz.f5 false true false false) := by
  refine returnsInHanded_of_change_sized (C := Tryz.checked) machinesCan_own started (by kernel_rfl) Tryz.func5
    (ChangeSpec.witness6 (enc := enc) (C := Tryz.checked) false ⟨#[], #[.agg #[.slice none 0 0, .slice none 0 0, .slice none 0 0, .int .i64 0, .slice none 0 0, .slice none 0 0], .agg #[.slice none 0 0, .int .i64 0]], []⟩ 8 (by kernel_rfl) (by kernel_rfl) (by kernel_rfl) (by kernel_rfl)) ?_
  intro W base args ds gs before hval0 hW _ hsz _
  have hval : ∀ (j : Nat) t v, Tryz.f5.params[j]? = some t → args[j]? = some v → Value.okWide Tryz.prog W .any base t v := hval0
  have hW' := hW
  obtain ⟨p, q, hA0, hV, rfl, _, _⟩ := hW
  have hA : DataW.TrodAll enc Tryz.prog W 0 (fun _ => true) true Tryz.f5.params.toList args.toList ds p := hA0
  have hS : (DataW.weightsEach Tryz.prog (Tryz.f5.params.toList ++ []) (ds ++ gs)).all (· ≤ reachBytes) = true := hsz
  rw [Tryz.params5] at hA hval hS
  obtain ⟨v0, v1, d0, d1, p0, p1, rfl, rfl, rfl, h0, h1⟩ := trodAll_two hA
  obtain ⟨rfl, rfl⟩ := trodVars_none hV
  clear hA0 hval0 hsz
  simp only [List.append_nil] at hW' hS
  have hlt : ∀ x ∈ p0 ++ p1, x.block < W.heap.size := fun x hx => by simpa using hW'.lt x hx
  have harg0 : ∀ W', Below W.heap.size W W' → DataW.Trod enc Tryz.prog W' 0 (fun b => decide (b < W.heap.size)) true 29 v0 d0 p0 := fun W' hb =>
    Below.trod machinesCan_laid (by kernel_rfl) (of_decide_eq_true (by kernel_rfl)) h0 hb (fun x hx => hlt x (List.mem_append.2 (.inl hx)))
  have hw0 : ∀ k ∈ d0.weights Tryz.prog 29, k ≤ reachBytes := fun k hk => by
    simpa using List.all_eq_true.1 hS k (DataW.weights_mem_each (j := 0) rfl rfl k hk)
  have harg1 : ∀ W', Below W.heap.size W W' → DataW.Trod enc Tryz.prog W' 0 (fun b => decide (b < W.heap.size)) true 44 v1 d1 p1 := fun W' hb =>
    Below.trod machinesCan_laid (by kernel_rfl) (of_decide_eq_true (by kernel_rfl)) h1 hb (fun x hx => hlt x (List.mem_append.2 (.inr hx)))
  have hw1 : ∀ k ∈ d1.weights Tryz.prog 44, k ≤ reachBytes := fun k hk => by
    simpa using List.all_eq_true.1 hS k (DataW.weights_mem_each (j := 1) rfl rfl k hk)
  obtain ⟨vm, vb, vt, vo, ve, hs, rfl, hh⟩ := hall_opened (hval 0 29 v0 rfl rfl) h0 hw0
  obtain ⟨cv1, cs1, cn1, rfl, hx1, hz1⟩ := case_opened (hval 1 44 v1 rfl rfl) h1 hw1
  refine (machinesCan_any vm vb vt vo ve cv1 hs cs1 cn1 (snapOf W) W (snapOf_holds W) hh hx1 hz1).mono fun e W' ⟨he, hb⟩ => ?_
  subst he
  refine ⟨_, rfl, _, _, _, [], _, [], hW', ?_, trodAll_mk2 (harg0 W' hb) (harg1 W' hb), rfl, hb.frame _, fun h => by cases h⟩
  exact trodAll_mk1 (shut_bool Tryz.underlying4 _)

theorem machinesCan_said : Rows.MachinesCanSaid :=
  OpenClaim.holds_of_wide 5 Tryz.f5 rfl rfl rfl rfl rfl rfl rfl ⟨rfl, rfl, rfl, rfl, rfl⟩ rfl rfl rfl rfl rfl (by kernel_rfl) Tryz.func5 (by kernel_rfl)
    (of_decide_eq_true (by kernel_rfl)) (by unfold Func.isWrapper; first | (rw [if_pos (by decide +kernel)]; kernel_rfl) | (rw [if_neg (by decide +kernel)]; exact ⟨rfl, rfl⟩))
    (fun os started H enc _ => machinesCan_lifted os started H enc)

end Go.Proofs.YtngdppajailpcaaGreat
