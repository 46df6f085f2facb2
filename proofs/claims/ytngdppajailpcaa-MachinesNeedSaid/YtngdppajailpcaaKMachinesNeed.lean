/- Proved here: MachinesNeedSaid: the law MachinesNeed returns true for every hall, plan, set and machine, and they read afterwards as they did. Conditions: none beyond those of the given statement. -/
import Derived.Test.YtngdppajailpcaaG24
import Derived.Test.YtngdppajailpcaaG25
import Derived.Test.YtngdppajailpcaaRows
import Derived.ProofKit

set_option linter.all false

namespace Go.Proofs.Ytngdppajailpcaa
open Go.RowKit

attribute [local go_sem] Holds.drew Holds.alloc Holds.drewN WB.holds

set_option maxRecDepth 100000 in
set_option maxHeartbeats 4000000 in
theorem same9_any (um ub ut uo ue vm vb vt vo ve : Value) (h : Hall) (H : Snap) (w : World) (hw : Holds H w) (ho : Hal H um ub ut uo ue h) (hh : Hal H vm vb vt vo ve h) :
    Calls Try.prog 44 #[halV um ub ut uo ue h, halV vm vb vt vo ve h] w (PostV w (.bool true)) := by
  go_enter Try.func44, Try.ntmps44
  go_wp2_with (first | (go_at_call 41; have hgd := x4; clear hgd; refine (exSameP _ _ _ H1 _ x4.holds (ho.ed.mono hle) (hh.ed.mono hle)).mono ?_; rintro e w5 ⟨rfl, hb5⟩; have x5 := x4.step (hb5.mono x4.below.size) (x4.holds.below hb5)) | (go_at_call 43; have hgd := x3; clear hgd; refine (exSame _ _ _ H1 _ x3.holds (ho.bo.mono hle) (hh.bo.mono hle)).mono ?_; rintro e w4 ⟨rfl, hb4⟩; have x4 := x3.step (hb4.mono x3.below.size) (x3.holds.below hb4); have hw4 := x4.holds) | (go_at_call 84; have hgd := hx; clear hgd; refine (same_any _ _ _ _ _ _ _ H1 _ hw1 (ho.hs.mono hle) (hh.hs.mono hle)).mono ?_; rintro e w3 ⟨rfl, hb3⟩; have x3 := hx.step (hb3.mono hx.below.size) (hw1.below hb3); have hw3 := x3.holds) | ((have hgd := hx0; clear hgd; refine wpList_boxF rfl _ rfl hx0 ?_; intro BB w1 H1 hle1 hx hBB hBBw; have hle := hle0.trans hle1; obtain ⟨hc0, hc1, hc2, hc3, hc4, hc5⟩ := cellsHal (h := h) (hle1 _ _ hB); obtain ⟨hd0, hd1, hd2, hd3, hd4, hd5⟩ := cellsHal (h := h) hBB; clear hx0 hB hBB hle0 hle1; have hw1 := hx.holds)) | ((have hgd := hw; clear hgd; refine wpList_boxF rfl _ rfl (Ext.refl hw) ?_; intro B w0 H0 hle0 hx0 hB hBw; clear hw)))
  go_ret
  exact ⟨rfl, x5.below⟩

attribute [local go_sem ↓] storeAt_hm

set_option maxRecDepth 100000 in
set_option maxHeartbeats 8000000 in
theorem machinesNeed_any (vm vb vt vo ve vp vs : Value) (h : Hall) (plan : List (List Int)) (set : List Plate) (stop : Int) (H : Snap) (w : World) (hw : Holds H w) (hh : Hal H vm vb vt vo ve h) (hp : Sl H vp plan) (hs : Sl H vs set) (hn64 : I64 stop) :
    Calls Try.prog 9 #[halV vm vb vt vo ve h, vp, .agg #[vs, .int .i64 stop]] w (PostV w (.bool true)) := by
  have hn64' := Lib.hid hn64
  cases g1 : huge9 h
  rotate_left
  · go_enter Try.func9, Try.ntmps9
    go_wp2_with (first
      | (have hgd := x2; clear hgd; go_at_call 13; refine (works9_any H1 _ x2.holds).mono ?_; rintro e w3 ⟨rfl, hb3⟩; have x3 := x2.step (hb3.mono x2.below.size) (x2.holds.below hb3); have hw3 := x3.holds)
      | (have hgd := x1; clear hgd; go_at_call 33; refine (huge9_any _ _ _ _ _ _ H1 _ x1.holds (hh.mono hle)).mono ?_; rintro e w2 ⟨rfl, hb2⟩; rw [g1]; have x2 := x1.step (hb2.mono x1.below.size) (x1.holds.below hb2); have hw2 := x2.holds)
      | (have hgd := hx0; clear hgd; refine wpList_boxF rfl _ rfl hx0 ?_; intro XB w1 H1 hle1 hx hX hXb; have hle := hle0.trans hle1; obtain ⟨hc0, hc1, hc2, hc3, hc4, hc5⟩ := cellsHal (h := h) (hle1 _ _ hB); have hX1 : H1 XB = some (.cells #[vs, .int .i64 stop] 62 (0, 0)) := hX; have hX0 : ∀ w, Holds H1 w → w.cell? ⟨XB, 0, none⟩ = some (vs) := fun w hw => cellH hX1 hw 0; have hX1' : ∀ w, Holds H1 w → w.cell? ⟨XB, 1, none⟩ = some (.int .i64 stop) := fun w hw => cellH hX1 hw 1; clear hx0 hB hX hX1 hle0 hle1; have hw1 := hx.holds; have x1 := hx)
      | (have hgd := hw; clear hgd; refine wpList_boxF rfl _ rfl (Ext.refl hw) ?_; intro B w0 H0 hle0 hx0 hB hBw; clear hw))
    go_ret
    exact ⟨rfl, x3.below⟩
  · cases g2 : long plan
    rotate_left
    · go_enter Try.func9, Try.ntmps9
      go_wp2_with (first
        | (have hgd := x3; clear hgd; go_at_call 13; refine (works9_any H1 _ x3.holds).mono ?_; rintro e w4 ⟨rfl, hb4⟩; have x4 := x3.step (hb4.mono x3.below.size) (x3.holds.below hb4); have hw4 := x4.holds)
        | (have hgd := x2; clear hgd; go_at_call 34; refine (long_any _ _ H1 _ x2.holds (hp.mono hle)).mono ?_; rintro e w3 ⟨rfl, hb3⟩; rw [g2]; have x3 := x2.step (hb3.mono x2.below.size) (x2.holds.below hb3); have hw3 := x3.holds)
        | (have hgd := x1; clear hgd; go_at_call 33; refine (huge9_any _ _ _ _ _ _ H1 _ x1.holds (hh.mono hle)).mono ?_; rintro e w2 ⟨rfl, hb2⟩; rw [g1]; have x2 := x1.step (hb2.mono x1.below.size) (x1.holds.below hb2); have hw2 := x2.holds)
        | (have hgd := hx0; clear hgd; refine wpList_boxF rfl _ rfl hx0 ?_; intro XB w1 H1 hle1 hx hX hXb; have hle := hle0.trans hle1; obtain ⟨hc0, hc1, hc2, hc3, hc4, hc5⟩ := cellsHal (h := h) (hle1 _ _ hB); have hX1 : H1 XB = some (.cells #[vs, .int .i64 stop] 62 (0, 0)) := hX; have hX0 : ∀ w, Holds H1 w → w.cell? ⟨XB, 0, none⟩ = some (vs) := fun w hw => cellH hX1 hw 0; have hX1' : ∀ w, Holds H1 w → w.cell? ⟨XB, 1, none⟩ = some (.int .i64 stop) := fun w hw => cellH hX1 hw 1; clear hx0 hB hX hX1 hle0 hle1; have hw1 := hx.holds; have x1 := hx)
        | (have hgd := hw; clear hgd; refine wpList_boxF rfl _ rfl (Ext.refl hw) ?_; intro B w0 H0 hle0 hx0 hB hBw; clear hw))
      go_ret
      exact ⟨rfl, x4.below⟩
    · cases g3 : decide (40 < (set.length : Int))
      rotate_left
      · obtain ⟨sa, sc, rfl, _, _⟩ := hs.form
        go_enter Try.func9, Try.ntmps9
        go_wp2_with (first
          | (have hgd := x3; clear hgd; go_at_call 13; refine (works9_any H1 _ x3.holds).mono ?_; rintro e w4 ⟨rfl, hb4⟩; have x4 := x3.step (hb4.mono x3.below.size) (x3.holds.below hb4); have hw4 := x4.holds)
          | (have hgd := x2; clear hgd; go_at_call 34; refine (long_any _ _ H1 _ x2.holds (hp.mono hle)).mono ?_; rintro e w3 ⟨rfl, hb3⟩; rw [g2]; have x3 := x2.step (hb3.mono x2.below.size) (x2.holds.below hb3); have hw3 := x3.holds)
          | (have hgd := x1; clear hgd; go_at_call 33; refine (huge9_any _ _ _ _ _ _ H1 _ x1.holds (hh.mono hle)).mono ?_; rintro e w2 ⟨rfl, hb2⟩; rw [g1]; have x2 := x1.step (hb2.mono x1.below.size) (x1.holds.below hb2); have hw2 := x2.holds)
          | (have hgd := hx0; clear hgd; refine wpList_boxF rfl _ rfl hx0 ?_; intro XB w1 H1 hle1 hx hX hXb; have hle := hle0.trans hle1; obtain ⟨hc0, hc1, hc2, hc3, hc4, hc5⟩ := cellsHal (h := h) (hle1 _ _ hB); have hX1 : H1 XB = some (.cells #[.slice sa set.length sc, .int .i64 stop] 62 (0, 0)) := hX; have hX0 : ∀ w, Holds H1 w → w.cell? ⟨XB, 0, none⟩ = some (.slice sa set.length sc) := fun w hw => cellH hX1 hw 0; have hX1' : ∀ w, Holds H1 w → w.cell? ⟨XB, 1, none⟩ = some (.int .i64 stop) := fun w hw => cellH hX1 hw 1; clear hx0 hB hX hX1 hle0 hle1; have hw1 := hx.holds; have x1 := hx)
          | (have hgd := hw; clear hgd; refine wpList_boxF rfl _ rfl (Ext.refl hw) ?_; intro B w0 H0 hle0 hx0 hB hBw; clear hw))
        go_ret
        exact ⟨rfl, x4.below⟩
      · obtain ⟨hsz, hs2⟩ := far_small g1
        have hls : plan.length ≤ 40 ∧ ∀ l ∈ plan, l.length ≤ 40 := by
          unfold long at g2
          simp only [Bool.or_eq_false_iff, decide_eq_false_iff_not, List.any_eq_false, decide_eq_true_eq] at g2
          exact ⟨by omega, fun l hm => by have := g2.2 l hm; omega⟩
        have hfl : plan.flatten.length ≤ 1000000 := by
          have key : ∀ (p : List (List Int)), (∀ l ∈ p, l.length ≤ 40) → p.flatten.length ≤ 40 * p.length := by
            intro p
            induction p with
            | nil => intro _; simp
            | cons l p ih => intro hm; have h1 := ih (fun x hx => hm x (by simp [hx])); have h2 := hm l (by simp); simp only [List.flatten_cons, List.length_append, List.length_cons]; omega
          have := key plan hls.2
          omega
        have hpl : plan.length ≤ 1000000 := by omega
        have hps : ∀ l ∈ plan, l.length ≤ 1000000 := fun l hm => by have := hls.2 l hm; omega
        obtain ⟨sa, sc, rfl, _, _⟩ := hs.form
        obtain ⟨ap, cp, rfl, _, _⟩ := hp.form
        clear hls
        go_enter Try.func9, Try.ntmps9
        go_upto_region 3 with (first
          | (have hgd := x2; clear hgd; go_at_call 34; refine (long_any _ _ H1 _ x2.holds (hp.mono hle)).mono ?_; rintro e w3 ⟨rfl, hb3⟩; rw [g2]; have x3 := x2.step (hb3.mono x2.below.size) (x2.holds.below hb3); have hw3 := x3.holds)
          | (have hgd := x1; clear hgd; go_at_call 33; refine (huge9_any _ _ _ _ _ _ H1 _ x1.holds (hh.mono hle)).mono ?_; rintro e w2 ⟨rfl, hb2⟩; rw [g1]; have x2 := x1.step (hb2.mono x1.below.size) (x1.holds.below hb2); have hw2 := x2.holds)
          | (have hgd := hx0; clear hgd; refine wpList_boxF rfl _ rfl hx0 ?_; intro XB w1 H1 hle1 hx hX hXb; have hle := hle0.trans hle1; obtain ⟨hc0, hc1, hc2, hc3, hc4, hc5⟩ := cellsHal (h := h) (hle1 _ _ hB); have hX1 : H1 XB = some (.cells #[.slice sa set.length sc, .int .i64 stop] 62 (0, 0)) := hX; have hX0 : ∀ w, Holds H1 w → w.cell? ⟨XB, 0, none⟩ = some (.slice sa set.length sc) := fun w hw => cellH hX1 hw 0; have hX1' : ∀ w, Holds H1 w → w.cell? ⟨XB, 1, none⟩ = some (.int .i64 stop) := fun w hw => cellH hX1 hw 1; clear hx0 hB hX hX1 hle0 hle1; have hw1 := hx.holds; have x1 := hx)
          | (have hgd := hw; clear hgd; refine wpList_boxF rfl _ rfl (Ext.refl hw) ?_; intro B w0 H0 hle0 hx0 hB hBw; clear hw))
        have hh1 := hh.mono hle
        have hp1 := hp.mono hle
        have hs1 := hs.mono hle
        clear x1 hx hw1 x2 hw2
        have hx := x3
        have hw1 := x3.holds
        clear x3 hw3
        go_cut [7, 8, 9] (fun o p s wc => ∃ C um ub ut uo ue H6, o = .pointer (some ⟨C, 0, none⟩) ∧ SLe H1 H6 ∧ Ext w H wc H6 ∧ H6 C = some (.cells (halV um ub ut uo ue h).cells 29 (0, 0)) ∧ Hal H6 um ub ut uo ue h ∧ Sl H6 p plan ∧ Sl H6 s set)
        case first =>
          go_region_held3 (fun w' => Holds H1 w' ∧ Ext w H w' H1) (first | assumption | exact ⟨by assumption, by assumption⟩ | (go_split_ands; exact ⟨Holds.drew (by assumption), Ext.drew (by assumption)⟩) | (go_split_ands; exact ⟨Holds.alloc (by assumption) _, Ext.alloc (by assumption) _⟩) | (go_split_ands; exact ⟨Holds.drew (Holds.alloc (by assumption) _), Ext.drew (Ext.alloc (by assumption) _)⟩)) (first | ((go_split_ands; refine upon_storeHm (H := H5) (cs' := #[.slice aM h.hs.ms.length cM, .slice aB h.hs.bs.length cB, .slice aT h.hs.ts.length cT, .int .i64 h.hs.ch, .slice aO h.bo.length cO, .slice aE h.ed.length cE]) (cs := #[.slice none 0 0, .slice none 0 0, .slice none 0 0, .int .i64 0, .slice none 0 0, .slice none 0 0]) (by first | exact kk5 _ _ (kk4 _ _ (kk3 _ _ (HmV.new (by assumption) (Ext.below (by assumption)).size))) | exact kk5 _ _ (kk4 _ _ (kk3 _ _ (HmV.new hw1.drew hx.below.size))) | exact kk5 _ _ (kk4 _ _ (HmV.new (by assumption) (Ext.below (by assumption)).size)) | exact kk5 _ _ (HmV.new (by assumption) (Ext.below (by assumption)).size) | exact HmV.new (by assumption) (Ext.below (by assumption)).size) (by rfl) (by simp [Value.oneCell']) (by first | exact xx5 | exact Ext.alloc xx5 _) (Nat.le_refl _) ?_; intro w9 r9 x9 hO9 hz9; have k1 := x9.holds.mono l15; have k2 : Ext w H w9 H1 := ⟨x9.below, k1, hx.same⟩)) | ((go_split_ands; go_at_call 20; refine (copySetP_any _ set H4 _ (by first | exact k4 | exact Holds.alloc k4 _ | assumption) (hs1.mono l14)).mono ?_; rintro e w5 ⟨v5, H5, rfl, x5, s5⟩; obtain ⟨a5, c5, rfl, _, _⟩ := s5.form; have k5 := x5.holds; have l5 := x5.le (by first | exact k4 | exact Holds.alloc k4 _ | assumption); have l15 := l14.trans l5; have xx5 : Ext w H w5 H5 := Ext.trans (by first | exact xx4 | exact Ext.alloc xx4 _) x5; have k1 : Holds H1 w5 := k5.mono l15; have k2 : Ext w H w5 H1 := Ext.step (by assumption) (x5.below.mono (by assumption : Ext w H _ H1).below.size) k1; have kk5 : ∀ B cs, HmV H4 w.heap.size _ B cs → HmV H5 w.heap.size w5 B cs := fun _ _ q => HmV.ext q x5)) | ((go_split_ands; go_at_call 35; refine (copyP_any _ plan H3 _ (by first | exact k3 | exact Holds.alloc k3 _ | assumption) (hp1.mono l3) hpl hps).mono ?_; rintro e w4 ⟨v4, H4, rfl, x4, s4⟩; obtain ⟨a4, c4, rfl, _, _⟩ := s4.form; have k4 := x4.holds; have l4 := x4.le (by first | exact k3 | exact Holds.alloc k3 _ | assumption); have l14 := l3.trans l4; have xx4 : Ext w H w4 H4 := Ext.trans (by first | exact xx3 | exact Ext.alloc xx3 _) x4; have k1 : Holds H1 w4 := k4.mono l14; have k2 : Ext w H w4 H1 := Ext.step (by assumption) (x4.below.mono (by assumption : Ext w H _ H1).below.size) k1; have kk4 : ∀ B cs, HmV H3 w.heap.size _ B cs → HmV H4 w.heap.size w4 B cs := fun _ _ q => HmV.ext q x4)) | ((go_split_ands; go_at_call 23; refine ((copy9_any _ _ _ _ _ h H1 _ (by assumption) (hh1) hsz hs2).mono (fun _ _ k => k.hal)).mono ?_; rintro e w3 ⟨um, ub, ut, uo, ue, H3, rfl, x3, h3⟩; obtain ⟨aM, cM, rfl, _, _⟩ := h3.hs.m.form; obtain ⟨aB, cB, rfl, _, _⟩ := h3.hs.b.form; obtain ⟨aT, cT, rfl, _, _⟩ := h3.hs.t.form; obtain ⟨aO, cO, rfl, _, _⟩ := h3.bo.form; obtain ⟨aE, cE, rfl, _, _⟩ := h3.ed.form; have k3 := x3.holds; have l3 := x3.le (by assumption); have xx3 : Ext w H w3 H3 := Ext.trans (by assumption) x3; have k1 : Holds H1 w3 := k3.mono l3; have k2 : Ext w H w3 H1 := Ext.step (by assumption) (x3.below.mono (by assumption : Ext w H _ H1).below.size) k1; have kk3 : ∀ B cs, HmV H1 w.heap.size _ B cs → HmV H3 w.heap.size w3 B cs := fun _ _ q => HmV.ext q x3)))
          all_goals
            go_wp2_with fail
            go_meet
            exact ⟨_, _, _, _, _, _, _, rfl, l15.trans (Snap.le_put r9.free _), x9.freeze r9.base r9.at_, Snap.put_same _ _ _, ((h3.mono l4).mono l5).mono (Snap.le_put r9.free _), (s4.mono l5).mono (Snap.le_put r9.free _), s5.mono (Snap.le_put r9.free _)⟩
        case rest =>
          obtain ⟨C, um, ub, ut, uo, ue, H6, rfl, l6, x6, hC6, ho6, sp6, ss6⟩ := hcut
          obtain ⟨hd0, hd1, hd2, hd3, hd4, hd5⟩ := cellsHal (h := h) hC6
          obtain ⟨ap2, cp2, rfl, _, _⟩ := sp6.form
          obtain ⟨sa2, sc2, rfl, _, _⟩ := ss6.form
          have hw6 := x6.holds
          have hh6 := hh1.mono l6
          have hp6 := hp1.mono l6
          have hs6 := hs1.mono l6
          replace hc0 := lift l6 hc0
          replace hc1 := lift l6 hc1
          replace hc2 := lift l6 hc2
          replace hc3 := lift l6 hc3
          replace hc4 := lift l6 hc4
          replace hc5 := lift l6 hc5
          replace hX0 := lift l6 hX0
          replace hX1' := lift l6 hX1'
          obtain ⟨E1, hE1⟩ : ∃ E, askM (validHall h) (isPlan h.hs plan) = E := ⟨_, rfl⟩
          obtain ⟨E2, hE2⟩ : ∃ E, askM (validHall h) (isMachA h stop && setOk set) = E := ⟨_, rfl⟩
          obtain ⟨E3, hE3⟩ : ∃ E, errM (validHall h) = E := ⟨_, rfl⟩
          have cN1 := fun (S : Snap) (W : World) (hW : Holds S W) ho hp => needM_any um ub ut uo ue (.slice ap2 plan.length cp2) h plan S W hW ho hp
          have cN2 := fun (S : Snap) (W : World) (hW : Holds S W) hh hp => need9_any vm vb vt vo ve (.slice ap plan.length cp) h plan S W hW hh hp hfl
          have cF1 := fun (S : Snap) (W : World) (hW : Holds S W) ho hs => fitM_any um ub ut uo ue (.slice sa2 set.length sc2) h stop hn64'.out set S W hW ho hs
          have cF2 := fun (S : Snap) (W : World) (hW : Holds S W) hh hs => fit9_any vm vb vt vo ve (.slice sa set.length sc) h stop hn64'.out set S W hW hh hs
          rw [hE1] at cN1 cN2
          rw [hE2] at cF1 cF2
          replace cN1 := Lib.hid cN1
          replace cN2 := Lib.hid cN2
          replace cF1 := Lib.hid cF1
          replace cF2 := Lib.hid cF2
          have cC1 := fun (S : Snap) (W : World) (hW : Holds S W) ho => checkM_any um ub ut uo ue h S W hW ho
          have cC2 := fun (S : Snap) (W : World) (hW : Holds S W) hh => check9_any vm vb vt vo ve h S W hW hh
          rw [hE3] at cC1 cC2
          replace cC1 := Lib.hid cC1
          replace cC2 := Lib.hid cC2
          generalize needA h plan = A1 at *
          generalize fitA h stop set = A2 at *
          clear hE1 hE2 hE3 hn64 hn64'
          go_upto_region 6 with (first
            | (have hgd := x7; clear hgd; go_at_call 37; refine (cN2.out H7 _ x7.holds (hh6.mono l7) (hp6.mono l7)).mono ?_; rintro e w8 ⟨v8, H8, rfl, y8, u8, rfl, s8⟩; obtain ⟨a8, c8, rfl, _, _⟩ := s8.form; have x8 := x7.trans y8; have l8 := y8.le x7.holds; have hw8 := x8.holds; replace hd0 := lift l8 hd0; replace hd1 := lift l8 hd1; replace hd2 := lift l8 hd2; replace hd3 := lift l8 hd3; replace hd4 := lift l8 hd4; replace hd5 := lift l8 hd5; replace hc0 := lift l8 hc0; replace hc1 := lift l8 hc1; replace hc2 := lift l8 hc2; replace hc3 := lift l8 hc3; replace hc4 := lift l8 hc4; replace hc5 := lift l8 hc5; replace hX0 := lift l8 hX0; replace hX1' := lift l8 hX1'; replace s7 := s7.mono l8)
            | (have hgd := x6; clear hgd; go_at_call 36; refine (cN1.out H6 _ x6.holds ho6 sp6).mono ?_; rintro e w7 ⟨v7, H7, rfl, y7, u7, rfl, s7⟩; obtain ⟨a7, c7, rfl, _, _⟩ := s7.form; have x7 := x6.trans y7; have l7 := y7.le x6.holds; have hw7 := x7.holds; replace hd0 := lift l7 hd0; replace hd1 := lift l7 hd1; replace hd2 := lift l7 hd2; replace hd3 := lift l7 hd3; replace hd4 := lift l7 hd4; replace hd5 := lift l7 hd5; replace hc0 := lift l7 hc0; replace hc1 := lift l7 hc1; replace hc2 := lift l7 hc2; replace hc3 := lift l7 hc3; replace hc4 := lift l7 hc4; replace hc5 := lift l7 hc5; replace hX0 := lift l7 hX0; replace hX1' := lift l7 hX1'))
          have l68 := l7.trans l8
          have ho8 := ho6.mono l68
          have hh8 := hh6.mono l68
          have sp8 := sp6.mono l68
          have hp8 := hp6.mono l68
          refine wp_region_quietB H8 (by kernel_rfl) (by kernel_rfl) hw8 (fun hne => ?_)
          repeat go_big_quiet_step ((first | (go_at_call 38; exact Calls.quietB (cC1.out H8 _ (WB.holds _) ho8)) | (go_at_call 39; exact Calls.quietB (cC2.out H8 _ (WB.holds _) hh8)) | (go_at_call 40; exact Calls.quietB (sameSets_any _ _ A1 H8 _ (WB.holds _) s7 s8)) | (go_at_call 41; exact Calls.quietB (exSameP _ _ plan H8 _ (WB.holds _) sp8 hp8))))
          refine wpQuiet_nil ?_
          rintro ⟨w2, hw2, hb2⟩
          clear hne
          have x9 := x8.step (hb2.mono x8.below.size) hw2
          have hw9 := hw2
          have ss8 := ss6.mono l68
          have hs8 := hs6.mono l68
          clear x8
          go_wp2_with (first
            | (have hgd := x14; clear hgd; go_at_call 13; refine (works9_any H11 _ x14.holds).mono ?_; rintro e w15 ⟨rfl, hb15⟩; have x15 := x14.step (hb15.mono x14.below.size) (x14.holds.below hb15); have hw15 := x15.holds)
            | (have hgd := x13; clear hgd; go_at_call 40; refine (sameSets_any _ _ set H11 _ x13.holds ((ss8.mono l10).mono l11) ((hs8.mono l10).mono l11)).mono ?_; rintro e w14 ⟨rfl, hb14⟩; have x14 := x13.step (hb14.mono x13.below.size) (x13.holds.below hb14); have hw14 := x14.holds)
            | (have hgd := x12; clear hgd; go_at_call 44; refine (same9_any _ _ _ _ _ _ _ _ _ _ h H11 _ x12.holds ((ho8.mono l10).mono l11) ((hh8.mono l10).mono l11)).mono ?_; rintro e w13 ⟨rfl, hb13⟩; have x13 := x12.step (hb13.mono x12.below.size) (x12.holds.below hb13); have hw13 := x13.holds)
            | (have hgd := x11; clear hgd; go_at_call 43; refine (exSame _ _ A2 H11 _ x11.holds (s10.mono l11) s11).mono ?_; rintro e w12 ⟨rfl, hb12⟩; have x12 := x11.step (hb12.mono x11.below.size) (x11.holds.below hb12); have hw12 := x12.holds)
            | (have hgd := x10; clear hgd; go_at_call 42; refine (cF2.out H10 _ x10.holds (hh8.mono l10) (hs8.mono l10)).mono ?_; rintro e w11 ⟨v11, H11, rfl, y11, u11, rfl, s11⟩; obtain ⟨a11, c11, rfl, _, _⟩ := s11.form; have x11 := x10.trans y11; have l11 := y11.le x10.holds; have hw11 := x11.holds; replace hd0 := lift l11 hd0; replace hd1 := lift l11 hd1; replace hd2 := lift l11 hd2; replace hd3 := lift l11 hd3; replace hd4 := lift l11 hd4; replace hd5 := lift l11 hd5; replace hc0 := lift l11 hc0; replace hc1 := lift l11 hc1; replace hc2 := lift l11 hc2; replace hc3 := lift l11 hc3; replace hc4 := lift l11 hc4; replace hc5 := lift l11 hc5; replace hX0 := lift l11 hX0; replace hX1' := lift l11 hX1')
            | (have hgd := x9; clear hgd; go_at_call 32; refine (cF1.out H8 _ x9.holds ho8 ss8).mono ?_; rintro e w10 ⟨v10, H10, rfl, y10, u10, rfl, s10⟩; obtain ⟨a10, c10, rfl, _, _⟩ := s10.form; have x10 := x9.trans y10; have l10 := y10.le x9.holds; have hw10 := x10.holds; replace hd0 := lift l10 hd0; replace hd1 := lift l10 hd1; replace hd2 := lift l10 hd2; replace hd3 := lift l10 hd3; replace hd4 := lift l10 hd4; replace hd5 := lift l10 hd5; replace hc0 := lift l10 hc0; replace hc1 := lift l10 hc1; replace hc2 := lift l10 hc2; replace hc3 := lift l10 hc3; replace hc4 := lift l10 hc4; replace hc5 := lift l10 hc5; replace hX0 := lift l10 hX0; replace hX1' := lift l10 hX1'))
          go_ret
          exact ⟨rfl, x15.below⟩

end Go.Proofs.Ytngdppajailpcaa

namespace Go.Proofs.Ytngdppajailpcaa
open Go.ChangeShapes Go.WideShapes Go.ChangeAt Go.RowKit

theorem machinesNeed_own : ownKnob Try.prog.godebug = none := by kernel_rfl
theorem machinesNeed_laid : laidOutB Try.prog = true := by kernel_rfl

set_option maxHeartbeats 1600000 in
set_option maxRecDepth 100000 in
theorem machinesNeed_lifted (os : Os) (started : os.Started) (H : Type) (enc : TypeId × Value → H) :
    ReturnsInHanded {} Try.checked os 9 .any (Rows.machinesNeedSpec.pre6 enc Try.prog Try.f9 Rows.machinesNeedRow.domain false) (Rows.machinesNeedSpec.post enc Try.prog Try.f9 false true false false) := by
  refine returnsInHanded_of_change_sized (C := Try.checked) machinesNeed_own started (by kernel_rfl) Try.func9
    (ChangeSpec.witness6 (enc := enc) (C := Try.checked) false ⟨#[], #[.agg #[.slice none 0 0, .slice none 0 0, .slice none 0 0, .int .i64 0, .slice none 0 0, .slice none 0 0], .slice none 0 0, .agg #[.slice none 0 0, .int .i64 0]], []⟩ 8 (by kernel_rfl) (by kernel_rfl) (by kernel_rfl) (by kernel_rfl)) ?_
  intro W base args ds gs before hval0 hW _ hsz _
  have hval : ∀ (j : Nat) t v, Try.f9.params[j]? = some t → args[j]? = some v → Value.okWide Try.prog W .any base t v := hval0
  have hW' := hW
  obtain ⟨p, q, hA0, hV, rfl, _, _⟩ := hW
  have hA : DataW.TrodAll enc Try.prog W 0 (fun _ => true) true Try.f9.params.toList args.toList ds p := hA0
  have hS : (DataW.weightsEach Try.prog (Try.f9.params.toList ++ []) (ds ++ gs)).all (· ≤ reachBytes) = true := hsz
  rw [Try.params9] at hA hval hS
  obtain ⟨v0, vs0, d0, ds0, p0, q0, hargs, rfl, rfl, h0, r0⟩ := trodAll_cons hA
  obtain ⟨v1, vs1, d1, ds1, p1, q1, rfl, rfl, rfl, h1, r1⟩ := trodAll_cons r0
  obtain ⟨v2, vs2, d2, ds2, p2, q2, rfl, rfl, rfl, h2, r2⟩ := trodAll_cons r1
  obtain ⟨rfl, rfl, rfl⟩ := trodAll_nil r2
  obtain rfl : args = #[v0, v1, v2] := by cases args; simp_all
  obtain ⟨rfl, rfl⟩ := trodVars_none hV
  clear hA0 hval0 hsz
  simp only [List.append_nil] at hW' hS
  have hlt : ∀ x ∈ p0 ++ (p1 ++ p2), x.block < W.heap.size := fun x hx => by simpa using hW'.lt x hx
  have harg0 : ∀ W', Below W.heap.size W W' → DataW.Trod enc Try.prog W' 0 (fun b => decide (b < W.heap.size)) true 29 v0 d0 p0 := fun W' hb =>
    Below.trod machinesNeed_laid (by kernel_rfl) (of_decide_eq_true (by kernel_rfl)) h0 hb (fun x hx => hlt x (List.mem_append.2 (.inl hx)))
  have hw0 : ∀ k ∈ d0.weights Try.prog 29, k ≤ reachBytes := fun k hk => by
    simpa using List.all_eq_true.1 hS k (DataW.weights_mem_each (j := 0) rfl rfl k hk)
  have harg1 : ∀ W', Below W.heap.size W W' → DataW.Trod enc Try.prog W' 0 (fun b => decide (b < W.heap.size)) true 27 v1 d1 p1 := fun W' hb =>
    Below.trod machinesNeed_laid (by kernel_rfl) (of_decide_eq_true (by kernel_rfl)) h1 hb (fun x hx => hlt x (List.mem_append.2 (.inr (List.mem_append.2 (.inl hx)))))
  have hw1 : ∀ k ∈ d1.weights Try.prog 27, k ≤ reachBytes := fun k hk => by
    simpa using List.all_eq_true.1 hS k (DataW.weights_mem_each (j := 1) rfl rfl k hk)
  have harg2 : ∀ W', Below W.heap.size W W' → DataW.Trod enc Try.prog W' 0 (fun b => decide (b < W.heap.size)) true 62 v2 d2 p2 := fun W' hb =>
    Below.trod machinesNeed_laid (by kernel_rfl) (of_decide_eq_true (by kernel_rfl)) h2 hb (fun x hx => hlt x (List.mem_append.2 (.inr (List.mem_append.2 (.inr hx)))))
  have hw2 : ∀ k ∈ d2.weights Try.prog 62, k ≤ reachBytes := fun k hk => by
    simpa using List.all_eq_true.1 hS k (DataW.weights_mem_each (j := 2) rfl rfl k hk)
  obtain ⟨vm, vb, vt, vo, ve, hs, rfl, hh⟩ := hall_opened (hval 0 29 v0 rfl rfl) h0 hw0
  obtain ⟨a1, l1, c1, rfl⟩ := okWide_slice Try.underlying27 (hval 1 27 v1 rfl rfl)
  obtain ⟨n1, h1'⟩ := h1
  obtain ⟨xs1, hx1⟩ := lists_opened (by simpa [Value.cells] using h1') hw1
  obtain ⟨cv2, cs2, cn2, rfl, hx2, hz2⟩ := case_opened (hval 2 62 v2 rfl rfl) h2 hw2
  refine (machinesNeed_any vm vb vt vo ve _ cv2 hs xs1 cs2 cn2 (snapOf W) W (snapOf_holds W) hh hx1 hx2 hz2).mono fun e W' ⟨he, hb⟩ => ?_
  subst he
  refine ⟨_, rfl, _, _, _, [], _, [], hW', ?_, trodAll_cons_mk (harg0 W' hb) (trodAll_cons_mk (harg1 W' hb) (trodAll_cons_mk (harg2 W' hb) trodAll_mk0)), rfl, hb.frame _, fun h => by cases h⟩
  exact trodAll_mk1 (shut_bool Try.underlying4 _)

theorem machinesNeed_said : Rows.MachinesNeedSaid :=
  OpenClaim.holds_of_wide 9 Try.f9 rfl rfl rfl rfl rfl rfl rfl ⟨rfl, rfl, rfl, rfl, rfl⟩ rfl rfl rfl rfl rfl (by kernel_rfl) Try.func9 (by kernel_rfl)
    (of_decide_eq_true (by kernel_rfl)) (by unfold Func.isWrapper; first | (rw [if_pos (by decide +kernel)]; kernel_rfl) | (rw [if_neg (by decide +kernel)]; exact ⟨rfl, rfl⟩))
    (fun os started H enc _ => machinesNeed_lifted os started H enc)

end Go.Proofs.Ytngdppajailpcaa
