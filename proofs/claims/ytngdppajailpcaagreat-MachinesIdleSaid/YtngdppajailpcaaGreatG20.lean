/- Lemmas and walks on which the claims of this seat lean: MCan. -/
import Derived.Test.YtngdppajailpcaaGreatG18

set_option linter.all false

namespace Go.Proofs.YtngdppajailpcaaGreat
open Go.RowKit

attribute [local go_sem] Holds.drew Holds.alloc Holds.drewN WB.holds Oper.semAt_some FW_fn FW_dep FW_round run_loadShV run_indexShV run_indexRow
attribute [local go_sem ↓] loadAt_sh index_sh index_row storeAt_hl

theorem canA_no {h : Hall} {set : List Plate} {stop : Int} (hok : (validHall h && (setOk set && isCaseA h stop)) = false) : canA h set stop = false ∧ (askM (validHall h) (setOk set && isCaseA h stop) != 0) = true := by
  unfold canA
  rw [hok]
  refine ⟨rfl, ?_⟩
  cases h1 : validHall h
  · rfl
  · rw [h1, Bool.true_and] at hok; rw [hok]; rfl

set_option maxRecDepth 100000 in
set_option maxHeartbeats 4000000 in
theorem canM_any (vm vb vt vo ve vs : Value) (h : Hall) (set : List Plate) (stop : Int) (hstop : I64 stop) (H : Snap) (w : World) (hw : Holds H w) (hh : Hal H vm vb vt vo ve h) (hs : Sl H vs set) :
    Calls Tryz.prog 22 #[halV vm vb vt vo ve h, vs, .int .i64 stop] w (PostV w (.tuple #[.bool (canA h set stop), .int .i64 (askM (validHall h) (setOk set && isCaseA h stop))])) := by
  cases hok : validHall h && (setOk set && isCaseA h stop)
  · obtain ⟨hn, he⟩ := canA_no hok
    rw [hn]
    clear hn
    cases hst : setOk set
    · simp only [hst, Bool.false_and] at he ⊢
      exact can_no vm vb vt vo ve vs h set stop hst _ rfl he H w hw hh hs
    · simp only [hst, Bool.true_and] at he ⊢
      have hop := fun (W : World) (hW : Holds H W) => open_no vm vb vt vo ve h (isCaseA h stop) (by simpa [hst] using hok) H W hW hh
      generalize askM (validHall h) (isCaseA h stop) = E at *
      go_enter Tryz.func22, Tryz.ntmps22
      go_upto_region 1 with (refine wpList_boxF rfl _ rfl (Ext.refl hw) ?_; intro B w1 H1 hle hx hB hBw; obtain ⟨hc0, hc1, hc2, hc3, hc4, hc5⟩ := cellsHal hB; clear hB hw; have hw1 := hx.holds)
      have hset := fun (W : World) (hW : Holds H1 W) => isSetM_any vs set H1 W hW (hs.mono hle)
      rw [hst] at hset
      have hcase := fun (W : World) (hW : Holds H1 W) => isCaseM_any vm vb vt vo ve h stop hstop H1 W hW (hh.mono hle)
      replace hcase := Lib.hid hcase
      replace hop := fun (W : World) (hW : Holds H1 W) => hop W (hW.mono hle)
      replace hset := Lib.hid hset
      replace hop := Lib.hid hop
      go_cut [8, 9] (fun p e wc => ∃ B, p = .pointer (some ⟨B, 0, none⟩) ∧ e = .int .i64 E ∧ ∃ H2, SLe H1 H2 ∧ Ext w H wc H2 ∧ H2 B = some (.cells #[.slice none 0 0, .slice none 0 0, .slice none 0 0, .int .i64 0, .slice none 0 0, .slice none 0 0] 72 (0, 0)))
      case first =>
        first
        | go_region_held3 (fun w' => Holds H1 w' ∧ Ext w H w' H1)
            (first | assumption | exact ⟨by assumption, by assumption⟩ | (go_split_ands; exact ⟨Holds.drew (by assumption), Ext.drew (by assumption)⟩) | (go_split_ands; exact ⟨Holds.alloc (by assumption) _, Ext.alloc (by assumption) _⟩) | (go_split_ands; exact ⟨Holds.drew (Holds.alloc (by assumption) _), Ext.drew (Ext.alloc (by assumption) _)⟩))
            (first | (go_split_ands; go_at_call 47; refine (hop.out _ (by assumption)).mono ?_; rintro e wq2 ⟨rfl, hq2⟩; have k1 : Holds H1 wq2 := Holds.below (by assumption) hq2; have k2 : Ext w H wq2 H1 := Ext.step (by assumption) (hq2.mono (by assumption : Ext w H _ H1).below.size) k1; have kq2 := keep_hl (H := H1) (base := w.heap.size) hq2) | (go_split_ands; go_at_call 64; refine (hcase.out _ (by assumption)).mono ?_; rintro e wq1 ⟨rfl, hq1⟩; have k1 : Holds H1 wq1 := Holds.below (by assumption) hq1; have k2 : Ext w H wq1 H1 := Ext.step (by assumption) (hq1.mono (by assumption : Ext w H _ H1).below.size) k1; have kq1 := keep_hl (H := H1) (base := w.heap.size) hq1) | (go_split_ands; go_at_call 63; refine (hset.out _ (by assumption)).mono ?_; rintro e wq0 ⟨rfl, hq0⟩; have k1 : Holds H1 wq0 := Holds.below (by assumption) hq0; have k2 : Ext w H wq0 H1 := Ext.step (by assumption) (hq0.mono (by assumption : Ext w H _ H1).below.size) k1; have kq0 := keep_hl (H := H1) (base := w.heap.size) hq0) | (go_split_ands; refine upon_storeHl (cs' := #[.slice none 0 0, .slice none 0 0, .slice none 0 0, .int .i64 0, .slice none 0 0, .slice none 0 0]) (cs := #[.slice none 0 0, .slice none 0 0, .slice none 0 0, .int .i64 0, .slice none 0 0, .slice none 0 0]) (by first | exact HlV.new (by assumption) (Ext.below (by assumption)).size | exact kq2 _ _ (kq1 _ _ (kq0 _ _ (HlV.new (by assumption) (Ext.below (by assumption)).size))) | exact kq2 _ _ (kq1 _ _ (HlV.new (by assumption) (Ext.below (by assumption)).size)) | exact kq2 _ _ (HlV.new (by assumption) (Ext.below (by assumption)).size) | exact kq0 _ _ (HlV.new (by assumption) (Ext.below (by assumption)).size) | exact kq1 _ _ (HlV.new (by assumption) (Ext.below (by assumption)).size) | exact kq1 _ _ (kq0 _ _ (HlV.new (by assumption) (Ext.below (by assumption)).size)) | exact kq2 _ _ (kq0 _ _ (HlV.new (by assumption) (Ext.below (by assumption)).size)) | exact HlV.new hw1.drew hx.below.size | exact kq2 _ _ (kq1 _ _ (kq0 _ _ (HlV.new hw1.drew hx.below.size))) | exact kq2 _ _ (kq1 _ _ (HlV.new hw1.drew hx.below.size)) | exact kq2 _ _ (HlV.new hw1.drew hx.below.size) | exact kq0 _ _ (HlV.new hw1.drew hx.below.size) | exact kq1 _ _ (HlV.new hw1.drew hx.below.size) | exact kq1 _ _ (kq0 _ _ (HlV.new hw1.drew hx.below.size)) | exact kq2 _ _ (kq0 _ _ (HlV.new hw1.drew hx.below.size))) (by rfl) (by simp [Value.oneCell']) (by first | assumption | exact Ext.alloc (by assumption) _ | exact Ext.alloc hx.drew _) (Nat.le_refl _) ?_; intro w7 r7 x7 hO7 hz7; have k7 := x7.holds))
        | fail
        all_goals
          go_wp2_with fail
          go_meet
          exact ⟨_, rfl, rfl, _, Snap.le_put r7.free _, x7.freeze r7.base r7.at_, Snap.put_same _ _ _⟩
      case rest =>
        obtain ⟨B, rfl, rfl, H2, l2, x2, hput⟩ := hcut
        have hwx := x2.holds
        go_wp2
        go_ret2
        exact ⟨rfl, x2.below⟩
  · have hok2 := hok
    simp only [Bool.and_eq_true] at hok2
    obtain ⟨hvh, hst, hca⟩ := hok2
    have hV := validHall_iff.1 hvh
    have hcn := countsOf_cn hst
    obtain ⟨am, cm, rfl, hm1, hm2⟩ := hh.hs.m.form
    obtain ⟨ab, cb, rfl, hb1, hb2⟩ := hh.hs.b.form
    obtain ⟨at', ct, rfl, ht1, ht2⟩ := hh.hs.t.form
    obtain ⟨ao, co, rfl, ho1, ho2⟩ := hh.bo.form
    obtain ⟨ae, ce, rfl, he1, he2⟩ := hh.ed.form
    have hE : askM (validHall h) (setOk set && isCaseA h stop) = 0 := by rw [hvh, hst, hca]; rfl
    have hR : canA h set stop = doesC (countsOf set) (needsA h stop) := by unfold canA; rw [hok, Bool.true_and]
    have hdo : ∀ ss : List Shf, Dom (ss.map Shf.c) (needsA h stop) → Dom (needsA h stop) (ss.map Shf.c) → (∀ s ∈ ss, Cn s.c) → doesC (countsOf set) (ss.map Shf.c) = doesC (countsOf set) (needsA h stop) := fun ss d1 d2 hc =>
      doesC_dom hcn.len (fun y hy => by
        obtain ⟨s, hs, rfl⟩ := List.mem_map.1 hy
        exact (hc s hs).len) (needsA_six hV stop) d1 d2
    rw [hE, hR]
    clear hE hR
    generalize doesC (countsOf set) (needsA h stop) = R at *
    replace hdo := Lib.hid hdo
    have hop := fun (W : World) (hW : Holds H W) => open_yes _ _ _ _ _ h hvh H W hW hh
    go_enter Tryz.func22, Tryz.ntmps22
    go_upto_region 1 with (refine wpList_boxF rfl _ rfl (Ext.refl hw) ?_; intro B w1 H1 hle hx hB hBw; obtain ⟨hc0, hc1, hc2, hc3, hc4, hc5⟩ := cellsHal hB; clear hB hw; have hw1 := hx.holds)
    have hset := fun (W : World) (hW : Holds H1 W) => isSetM_any vs set H1 W hW (hs.mono hle)
    rw [hst] at hset
    have hcase := fun (W : World) (hW : Holds H1 W) => isCaseM_any _ _ _ _ _ h stop hstop H1 W hW (hh.mono hle)
    rw [hca] at hcase
    replace hcase := Lib.hid hcase
    replace hop := fun (W : World) (hW : Holds H1 W) => hop W (hW.mono hle)
    replace hset := Lib.hid hset
    replace hop := Lib.hid hop
    go_cut [8, 9] (fun p e wc => ∃ B, p = .pointer (some ⟨B, 0, none⟩) ∧ e = .int .i64 0 ∧ ∃ H2, SLe H1 H2 ∧ Ext w H wc H2 ∧ H2 B = some (.cells #[.slice am h.hs.ms.length cm, .slice ab h.hs.bs.length cb, .slice at' h.hs.ts.length ct, .int .i64 h.hs.ch, .slice ao h.bo.length co, .slice ae h.ed.length ce] 72 (0, 0)))
    case first =>
      first
      | go_region_held3 (fun w' => Holds H1 w' ∧ Ext w H w' H1)
          (first | assumption | exact ⟨by assumption, by assumption⟩ | (go_split_ands; exact ⟨Holds.drew (by assumption), Ext.drew (by assumption)⟩) | (go_split_ands; exact ⟨Holds.alloc (by assumption) _, Ext.alloc (by assumption) _⟩) | (go_split_ands; exact ⟨Holds.drew (Holds.alloc (by assumption) _), Ext.drew (Ext.alloc (by assumption) _)⟩))
          (first | (go_split_ands; go_at_call 47; refine (hop.out _ (by assumption)).mono ?_; rintro e wq2 ⟨rfl, hq2⟩; have k1 : Holds H1 wq2 := Holds.below (by assumption) hq2; have k2 : Ext w H wq2 H1 := Ext.step (by assumption) (hq2.mono (by assumption : Ext w H _ H1).below.size) k1; have kq2 := keep_hl (H := H1) (base := w.heap.size) hq2) | (go_split_ands; go_at_call 64; refine (hcase.out _ (by assumption)).mono ?_; rintro e wq1 ⟨rfl, hq1⟩; have k1 : Holds H1 wq1 := Holds.below (by assumption) hq1; have k2 : Ext w H wq1 H1 := Ext.step (by assumption) (hq1.mono (by assumption : Ext w H _ H1).below.size) k1; have kq1 := keep_hl (H := H1) (base := w.heap.size) hq1) | (go_split_ands; go_at_call 63; refine (hset.out _ (by assumption)).mono ?_; rintro e wq0 ⟨rfl, hq0⟩; have k1 : Holds H1 wq0 := Holds.below (by assumption) hq0; have k2 : Ext w H wq0 H1 := Ext.step (by assumption) (hq0.mono (by assumption : Ext w H _ H1).below.size) k1; have kq0 := keep_hl (H := H1) (base := w.heap.size) hq0) | (go_split_ands; refine upon_storeHl (cs' := #[.slice am h.hs.ms.length cm, .slice ab h.hs.bs.length cb, .slice at' h.hs.ts.length ct, .int .i64 h.hs.ch, .slice ao h.bo.length co, .slice ae h.ed.length ce]) (cs := #[.slice none 0 0, .slice none 0 0, .slice none 0 0, .int .i64 0, .slice none 0 0, .slice none 0 0]) (by first | exact HlV.new (by assumption) (Ext.below (by assumption)).size | exact kq2 _ _ (kq1 _ _ (kq0 _ _ (HlV.new (by assumption) (Ext.below (by assumption)).size))) | exact kq2 _ _ (kq1 _ _ (HlV.new (by assumption) (Ext.below (by assumption)).size)) | exact kq2 _ _ (HlV.new (by assumption) (Ext.below (by assumption)).size) | exact kq0 _ _ (HlV.new (by assumption) (Ext.below (by assumption)).size) | exact kq1 _ _ (HlV.new (by assumption) (Ext.below (by assumption)).size) | exact kq1 _ _ (kq0 _ _ (HlV.new (by assumption) (Ext.below (by assumption)).size)) | exact kq2 _ _ (kq0 _ _ (HlV.new (by assumption) (Ext.below (by assumption)).size)) | exact HlV.new hw1.drew hx.below.size | exact kq2 _ _ (kq1 _ _ (kq0 _ _ (HlV.new hw1.drew hx.below.size))) | exact kq2 _ _ (kq1 _ _ (HlV.new hw1.drew hx.below.size)) | exact kq2 _ _ (HlV.new hw1.drew hx.below.size) | exact kq0 _ _ (HlV.new hw1.drew hx.below.size) | exact kq1 _ _ (HlV.new hw1.drew hx.below.size) | exact kq1 _ _ (kq0 _ _ (HlV.new hw1.drew hx.below.size)) | exact kq2 _ _ (kq0 _ _ (HlV.new hw1.drew hx.below.size))) (by rfl) (by simp [Value.oneCell']) (by first | assumption | exact Ext.alloc (by assumption) _ | exact Ext.alloc hx.drew _) (Nat.le_refl _) ?_; intro w7 r7 x7 hO7 hz7; have k7 := x7.holds))
      | fail
      all_goals
        go_wp2_with fail
        go_meet
        exact ⟨_, rfl, rfl, _, Snap.le_put r7.free _, x7.freeze r7.base r7.at_, Snap.put_same _ _ _⟩
    case rest =>
      obtain ⟨B, rfl, rfl, H2, l2, x2, hput⟩ := hcut
      have hhc := (hh.mono hle).mono l2
      have hsc := (hs.mono hle).mono l2
      obtain ⟨d0, d1, d2, d3, d4, d5⟩ := cellsHal (h := h) hput
      have hw2 := x2.holds
      clear hcase hop hset
      go_upto_region 4 with fail
      go_region_held3 (fun w' => Holds H2 w' ∧ Ext w H w' H2)
        (first | assumption | exact ⟨by assumption, by assumption⟩ | (go_split_ands; exact ⟨Holds.drew (by assumption), Ext.drew (by assumption)⟩) | (go_split_ands; exact ⟨Holds.alloc (by assumption) _, Ext.alloc (by assumption) _⟩) | (go_split_ands; exact ⟨Holds.drew (Holds.alloc (by assumption) _), Ext.drew (Ext.alloc (by assumption) _)⟩))
        (first
          | (go_split_ands; go_at_call 65; refine (shelved_any vs set H2 _ (by assumption) hsc hst).mono ?_; rintro e w3 ⟨rfl, hb3⟩; have k1 : Holds H2 w3 := Holds.below (by assumption) hb3; have k2 : Ext w H w3 H2 := Ext.step (by assumption) (hb3.mono (by assumption : Ext w H _ H2).below.size) k1)
          | (go_split_ands; go_at_call 67; refine (needs_any _ _ _ _ _ h hV stop hstop H2 _ (by assumption) hhc).mono ?_; rintro e w4 ⟨v4, H4, rfl, x4, ss, s4, hd1, hd2, hcs⟩; obtain ⟨aL, cL, rfl, _, _⟩ := s4.form; have hf4 := hdo.out ss hd1 hd2 hcs; have k4 := x4.holds; have k1 : Holds H2 w4 := x4.old (by assumption); have k2 : Ext w H w4 H2 := Ext.step (by assumption) (x4.below.mono (by assumption : Ext w H _ H2).below.size) k1)
          | (go_split_ands; go_at_call 66; refine (does_any (countsOf set) hcn _ ss H4 _ (by assumption) s4 hcs).mono ?_; rw [hf4]; rintro e w6 ⟨rfl, hb6⟩; have k1 : Holds H2 w6 := Holds.below (by assumption) hb6; have k2 : Ext w H w6 H2 := Ext.step (by assumption) (hb6.mono (by assumption : Ext w H _ H2).below.size) k1))
      all_goals
        go_wp2_with fail
        go_ret2
        exact ⟨rfl, (by assumption : Ext w H _ H2).below⟩

end Go.Proofs.YtngdppajailpcaaGreat
