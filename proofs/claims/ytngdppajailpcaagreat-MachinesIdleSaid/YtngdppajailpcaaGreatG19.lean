/- Lemmas and walks on which the claims of this seat lean: MGain. -/
import Derived.Test.YtngdppajailpcaaGreatG17
import Derived.Test.YtngdppajailpcaaGreatG18

set_option linter.all false

namespace Go.Proofs.YtngdppajailpcaaGreat
open Go.RowKit

attribute [local go_sem] Holds.drew Holds.alloc Holds.drewN WB.holds Oper.semAt_some FW_fn FW_dep FW_round run_loadShV run_indexShV run_indexRow
attribute [local go_sem ↓] loadAt_sh index_sh index_row storeAt_hl

def gainOk (h : Hall) (one other : Int) : Bool := validHall h && (isMachA h one && isMachA h other)
def gainA (h : Hall) (one other : Int) : Int := if gainOk h one other then (if errF h = 0 then fewestA h - fewestA (boredH h one.toNat other.toNat) else 0) else 0
def gainE (h : Hall) (one other : Int) : Int := if gainOk h one other then (if errF h = 0 then errF (boredH h one.toNat other.toNat) else errF h) else askM (validHall h) (isMachA h one && isMachA h other)
theorem bored_valid {h : Hall} (hv : ValidH h) {one other : Nat} (h2 : other < h.hs.ms.length) : ValidH (boredH h one other) := by
  refine ⟨hv.hs, by show (h.bo.set _ _).length = _; rw [List.length_set]; exact hv.bo, hv.e4, ?_, hv.eds, hv.bes⟩
  obtain ⟨b, hb, e, _⟩ := bore_bd hv h2
  rw [List.all_eq_true]
  intro x hx
  rcases List.mem_or_eq_of_mem_set hx with h1 | rfl
  · exact List.all_eq_true.1 hv.bos x h1
  · rw [e]; exact within_iff.2 ⟨by omega, by omega⟩
theorem leastA_cn {h : Hall} (hV : ValidH h) {c x : Cnt} (hc : Cn c) (e : leastA h c = some x) : Cn x :=
  grownC_cn (fun l hl y hy => by
    obtain ⟨s, _, rfl⟩ := List.mem_map.1 hl
    exact needsA_cn hV y hy) hc e
theorem fewestA_bd {h : Hall} (hV : ValidH h) : 0 ≤ fewestA h ∧ fewestA h ≤ 12000 := by
  unfold fewestA extraA
  split
  · cases e : leastA h (countsOf []) with
    | none => simp
    | some c =>
      have := (leastA_cn hV (countsOf_cn setOk_nil) e).sum
      have h2 : platesOf [] = 0 := rfl
      simp only; omega
  · omega

set_option maxRecDepth 100000 in
set_option maxHeartbeats 8000000 in
theorem gainM_any (vm vb vt vo ve : Value) (h : Hall) (one other : Int) (hi1 : I64 one) (hi2 : I64 other) (H : Snap) (w : World) (hw : Holds H w) (hh : Hal H vm vb vt vo ve h) :
    Calls Tryz.prog 11 #[halV vm vb vt vo ve h, .int .i64 one, .int .i64 other] w (PostV w (.tuple #[.int .i64 (gainA h one other), .int .i64 (gainE h one other)])) := by
  cases hok : gainOk h one other
  · have e1 : gainA h one other = 0 := by unfold gainA; rw [hok]; rfl
    have e2 : gainE h one other = askM (validHall h) (isMachA h one && isMachA h other) := by unfold gainE; rw [hok]; rfl
    rw [e1, e2]
    clear e1 e2
    unfold gainOk at hok
    have he : (askM (validHall h) (isMachA h one && isMachA h other) != 0) = true := by
      cases h1 : validHall h
      · rfl
      · rw [h1, Bool.true_and] at hok; rw [hok]; rfl
    cases hma : isMachA h one
    · simp only [hma, Bool.false_and] at he ⊢
      exact gain_no vm vb vt vo ve h one other hma _ rfl he H w hw hh
    · simp only [hma, Bool.true_and] at he ⊢
      have hop := fun (W : World) (hW : Holds H W) => open_no vm vb vt vo ve h (isMachA h other) (by simpa [hma] using hok) H W hW hh
      generalize askM (validHall h) (isMachA h other) = E at *
      go_enter Tryz.func11, Tryz.ntmps11
      go_upto_region 1 with (refine wpList_boxF rfl _ rfl (Ext.refl hw) ?_; intro B w1 H1 hle hx hB hBw; obtain ⟨hc0, hc1, hc2, hc3, hc4, hc5⟩ := cellsHal hB; clear hB hw; have hw1 := hx.holds)
      have hmach := fun (W : World) (hW : Holds H1 W) => isMachineM_any vm vb vt vo ve h one H1 W hW (hh.mono hle)
      rw [hma] at hmach
      replace hmach := Lib.hid hmach
      have hmach2 := fun (W : World) (hW : Holds H1 W) => isMachineM_any vm vb vt vo ve h other H1 W hW (hh.mono hle)
      replace hmach2 := Lib.hid hmach2
      replace hop := fun (W : World) (hW : Holds H1 W) => hop W (hW.mono hle)
      replace hop := Lib.hid hop
      go_cut [8, 9] (fun p e wc => ∃ B, p = .pointer (some ⟨B, 0, none⟩) ∧ e = .int .i64 E ∧ ∃ H2, SLe H1 H2 ∧ Ext w H wc H2 ∧ H2 B = some (.cells #[.slice none 0 0, .slice none 0 0, .slice none 0 0, .int .i64 0, .slice none 0 0, .slice none 0 0] 72 (0, 0)))
      case first =>
        first
        | go_region_held3 (fun w' => Holds H1 w' ∧ Ext w H w' H1)
            (first | assumption | exact ⟨by assumption, by assumption⟩ | (go_split_ands; exact ⟨Holds.drew (by assumption), Ext.drew (by assumption)⟩) | (go_split_ands; exact ⟨Holds.alloc (by assumption) _, Ext.alloc (by assumption) _⟩) | (go_split_ands; exact ⟨Holds.drew (Holds.alloc (by assumption) _), Ext.drew (Ext.alloc (by assumption) _)⟩))
            (first | (go_split_ands; go_at_call 47; refine (hop.out _ (by assumption)).mono ?_; rintro e wq2 ⟨rfl, hq2⟩; have k1 : Holds H1 wq2 := Holds.below (by assumption) hq2; have k2 : Ext w H wq2 H1 := Ext.step (by assumption) (hq2.mono (by assumption : Ext w H _ H1).below.size) k1; have kq2 := keep_hl (H := H1) (base := w.heap.size) hq2) | (have hgd := kq0; clear hgd; go_split_ands; go_at_call 48; refine (hmach2.out _ (by assumption)).mono ?_; rintro e wq1 ⟨rfl, hq1⟩; have k1 : Holds H1 wq1 := Holds.below (by assumption) hq1; have k2 : Ext w H wq1 H1 := Ext.step (by assumption) (hq1.mono (by assumption : Ext w H _ H1).below.size) k1; have kq1 := keep_hl (H := H1) (base := w.heap.size) hq1) | (go_split_ands; go_at_call 48; refine (hmach.out _ (by assumption)).mono ?_; rintro e wq0 ⟨rfl, hq0⟩; have k1 : Holds H1 wq0 := Holds.below (by assumption) hq0; have k2 : Ext w H wq0 H1 := Ext.step (by assumption) (hq0.mono (by assumption : Ext w H _ H1).below.size) k1; have kq0 := keep_hl (H := H1) (base := w.heap.size) hq0) | (go_split_ands; refine upon_storeHl (cs' := #[.slice none 0 0, .slice none 0 0, .slice none 0 0, .int .i64 0, .slice none 0 0, .slice none 0 0]) (cs := #[.slice none 0 0, .slice none 0 0, .slice none 0 0, .int .i64 0, .slice none 0 0, .slice none 0 0]) (by first | exact HlV.new (by assumption) (Ext.below (by assumption)).size | exact kq2 _ _ (kq1 _ _ (kq0 _ _ (HlV.new (by assumption) (Ext.below (by assumption)).size))) | exact kq2 _ _ (kq1 _ _ (HlV.new (by assumption) (Ext.below (by assumption)).size)) | exact kq2 _ _ (HlV.new (by assumption) (Ext.below (by assumption)).size) | exact kq0 _ _ (HlV.new (by assumption) (Ext.below (by assumption)).size) | exact kq1 _ _ (HlV.new (by assumption) (Ext.below (by assumption)).size) | exact kq1 _ _ (kq0 _ _ (HlV.new (by assumption) (Ext.below (by assumption)).size)) | exact kq2 _ _ (kq0 _ _ (HlV.new (by assumption) (Ext.below (by assumption)).size)) | exact HlV.new hw1.drew hx.below.size | exact kq2 _ _ (kq1 _ _ (kq0 _ _ (HlV.new hw1.drew hx.below.size))) | exact kq2 _ _ (kq1 _ _ (HlV.new hw1.drew hx.below.size)) | exact kq2 _ _ (HlV.new hw1.drew hx.below.size) | exact kq0 _ _ (HlV.new hw1.drew hx.below.size) | exact kq1 _ _ (HlV.new hw1.drew hx.below.size) | exact kq1 _ _ (kq0 _ _ (HlV.new hw1.drew hx.below.size)) | exact kq2 _ _ (kq0 _ _ (HlV.new hw1.drew hx.below.size))) (by rfl) (by simp [Value.oneCell']) (by first | assumption | exact Ext.alloc (by assumption) _ | exact Ext.alloc hx.drew _) (Nat.le_refl _) ?_; intro w7 r7 x7 hO7 hz7; have k7 := x7.holds))
        | fail
        all_goals
          go_wp2_with fail
          go_meet
          exact ⟨_, rfl, rfl, _, Snap.le_put r7.free _, x7.freeze r7.base r7.at_, Snap.put_same _ _ _⟩
      case rest =>
        obtain ⟨B, rfl, rfl, H2, l2, x2, hput⟩ := hcut
        go_wp2
        go_ret2
        exact ⟨rfl, x2.below⟩
  · have hok2 := hok
    unfold gainOk at hok2
    simp only [Bool.and_eq_true] at hok2
    obtain ⟨hvh, hma, hmb⟩ := hok2
    have hV := validHall_iff.1 hvh
    have hm3 := hV.hs.m3
    have e1 : gainA h one other = if errF h = 0 then fewestA h - fewestA (boredH h one.toNat other.toNat) else 0 := by unfold gainA; rw [hok, if_pos rfl]
    have e2 : gainE h one other = if errF h = 0 then errF (boredH h one.toNat other.toNat) else errF h := by unfold gainE; rw [hok, if_pos rfl]
    have hA := within_iff.1 (show within one 0 ((h.hs.ms.length : Int) - 1) = true from hma)
    have hB' := within_iff.1 (show within other 0 ((h.hs.ms.length : Int) - 1) = true from hmb)
    obtain ⟨x, rfl⟩ : ∃ x : Nat, one = (x : Int) := ⟨one.toNat, by omega⟩
    obtain ⟨y, rfl⟩ : ∃ y : Nat, other = (y : Int) := ⟨other.toNat, by omega⟩
    rw [Int.toNat_natCast, Int.toNat_natCast] at e1 e2
    have hxm : x < h.bo.length := by rw [hV.bo]; omega
    have hym : y < h.bo.length := by rw [hV.bo]; omega
    have hbl3 : h.bo.length ≤ 3 := by rw [hV.bo]; exact hm3
    rw [e1, e2]
    clear e1 e2 hA hB'
    have hVB := bored_valid (one := x) hV (show y < h.hs.ms.length by rw [← hV.bo]; exact hym)
    have fb1 := fewestA_bd hV
    have fb2 := fewestA_bd hVB
    obtain ⟨am, cm, rfl, hm1, hm2⟩ := hh.hs.m.form
    obtain ⟨ab, cb, rfl, hb1, hb2⟩ := hh.hs.b.form
    obtain ⟨at', ct, rfl, ht1, ht2⟩ := hh.hs.t.form
    obtain ⟨ao, co, rfl, ho1, ho2⟩ := hh.bo.form
    obtain ⟨ae, ce, rfl, he1, he2⟩ := hh.ed.form
    have hop := fun (W : World) (hW : Holds H W) => open_yes _ _ _ _ _ h hvh H W hW hh
    have hfw := fun (H : Snap) (W : World) (hW : Holds H W) hh => fewestM_any (.slice am h.hs.ms.length cm) (.slice ab h.hs.bs.length cb) (.slice at' h.hs.ts.length ct) (.slice ao h.bo.length co) (.slice ae h.ed.length ce) h H W hW hh
    obtain ⟨FH, hFH⟩ : ∃ FH, FH = fewestA h := ⟨_, rfl⟩
    obtain ⟨EH, hEH⟩ : ∃ EH, EH = errF h := ⟨_, rfl⟩
    rw [← hFH, ← hEH] at hfw ⊢
    rw [← hFH] at fb1
    replace hfw := Lib.hid hfw
    clear hFH hEH
    go_enter Tryz.func11, Tryz.ntmps11
    go_upto_region 1 with (refine wpList_boxF rfl _ rfl (Ext.refl hw) ?_; intro B0 w1 H1 hle hx hB0 hBw; have hBn : H B0 = none := hw.none_of_ge hBw; clear hw)
    replace hB0 : H1 B0 = some (.cells #[.slice am h.hs.ms.length cm, .slice ab h.hs.bs.length cb, .slice at' h.hs.ts.length ct, .int .i64 h.hs.ch, .slice ao h.bo.length co, .slice ae h.ed.length ce] 29 (0, 0)) := hB0
    obtain ⟨hc0, hc1, hc2, hc3, hc4, hc5⟩ := cellsHal (h := h) hB0
    have hw1 := hx.holds
    replace hB0 := Lib.hid hB0
    have hmach := fun (W : World) (hW : Holds H1 W) => isMachineM_any _ _ _ _ _ h (x : Int) H1 W hW (hh.mono hle)
    rw [hma] at hmach
    replace hmach := Lib.hid hmach
    have hmach2 := fun (W : World) (hW : Holds H1 W) => isMachineM_any _ _ _ _ _ h (y : Int) H1 W hW (hh.mono hle)
    rw [hmb] at hmach2
    replace hmach2 := Lib.hid hmach2
    replace hop := fun (W : World) (hW : Holds H1 W) => hop W (hW.mono hle)
    replace hop := Lib.hid hop
    go_cut [8, 9] (fun p e wc => ∃ B, p = .pointer (some ⟨B, 0, none⟩) ∧ e = .int .i64 0 ∧ ∃ H2, SLe H1 H2 ∧ Ext w H wc H2 ∧ H2 B = some (.cells #[.slice am h.hs.ms.length cm, .slice ab h.hs.bs.length cb, .slice at' h.hs.ts.length ct, .int .i64 h.hs.ch, .slice ao h.bo.length co, .slice ae h.ed.length ce] 72 (0, 0)))
    case first =>
      first
      | go_region_held3 (fun w' => Holds H1 w' ∧ Ext w H w' H1)
          (first | assumption | exact ⟨by assumption, by assumption⟩ | (go_split_ands; exact ⟨Holds.drew (by assumption), Ext.drew (by assumption)⟩) | (go_split_ands; exact ⟨Holds.alloc (by assumption) _, Ext.alloc (by assumption) _⟩) | (go_split_ands; exact ⟨Holds.drew (Holds.alloc (by assumption) _), Ext.drew (Ext.alloc (by assumption) _)⟩))
          (first | (go_split_ands; go_at_call 47; refine (hop.out _ (by assumption)).mono ?_; rintro e wq2 ⟨rfl, hq2⟩; have k1 : Holds H1 wq2 := Holds.below (by assumption) hq2; have k2 : Ext w H wq2 H1 := Ext.step (by assumption) (hq2.mono (by assumption : Ext w H _ H1).below.size) k1; have kq2 := keep_hl (H := H1) (base := w.heap.size) hq2) | (have hgd := kq0; clear hgd; go_split_ands; go_at_call 48; refine (hmach2.out _ (by assumption)).mono ?_; rintro e wq1 ⟨rfl, hq1⟩; have k1 : Holds H1 wq1 := Holds.below (by assumption) hq1; have k2 : Ext w H wq1 H1 := Ext.step (by assumption) (hq1.mono (by assumption : Ext w H _ H1).below.size) k1; have kq1 := keep_hl (H := H1) (base := w.heap.size) hq1) | (go_split_ands; go_at_call 48; refine (hmach.out _ (by assumption)).mono ?_; rintro e wq0 ⟨rfl, hq0⟩; have k1 : Holds H1 wq0 := Holds.below (by assumption) hq0; have k2 : Ext w H wq0 H1 := Ext.step (by assumption) (hq0.mono (by assumption : Ext w H _ H1).below.size) k1; have kq0 := keep_hl (H := H1) (base := w.heap.size) hq0) | (go_split_ands; refine upon_storeHl (cs' := #[.slice am h.hs.ms.length cm, .slice ab h.hs.bs.length cb, .slice at' h.hs.ts.length ct, .int .i64 h.hs.ch, .slice ao h.bo.length co, .slice ae h.ed.length ce]) (cs := #[.slice none 0 0, .slice none 0 0, .slice none 0 0, .int .i64 0, .slice none 0 0, .slice none 0 0]) (by first | exact HlV.new (by assumption) (Ext.below (by assumption)).size | exact kq2 _ _ (kq1 _ _ (kq0 _ _ (HlV.new (by assumption) (Ext.below (by assumption)).size))) | exact kq2 _ _ (kq1 _ _ (HlV.new (by assumption) (Ext.below (by assumption)).size)) | exact kq2 _ _ (HlV.new (by assumption) (Ext.below (by assumption)).size) | exact kq0 _ _ (HlV.new (by assumption) (Ext.below (by assumption)).size) | exact kq1 _ _ (HlV.new (by assumption) (Ext.below (by assumption)).size) | exact kq1 _ _ (kq0 _ _ (HlV.new (by assumption) (Ext.below (by assumption)).size)) | exact kq2 _ _ (kq0 _ _ (HlV.new (by assumption) (Ext.below (by assumption)).size)) | exact HlV.new hw1.drew hx.below.size | exact kq2 _ _ (kq1 _ _ (kq0 _ _ (HlV.new hw1.drew hx.below.size))) | exact kq2 _ _ (kq1 _ _ (HlV.new hw1.drew hx.below.size)) | exact kq2 _ _ (HlV.new hw1.drew hx.below.size) | exact kq0 _ _ (HlV.new hw1.drew hx.below.size) | exact kq1 _ _ (HlV.new hw1.drew hx.below.size) | exact kq1 _ _ (kq0 _ _ (HlV.new hw1.drew hx.below.size)) | exact kq2 _ _ (kq0 _ _ (HlV.new hw1.drew hx.below.size))) (by rfl) (by simp [Value.oneCell']) (by first | assumption | exact Ext.alloc (by assumption) _ | exact Ext.alloc hx.drew _) (Nat.le_refl _) ?_; intro w7 r7 x7 hO7 hz7; have k7 := x7.holds))
      | fail
      all_goals
        go_wp2_with fail
        go_meet
        exact ⟨_, rfl, rfl, _, Snap.le_put r7.free _, x7.freeze r7.base r7.at_, Snap.put_same _ _ _⟩
    case rest =>
      obtain ⟨B, rfl, rfl, H2, l2, x2, hput⟩ := hcut
      have hw2 := x2.holds
      have hh2 := (hh.mono hle).mono l2
      replace hc0 := lift l2 hc0
      replace hc1 := lift l2 hc1
      replace hc2 := lift l2 hc2
      replace hc3 := lift l2 hc3
      replace hc4 := lift l2 hc4
      replace hc5 := lift l2 hc5
      clear hop hmach hmach2 hput
      go_upto_region 5 with (go_at_call 14; refine (hfw.out H2 _ hw2 hh2).mono ?_; rintro e w3 ⟨rfl, hb3⟩; have x3 := x2.step (hb3.mono x2.below.size) (hw2.below hb3))
      by_cases hE0 : EH = 0
      · subst hE0
        simp only [if_pos rfl]
        have hr3 := x3.holds.at_ _ _ (l2 _ _ hB0.out)
        have x3' : Ext w H w3 H := ⟨x3.below, (x3.holds.mono l2).mono hle, fun _ _ => rfl⟩
        have hw3 := x3'.holds
        have hBl : B0 < w3.heap.size := (Array.getElem?_eq_some_iff.1 hr3).1
        have c4 := cell_of_row w3 B0 4 _ _ _ hr3
        simp at c4
        clear hc0 hc1 hc2 hc3 hc4 hc5 hB0 hb3 x2 x3 hx hw1 hw2 hh2 l2 hfw
        replace hr3 := Lib.hid hr3
        go_upto_region 8 with (go_at_call 49; refine (cloneO_any _ _ H _ hw3 hh.bo (by omega)).mono ?_; rintro e w4 ⟨v4, H4, rfl, x4, o4⟩; obtain ⟨a4, k4, rfl, _, _⟩ := o4.form; have hr4 := (x4.below.block B0 hBl).trans hr3.out; have q4 := cell_of_row w4 B0 4 _ _ _ hr4; simp at q4; have hf4 : w4.frozen? ⟨B0, 4, none⟩ = false := (by simp [World.frozen?, hr4]); replace hr4 := Lib.hid hr4)
        have hB4 : H4 B0 = none := (x4.same B0 hBl).trans hBn
        have x5 := (x3'.trans x4).setCell (a := ⟨B0, 4, none⟩) hBw hB4 (.slice a4 h.bo.length k4)
        have o5 := o4.setCell (a := ⟨B0, 4, none⟩) (o4.ne_of_lt hBl) (.slice a4 h.bo.length k4)
        have hr5 := heap_setCell_row (i := 4) hr4.out (.slice a4 h.bo.length k4)
        simp at hr5
        have l4 := x4.le hw3
        have hbs : w.heap.size ≤ w3.heap.size := x3'.below.size
        generalize w4.setCell ⟨B0, 4, none⟩ (.slice a4 h.bo.length k4) = w5 at *
        clear x3' x4 o4 hr3 hr4 q4 hf4 c4 hw3
        have hw5 := x5.holds
        obtain ⟨z1, hz1⟩ := At.mk hxm
        obtain ⟨z2, hz2⟩ := At.mk hym
        have hbz : bore h y = z2 := hz2.bore
        obtain ⟨g, cg, heg, i1, hcl, hfz, hgb, hgH, hgl, hset⟩ := o5.int_at hz1
        obtain ⟨g', cg', heg', i2, hcl2, _, _, _, _, _⟩ := o5.int_at hz2
        cases heg
        cases heg'
        have hB5 : B0 < w5.heap.size := (Array.getElem?_eq_some_iff.1 hr5).1
        have q4 := cell_of_row w5 B0 4 _ _ _ hr5
        simp at q4
        have d4 : ∀ x : WB H4 w5, x.w.cell? ⟨B0, 4, none⟩ = some (.slice (some ⟨g, 0, none⟩) h.bo.length k4) := fun x => (x.old B0 4 hB5).trans q4
        have d5 : ∀ x : WB H4 w5, x.w.cell? ⟨g, y, none⟩ = some (.int .i64 z2) := fun x => (x.old g y hgl).trans hcl2
        have e1 : (0 : Int) ≤ (x : Int) := by omega
        have e2 : (x : Int) < (h.bo.length : Int) := by omega
        have e3 : (0 : Int) ≤ (y : Int) := by omega
        have e4 : (y : Int) < (h.bo.length : Int) := by omega
        clear hset
        refine (wpIn_wide (n := 3)).1 ?_
        show Code.wpIn (FW none) 3 _ _ _ _ _
        have hnq : Nonempty (WB H4 w5) := ⟨⟨w5, hw5, Below.refl _ _⟩⟩
        refine wpIn_region_qtail (C := fun w' => ∃ x : WB H4 w5, w' = x.w) 9 (by kernel_rfl) (by kernel_rfl) (by kernel_rfl) ⟨⟨World.drew w5, Holds.drew hw5, (Below.refl _ _).drew⟩, rfl⟩ ?_
        simp only [List.take_succ_cons, List.take_zero, List.drop_succ_cons, List.drop_zero]
        repeat go_big_quiet_step ((first | (fail)))
        refine wpQuiet_nil ?_
        clear hnq
        rintro w2 ⟨⟨_, hw2, hb2⟩, rfl⟩
        have xb : Ext w5 H4 w2 H4 := ⟨hb2, hw2, fun _ _ => rfl⟩
        have o6 := o5.ext hw5 xb
        obtain ⟨_, _, he', _, hcl3, hfz3, _, _, _, hset3⟩ := o6.int_at hz1
        cases he'
        have o7 := hset3 z2 i2
        have x7 := (x5.trans xb).setCell (a := ⟨g, x, none⟩) (Nat.le_trans hbs hgb) hgH (.int .i64 z2)
        have hgB : B0 ≠ g := by omega
        have hr7 := (heap_setCell_off w2 ⟨g, x, none⟩ (.int .i64 z2) hgB).trans ((hb2.block B0 hB5).trans hr5)
        gi_wp2
        try clear h
        generalize World.setCell w2 ⟨g, x, none⟩ (.int .i64 z2) = w7 at *
        obtain ⟨H8, x8, l8, s8, _⟩ := (o7.weaken hbs).close x7
        have c0 := cell_of_row w7 B0 0 _ _ _ hr7
        have c1 := cell_of_row w7 B0 1 _ _ _ hr7
        have c2 := cell_of_row w7 B0 2 _ _ _ hr7
        have c3 := cell_of_row w7 B0 3 _ _ _ hr7
        have c4 := cell_of_row w7 B0 4 _ _ _ hr7
        have c5 := cell_of_row w7 B0 5 _ _ _ hr7
        simp at c0 c1 c2 c3 c4 c5
        have l48 := l4.trans l8
        have hh8 : Hal H8 (.slice am h.hs.ms.length cm) (.slice ab h.hs.bs.length cb) (.slice at' h.hs.ts.length ct) (.slice (some ⟨g, 0, none⟩) h.bo.length k4) (.slice ae h.ed.length ce) (boredH h x y) := ⟨hh.hs.mono l48, by
          unfold boredH; rw [hbz]; exact s8, hh.ed.mono l48⟩
        have hfw := fewestM_any _ _ _ _ _ (boredH h x y) H8 w7 x8.holds hh8
        generalize fewestA (boredH h x y) = F2 at *
        generalize errF (boredH h x y) = E2 at *
        replace hfw := Lib.hid hfw
        clear d4 d5 q4
        go_wp2_with (first | (go_at_call 14; refine (hfw.out).mono ?_; rintro e w9 ⟨rfl, hb9⟩))
        go_ret2
        exact ⟨rfl, x8.below.trans (hb9.mono x8.below.size)⟩
      · have hEb : (EH != 0) = true := by simpa using hE0
        simp only [if_neg hE0]
        replace hE0 := Lib.hid hE0
        go_wp2
        go_ret2
        exact ⟨rfl, x3.below⟩

end Go.Proofs.YtngdppajailpcaaGreat
