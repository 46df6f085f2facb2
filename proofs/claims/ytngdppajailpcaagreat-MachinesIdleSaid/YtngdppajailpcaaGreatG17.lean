/- Lemmas and walks on which the claims of this seat lean: MExt MFst MCalm Sure Bst. -/
import Derived.Test.YtngdppajailpcaaGreatG11
import Derived.Test.YtngdppajailpcaaGreatG14
import Derived.Test.YtngdppajailpcaaGreatG16

set_option linter.all false

namespace Go.Proofs.YtngdppajailpcaaGreat
open Go.RowKit

attribute [local go_sem] Holds.drew Holds.alloc Holds.drewN WB.holds Oper.semAt_some FW_fn FW_dep FW_round run_loadShV run_indexShV run_indexRow
attribute [local go_sem ↓] loadAt_sh index_sh index_row storeAt_hl

theorem keep_hl {H : Snap} {base : Nat} {w w' : World} (hb : Below w.heap.size w w') : ∀ B cs, HlV H base w B cs → HlV H base w' B cs := fun _ _ h => h.step hb

def extV (n : Int) : Option Cnt → Int
  | none => 0
  | some c => cntSum c - n

set_option maxRecDepth 100000 in
set_option maxHeartbeats 4000000 in
theorem extra_any (vm vb vt vo ve vs : Value) (h : Hall) (set : List Plate) (H : Snap) (w : World) (hw : Holds H w) (hh : Hal H vm vb vt vo ve h) (hs : Sl H vs set) :
    Calls Tryz.prog 27 #[halV vm vb vt vo ve h, vs] w (PostV w (.tuple #[.int .i64 (extraA h set), .int .i64 (errL (askM (validHall h) (setOk set)) (leastA h (countsOf set)))])) := by
  cases hok : validHall h && setOk set
  · have hn : extraA h set = 0 := by unfold extraA; rw [hok]; rfl
    have hop := fun (W : World) (hW : Holds H W) => open_no vm vb vt vo ve h (setOk set) hok H W hW hh
    have he : (askM (validHall h) (setOk set) != 0) = true := by
      cases h1 : validHall h
      · rfl
      · rw [h1, Bool.true_and] at hok; rw [hok]; rfl
    have hee : errL (askM (validHall h) (setOk set)) (leastA h (countsOf set)) = askM (validHall h) (setOk set) := by
      unfold errL; rw [if_neg (by simpa using he)]
    rw [hn, hee]
    generalize askM (validHall h) (setOk set) = E at *
    clear hn hee
    go_enter Tryz.func27, Tryz.ntmps27
    go_upto_region 1 with (refine wpList_boxF rfl _ rfl (Ext.refl hw) ?_; intro B w1 H1 hle hx hB hBw; obtain ⟨hc0, hc1, hc2, hc3, hc4, hc5⟩ := cellsHal hB; clear hB hw; have hw1 := hx.holds)
    have hset := fun (W : World) (hW : Holds H1 W) => isSetM_any vs set H1 W hW (hs.mono hle)
    replace hop := fun (W : World) (hW : Holds H1 W) => hop W (hW.mono hle)
    replace hset := Lib.hid hset
    replace hop := Lib.hid hop
    go_cut [6, 7] (fun p e wc => ∃ B, p = .pointer (some ⟨B, 0, none⟩) ∧ e = .int .i64 E ∧ ∃ H2, SLe H1 H2 ∧ Ext w H wc H2 ∧ H2 B = some (.cells #[.slice none 0 0, .slice none 0 0, .slice none 0 0, .int .i64 0, .slice none 0 0, .slice none 0 0] 72 (0, 0)))
    case first =>
      go_region_held3 (fun w' => Holds H1 w' ∧ Ext w H w' H1)
        (first | assumption | exact ⟨by assumption, by assumption⟩ | (go_split_ands; exact ⟨Holds.drew (by assumption), Ext.drew (by assumption)⟩) | (go_split_ands; exact ⟨Holds.alloc (by assumption) _, Ext.alloc (by assumption) _⟩) | (go_split_ands; exact ⟨Holds.drew (Holds.alloc (by assumption) _), Ext.drew (Ext.alloc (by assumption) _)⟩))
        (first | (go_split_ands; go_at_call 63; refine (hset.out _ (by assumption)).mono ?_; rintro e wq0 ⟨rfl, hq0⟩; have k1 : Holds H1 wq0 := Holds.below (by assumption) hq0; have k2 : Ext w H wq0 H1 := Ext.step (by assumption) (hq0.mono (by assumption : Ext w H _ H1).below.size) k1; have kq0 := keep_hl (H := H1) (base := w.heap.size) hq0) | (go_split_ands; go_at_call 47; refine (hop.out _ (by assumption)).mono ?_; rintro e wq1 ⟨rfl, hq1⟩; have k1 : Holds H1 wq1 := Holds.below (by assumption) hq1; have k2 : Ext w H wq1 H1 := Ext.step (by assumption) (hq1.mono (by assumption : Ext w H _ H1).below.size) k1; have kq1 := keep_hl (H := H1) (base := w.heap.size) hq1) | (go_split_ands; refine upon_storeHl (cs' := #[.slice none 0 0, .slice none 0 0, .slice none 0 0, .int .i64 0, .slice none 0 0, .slice none 0 0]) (cs := #[.slice none 0 0, .slice none 0 0, .slice none 0 0, .int .i64 0, .slice none 0 0, .slice none 0 0]) (by first | exact HlV.new (by assumption) (Ext.below (by assumption)).size | exact kq1 _ _ (kq0 _ _ (HlV.new (by assumption) (Ext.below (by assumption)).size)) | exact kq1 _ _ (HlV.new (by assumption) (Ext.below (by assumption)).size) | exact kq0 _ _ (HlV.new (by assumption) (Ext.below (by assumption)).size) | exact HlV.new hw1.drew hx.below.size | exact kq1 _ _ (kq0 _ _ (HlV.new hw1.drew hx.below.size)) | exact kq1 _ _ (HlV.new hw1.drew hx.below.size) | exact kq0 _ _ (HlV.new hw1.drew hx.below.size)) (by rfl) (by simp [Value.oneCell']) (by first | assumption | exact Ext.alloc (by assumption) _ | exact Ext.alloc hx.drew _) (Nat.le_refl _) ?_; intro w7 r7 x7 hO7 hz7; have k7 := x7.holds))
      all_goals
        go_wp2_with fail
        go_meet
        exact ⟨_, rfl, rfl, _, Snap.le_put r7.free _, x7.freeze r7.base r7.at_, Snap.put_same _ _ _⟩
    case rest =>
      obtain ⟨B, rfl, rfl, H2, l2, x2, hput⟩ := hcut
      go_wp2
      go_ret2
      exact ⟨rfl, x2.below⟩
  · have hok2 := hok
    simp only [Bool.and_eq_true] at hok2
    obtain ⟨hvh, hst⟩ := hok2
    have hV := validHall_iff.1 hvh
    have hcn := countsOf_cn hst
    have hll : (countsOf set).length = 12 := hcn.len
    obtain ⟨am, cm, rfl, hm1, hm2⟩ := hh.hs.m.form
    obtain ⟨ab, cb, rfl, hb1, hb2⟩ := hh.hs.b.form
    obtain ⟨at', ct, rfl, ht1, ht2⟩ := hh.hs.t.form
    obtain ⟨ao, co, rfl, ho1, ho2⟩ := hh.bo.form
    obtain ⟨ae, ce, rfl, he1, he2⟩ := hh.ed.form
    obtain ⟨X, hX⟩ : ∃ X, Hid (X = leastA h (countsOf set)) := ⟨_, rfl⟩
    have hE : errL (askM (validHall h) (setOk set)) (leastA h (countsOf set)) = if X.isSome then 0 else 3 := by rw [hvh, hst, hX.out]; rfl
    have hR : extraA h set = extV (cntSum (countsOf set)) X := by
      unfold extraA; rw [hok, if_pos rfl, ← hX.out, platesOf_sum set (setOk_iff.1 hst).1]
      cases X <;> rfl
    have hXc : ∀ c, X = some c → Cn c := fun c e => by
      rw [hX.out] at e
      exact grownC_cn (fun l hl y hy => by
        obtain ⟨s, _, rfl⟩ := List.mem_map.1 hl
        exact needsA_cn hV y hy) hcn e
    have hfew : ∀ (L : List (List Shf)), Agree (L.map (·.map Shf.c)) (allA h) → (∀ l ∈ L, ∀ s ∈ l, Cn s.c) → grownC (L.map (·.map Shf.c)) (countsOf set) = X := fun L hag hL => by
      rw [hX.out]
      exact grownC_same (n := 12) (fun l hl y hy => by
        obtain ⟨q, hq, rfl⟩ := List.mem_map.1 hl
        obtain ⟨s, hs, rfl⟩ := List.mem_map.1 hy
        exact (hL q hq s hs).len) (allA_six hV) hcn.len hag.d1 hag.d2
    rw [hE, hR]
    clear hE hR
    have hop := fun (W : World) (hW : Holds H W) => open_yes _ _ _ _ _ h hvh H W hW hh
    go_enter Tryz.func27, Tryz.ntmps27
    go_upto_region 1 with (refine wpList_boxF rfl _ rfl (Ext.refl hw) ?_; intro B w1 H1 hle hx hB hBw; obtain ⟨hc0, hc1, hc2, hc3, hc4, hc5⟩ := cellsHal hB; clear hB hw; have hw1 := hx.holds)
    have hset := fun (W : World) (hW : Holds H1 W) => isSetM_any vs set H1 W hW (hs.mono hle)
    rw [hst] at hset
    replace hop := fun (W : World) (hW : Holds H1 W) => hop W (hW.mono hle)
    replace hset := Lib.hid hset
    replace hop := Lib.hid hop
    go_cut [6, 7] (fun p e wc => ∃ B, p = .pointer (some ⟨B, 0, none⟩) ∧ e = .int .i64 0 ∧ ∃ H2, SLe H1 H2 ∧ Ext w H wc H2 ∧ H2 B = some (.cells #[.slice am h.hs.ms.length cm, .slice ab h.hs.bs.length cb, .slice at' h.hs.ts.length ct, .int .i64 h.hs.ch, .slice ao h.bo.length co, .slice ae h.ed.length ce] 72 (0, 0)))
    case first =>
      go_region_held3 (fun w' => Holds H1 w' ∧ Ext w H w' H1)
        (first | assumption | exact ⟨by assumption, by assumption⟩ | (go_split_ands; exact ⟨Holds.drew (by assumption), Ext.drew (by assumption)⟩) | (go_split_ands; exact ⟨Holds.alloc (by assumption) _, Ext.alloc (by assumption) _⟩) | (go_split_ands; exact ⟨Holds.drew (Holds.alloc (by assumption) _), Ext.drew (Ext.alloc (by assumption) _)⟩))
        (first | (go_split_ands; go_at_call 63; refine (hset.out _ (by assumption)).mono ?_; rintro e wq0 ⟨rfl, hq0⟩; have k1 : Holds H1 wq0 := Holds.below (by assumption) hq0; have k2 : Ext w H wq0 H1 := Ext.step (by assumption) (hq0.mono (by assumption : Ext w H _ H1).below.size) k1; have kq0 := keep_hl (H := H1) (base := w.heap.size) hq0) | (go_split_ands; go_at_call 47; refine (hop.out _ (by assumption)).mono ?_; rintro e wq1 ⟨rfl, hq1⟩; have k1 : Holds H1 wq1 := Holds.below (by assumption) hq1; have k2 : Ext w H wq1 H1 := Ext.step (by assumption) (hq1.mono (by assumption : Ext w H _ H1).below.size) k1; have kq1 := keep_hl (H := H1) (base := w.heap.size) hq1) | (go_split_ands; refine upon_storeHl (cs' := #[.slice am h.hs.ms.length cm, .slice ab h.hs.bs.length cb, .slice at' h.hs.ts.length ct, .int .i64 h.hs.ch, .slice ao h.bo.length co, .slice ae h.ed.length ce]) (cs := #[.slice none 0 0, .slice none 0 0, .slice none 0 0, .int .i64 0, .slice none 0 0, .slice none 0 0]) (by first | exact HlV.new (by assumption) (Ext.below (by assumption)).size | exact kq1 _ _ (kq0 _ _ (HlV.new (by assumption) (Ext.below (by assumption)).size)) | exact kq1 _ _ (HlV.new (by assumption) (Ext.below (by assumption)).size) | exact kq0 _ _ (HlV.new (by assumption) (Ext.below (by assumption)).size) | exact HlV.new hw1.drew hx.below.size | exact kq1 _ _ (kq0 _ _ (HlV.new hw1.drew hx.below.size)) | exact kq1 _ _ (HlV.new hw1.drew hx.below.size) | exact kq0 _ _ (HlV.new hw1.drew hx.below.size)) (by rfl) (by simp [Value.oneCell']) (by first | assumption | exact Ext.alloc (by assumption) _ | exact Ext.alloc hx.drew _) (Nat.le_refl _) ?_; intro w7 r7 x7 hO7 hz7; have k7 := x7.holds))
      all_goals
        go_wp2_with fail
        go_meet
        exact ⟨_, rfl, rfl, _, Snap.le_put r7.free _, x7.freeze r7.base r7.at_, Snap.put_same _ _ _⟩
    case rest =>
      obtain ⟨B, rfl, rfl, H2, l2, x2, hput⟩ := hcut
      have hhc := (hh.mono hle).mono l2
      have hsc := (hs.mono hle).mono l2
      obtain ⟨d0, d1, d2, d3, d4, d5⟩ := cellsHal (h := h) hput
      have hw2 := x2.holds
      replace hfew := Lib.hid hfew
      have hXl := getD_len hXc
      have sX : (shC (X.getD zero12)).size = 12 := by rw [shC_size, hXl]
      go_upto_region 4 with fail
      go_cut [8, 9] (fun p b wc => ∃ R, p = .pointer (some ⟨R, 0, none⟩) ∧ b = .bool X.isSome ∧ ShV H2 w.heap.size wc R (X.getD zero12) ∧ Ext w H wc H2)
      case first =>
        go_region_held3 (fun w' => Holds H2 w' ∧ Ext w H w' H2)
          (first | assumption | exact ⟨by assumption, by assumption⟩ | (go_split_ands; exact ⟨Holds.drew (by assumption), Ext.drew (by assumption)⟩) | (go_split_ands; exact ⟨Holds.alloc (by assumption) _, Ext.alloc (by assumption) _⟩) | (go_split_ands; exact ⟨Holds.drew (Holds.alloc (by assumption) _), Ext.drew (Ext.alloc (by assumption) _)⟩))
          (first
            | (go_split_ands; go_at_call 65; refine (shelved_any vs set H2 _ (by assumption) hsc hst).mono ?_; rintro e w3 ⟨rfl, hb3⟩; have k1 : Holds H2 w3 := Holds.below (by assumption) hb3; have k2 : Ext w H w3 H2 := Ext.step (by assumption) (hb3.mono (by assumption : Ext w H _ H2).below.size) k1; have ka := keep_sh (H := H2) (base := w.heap.size) hb3)
            | (go_split_ands; go_at_call 56; refine (all_any _ _ _ _ _ h hV H2 _ (by assumption) hhc).mono ?_; rintro e w4 ⟨v4, H4, rfl, x4, L, s4, hag, hcl⟩; obtain ⟨aL, cL, rfl, _, _⟩ := s4.form; have hf4 := hfew.out L hag hcl; have k4 := x4.holds; have k1 : Holds H2 w4 := x4.old (by assumption); have k2 : Ext w H w4 H2 := Ext.step (by assumption) (x4.below.mono (by assumption : Ext w H _ H2).below.size) k1; have kb := keep_sh (H := H2) (base := w.heap.size) x4.below)
            | (go_split_ands; go_at_call 55; refine (fewest_any L (countsOf set) hcn hcl _ H4 _ (by first | assumption | exact Holds.alloc (by assumption) _) s4).mono ?_; rw [hf4]; unfold fewV; rintro e w6 ⟨rfl, hb6⟩; have k1 : Holds H2 w6 := Holds.below (by first | assumption | exact Holds.alloc (by assumption) _) hb6; have k2 : Ext w H w6 H2 := Ext.step (by first | assumption | exact Ext.alloc (by assumption) _) (hb6.mono (by first | exact (by assumption : Ext w H _ H2).below.size | exact (Ext.alloc (by assumption : Ext w H _ H2) _).below.size)) k1; have kf := keep_sh (H := H2) (base := w.heap.size) hb6)
            | (go_split_ands; refine upon_storeSh (c := zero12) (by first | exact ShV.new (by assumption) (Ext.below (by assumption)).size | exact kf _ _ (ShV.new (by assumption) (Ext.below (by assumption)).size) | exact kf _ _ (kb _ _ (ShV.new (by assumption) (Ext.below (by assumption)).size)) | exact kf _ _ (kb _ _ (ka _ _ (ShV.new hw2.drew x2.below.size)))) (by rfl) hXl (by first | assumption | exact Ext.alloc (by assumption) _) (Nat.le_refl _) ?_; intro w7 r7 x7 hO7 hz7; have k7 := x7.holds))
        all_goals
          go_wp2_with fail
          go_meet
          exact ⟨_, rfl, rfl, r7, x7⟩
      case rest =>
        obtain ⟨R, rfl, rfl, hrR, x5⟩ := hcut
        have hw5 := x5.holds
        clear hfew hop hset hw2 x2
        cases X with
        | none =>
          simp only [Option.isSome_none, Option.getD_none] at *
          go_wp2
          go_ret2
          exact ⟨rfl, x5.below⟩
        | some c =>
          have hcc : Cn c := hXc c rfl
          simp only [Option.isSome_some, Option.getD_some] at *
          have hlR := mid_row hrR.at_ hXl
          have b1 := hcc.sum
          have b2 := hcn.sum
          go_wp2_with (first | (go_at_call 65; refine (shelved_any vs set H2 _ hw6 hsc hst).mono ?_; rintro e w7 ⟨rfl, hb7⟩; have hw7 := hw6.below hb7) | (go_at_call_of 73 (Value.agg (shC c)); refine (many_any c hcc H2 _ hw5).mono ?_; rintro e w6 ⟨rfl, hb6⟩; have hw6 := hw5.below hb6) | (go_at_call 73; refine (many_any (countsOf set) hcn H2 _ hw7).mono ?_; rintro e w8 ⟨rfl, hb8⟩))
          go_ret2
          exact ⟨rfl, x5.below.trans (((hb6.mono x5.below.size).trans (hb7.mono (by have := hb6.size; have := x5.below.size; omega))).trans (hb8.mono (by have := hb7.size; have := hb6.size; have := x5.below.size; omega)))⟩

end Go.Proofs.YtngdppajailpcaaGreat

namespace Go.Proofs.YtngdppajailpcaaGreat
open Go.RowKit

attribute [local go_sem] Holds.drew Holds.alloc Holds.drewN WB.holds Oper.semAt_some FW_fn FW_dep FW_round run_loadShV run_indexShV run_indexRow
attribute [local go_sem ↓] loadAt_sh index_sh index_row

theorem fewestM_any (vm vb vt vo ve : Value) (h : Hall) (H : Snap) (w : World) (hw : Holds H w) (hh : Hal H vm vb vt vo ve h) :
    Calls Tryz.prog 14 #[halV vm vb vt vo ve h] w (PostV w (.tuple #[.int .i64 (fewestA h), .int .i64 (errF h)])) := by
  have hE : errL (askM (validHall h) (setOk [])) (leastA h (countsOf [])) = errF h := by
    unfold errF; cases validHall h <;> rfl
  have hX := fun (H : Snap) (w : World) hw hh => extra_any vm vb vt vo ve (.slice none 0 0) h [] H w hw hh (Sl.nil0 H)
  rw [hE] at hX
  replace hX := Lib.hid hX
  clear hE
  go_enter Tryz.func14, Tryz.ntmps14
  go_wp2_with (first | (refine wpList_boxF rfl _ rfl (Ext.refl hw) ?_; intro B w1 H1 hle hx hB hBw; obtain ⟨hc0, hc1, hc2, hc3, hc4, hc5⟩ := cellsHal hB; clear hB hw; have hw1 := hx.holds) | (go_at_call 27; refine (hX.out H1 _ hw1 (hh.mono hle)).mono ?_; rintro e w' ⟨rfl, hb2⟩))
  go_ret2
  exact ⟨rfl, hx.below.trans (hb2.mono hx.below.size)⟩

end Go.Proofs.YtngdppajailpcaaGreat

namespace Go.Proofs.YtngdppajailpcaaGreat
open Go.RowKit

attribute [local go_sem] Holds.drew Holds.alloc Holds.drewN WB.holds Oper.semAt_some FW_fn FW_dep FW_round

theorem setCell_id {w : World} {a : Addr} {v : Value} (h : w.cell? a = some v) : w.setCell a v = w := by
  have e : (w.setCell a v).heap = w.heap := by
    apply Array.ext_getElem?
    intro i
    show (w.heap.modify a.block _)[i]? = _
    rw [Array.getElem?_modify]
    split
    · rename_i hi
      subst hi
      unfold World.cell? at h
      cases hb : w.heap[a.block]? with
      | none => rfl
      | some o =>
        rw [hb] at h
        cases o with
        | cells cs t fr =>
          simp only at h
          split at h
          · cases h
          · rename_i hs
            have hs' : a.spot.isSome = false := by simpa using hs
            simp only [Option.map_some, hs', Bool.false_eq_true, if_false, Option.some.injEq]
            congr 1
            apply Array.ext_getElem?
            intro j
            rw [Array.getElem?_setIfInBounds]
            split
            · rename_i hj; subst hj
              split
              · exact h.symm
              · rename_i hlt; rw [Array.getElem?_eq_none (by omega)] at h; cases h
            · rfl
        | _ => rfl
    · rfl
  calc w.setCell a v = { w with heap := (w.setCell a v).heap } := rfl
    _ = { w with heap := w.heap } := by rw [e]
    _ = w := rfl

set_option maxRecDepth 100000 in
theorem cloneM_any (va : Value) (xs : List Mach) (H : Snap) (w : World) (hw : Holds H w) (ha : Sl H va xs) (hl : xs.length ≤ 1000000) :
    Calls Tryz.prog 61 #[va] w (PostO w H 97 xs) := by
  have ha' := ha
  have heq : ∀ (w : World) (a : Option Addr) (n c n' c' : Nat), _ := fun w a n c n' c' => Go.Lib.run_eql_slice_nil (P := Tryz.prog) w 22 97 a n c n' c' Tryz.underlying22
  obtain ⟨aa, ca, rfl, ha1, ha2, ha3, h5⟩ := ha
  cases aa with
  | none =>
    have hx : xs = [] := by
      rcases h5 with h | ⟨b, o, cur, e, fr, h, _⟩
      · exact h
      · cases h
    subst hx
    go_enter Tryz.func61, Tryz.ntmps61
    go_wp2
    go_ret
    exact ⟨_, H, rfl, Ext.refl hw, Own.nil _ _ _ _⟩
  | some a =>
    clear h5
    go_enter Tryz.func61, Tryz.ntmps61
    go_wp2_with (first | ((refine wpList_appX (w0 := w) (H0 := H) eMach rfl _ _ rfl ((Ext.refl hw).alloc _) rfl (Own.emptyAt (heap_alloc_new _ _) (Nat.le_refl _) (hw.none_of_ge (Nat.le_refl _))) rfl ha' (by simp [Enc.by_]; omega) (by simp; omega) ?_; intro vB wB hownB hxB hwB hgB; rw [List.nil_append] at hownB)))
    go_ret
    exact ⟨_, H, rfl, hxB, hownB⟩

theorem calm_valid {h : Hall} (hv : ValidH h) : ValidH (calmH h) := by
  have hl : (calmH h).hs.ms.length = h.hs.ms.length := List.length_map _
  refine ⟨⟨by rw [hl]; exact hv.hs.m1, by rw [hl]; exact hv.hs.m3, hv.hs.t4, hv.hs.b5, hv.hs.ch, ?_, hv.hs.ts, hv.hs.bs⟩, by rw [hl]; exact hv.bo, hv.e4, hv.bos, hv.eds, hv.bes⟩
  rw [List.all_eq_true]
  intro m hm
  obtain ⟨x, hx, rfl⟩ := List.mem_map.1 hm
  have h1 := List.all_eq_true.1 hv.hs.ms x hx
  simp only [okMach, Bool.and_eq_true, within_iff] at h1 ⊢
  omega
/-- What Calm answers. -/
def calmA (h : Hall) : Int := if validHall h then fewestA (calmH h) else 0
def calmE (h : Hall) : Int := if validHall h then errF (calmH h) else 90

set_option maxRecDepth 100000 in
set_option maxHeartbeats 4000000 in
theorem calmM_any (vm vb vt vo ve : Value) (h : Hall) (H : Snap) (w : World) (hw : Holds H w) (hh : Hal H vm vb vt vo ve h) :
    Calls Tryz.prog 19 #[halV vm vb vt vo ve h] w (PostV w (.tuple #[.int .i64 (calmA h), .int .i64 (calmE h)])) := by
  cases hv : validHall h
  · have e1 : calmA h = 0 := by unfold calmA; rw [hv]; rfl
    have e2 : calmE h = 90 := by unfold calmE; rw [hv]; rfl
    rw [e1, e2]
    have hop := fun (W : World) (hW : Holds H W) => open_no vm vb vt vo ve h true (by rw [hv]; rfl) H W hW hh
    rw [hv, show askM false true = 90 from rfl] at hop
    replace hop := Lib.hid hop
    clear e1 e2
    go_enter Tryz.func19, Tryz.ntmps19
    go_wp2_with (first | (refine wpList_boxF rfl _ rfl (Ext.refl hw) ?_; intro B w1 H1 hle hx hB hBw; obtain ⟨hc0, hc1, hc2, hc3, hc4, hc5⟩ := cellsHal hB; clear hB hw; have hw1 := hx.holds) | (go_at_call 47; refine (hop.out _ (hw1.mono hle)).mono ?_; rintro e w2 ⟨rfl, hb2⟩; have x2 := (hx.step (hb2.mono hx.below.size) (hw1.below hb2))))
    go_ret2
    exact ⟨rfl, (x2.alloc _).below⟩
  · have hV := validHall_iff.1 hv
    have e1 : calmA h = fewestA (calmH h) := by unfold calmA; rw [hv]; rfl
    have e2 : calmE h = errF (calmH h) := by unfold calmE; rw [hv]; rfl
    have hm3 := hV.hs.m3
    have hcl : (calmH h).hs.ms.length = h.hs.ms.length := List.length_map _
    rw [e1, e2]
    have hop := fun (W : World) (hW : Holds H W) => open_yes _ _ _ _ _ h hv H W hW hh
    replace hop := Lib.hid hop
    clear e1 e2
    obtain ⟨am, cm, rfl, hm1, hm2⟩ := hh.hs.m.form
    obtain ⟨ab, cb, rfl, hb1, hb2⟩ := hh.hs.b.form
    obtain ⟨at', ct, rfl, ht1, ht2⟩ := hh.hs.t.form
    obtain ⟨ao, co, rfl, ho1, ho2⟩ := hh.bo.form
    obtain ⟨ae, ce, rfl, he1, he2⟩ := hh.ed.form
    go_enter Tryz.func19, Tryz.ntmps19
    go_upto_region 1 with (refine wpList_boxF rfl _ rfl (Ext.refl hw) ?_; intro B w1 H1 hle hx hB hBw; have hBn : H B = none := hw.none_of_ge hBw)
    replace hB : H1 B = some (.cells #[.slice am h.hs.ms.length cm, .slice ab h.hs.bs.length cb, .slice at' h.hs.ts.length ct, .int .i64 h.hs.ch, .slice ao h.bo.length co, .slice ae h.ed.length ce] 29 (0, 0)) := hB
    obtain ⟨hc0, hc1, hc2, hc3, hc4, hc5⟩ := cellsHal (h := h) hB
    have hw1 := hx.holds
    replace hB := Lib.hid hB
    go_upto_region 4 with (go_at_call 47; refine (hop.out _ (hw1.mono hle)).mono ?_; rintro e w2 ⟨rfl, hb2⟩; have x2 := hx.step (hb2.mono hx.below.size) (hw1.below hb2))
    have x3 := x2.alloc (.cells #[.slice am h.hs.ms.length cm, .slice ab h.hs.bs.length cb, .slice at' h.hs.ts.length ct, .int .i64 h.hs.ch, .slice ao h.bo.length co, .slice ae h.ed.length ce] 72)
    generalize w2.alloc (.cells #[.slice am h.hs.ms.length cm, .slice ab h.hs.bs.length cb, .slice at' h.hs.ts.length ct, .int .i64 h.hs.ch, .slice ao h.bo.length co, .slice ae h.ed.length ce] 72) = w3 at *
    have hr3 := x3.holds.at_ _ _ hB.out
    have x3' : Ext w H w3 H := ⟨x3.below, x3.holds.mono hle, fun _ _ => rfl⟩
    have hw3 := x3'.holds
    have hBl : B < w3.heap.size := (Array.getElem?_eq_some_iff.1 hr3).1
    have c0 := cell_of_row w3 B 0 _ _ _ hr3
    simp at c0
    clear hc0 hc1 hc2 hc3 hc4 hc5 hB hb2 x2 x3 hx hw1 hop
    replace hr3 := Lib.hid hr3
    go_upto_region 5 with (go_at_call 61; refine (cloneM_any _ _ H _ hw3 hh.hs.m (by omega)).mono ?_; rintro e w4 ⟨v4, H4, rfl, x4, o4⟩; obtain ⟨a4, c4, rfl, _, _⟩ := o4.form; have hr4 := (x4.below.block B hBl).trans hr3.out; have k0 := cell_of_row w4 B 0 _ _ _ hr4; simp at k0; have hf4 : w4.frozen? ⟨B, 0, none⟩ = false := (by simp [World.frozen?, hr4]); replace hr4 := Lib.hid hr4)
    have hB4 : H4 B = none := (x4.same B hBl).trans hBn
    have x5 := (x3'.trans x4).setCell (a := ⟨B, 0, none⟩) hBw hB4 (.slice a4 h.hs.ms.length c4)
    have o5 := o4.setCell (a := ⟨B, 0, none⟩) (o4.ne_of_lt hBl) (.slice a4 h.hs.ms.length c4)
    have hr5 := heap_setCell_row (i := 0) hr4.out (.slice a4 h.hs.ms.length c4)
    simp at hr5
    have l4 := x4.le hw3
    have hb3 : w.heap.size ≤ w3.heap.size := x3'.below.size
    generalize w4.setCell ⟨B, 0, none⟩ (.slice a4 h.hs.ms.length c4) = w5 at *
    clear x3' x4 o4 hr3 hr4 k0 hf4 c0 hw3
    have q0 := cell_of_row w5 B 0 _ _ _ hr5
    simp at q0
    go_wp2
    go_loopw [25] (fun i wr => ∃ k : Nat, k ≤ h.hs.ms.length ∧ i = .int .i64 k ∧ Ext w H wr H4 ∧ Hid (wr.heap[B]? = some (.cells #[.slice a4 h.hs.ms.length c4, .slice ab h.hs.bs.length cb, .slice at' h.hs.ts.length ct, .int .i64 h.hs.ch, .slice ao h.bo.length co, .slice ae h.ed.length ce] 29 (0, 0))) ∧ Own H4 w3.heap.size wr 97 (.slice a4 h.hs.ms.length c4) (calmTo h k).hs.ms) (fun i _ => h.hs.ms.length - (intOf i).toNat)
    case atStart => exact ⟨0, Nat.zero_le _, rfl, x5, Lib.hid hr5, by rw [calmTo_zero]; exact o5⟩
    case round =>
      clear x5 o5 hr5 q0
      obtain ⟨k, hk, rfl, xr, hrB, hown⟩ := hrel
      have hwr := xr.holds
      have c0 := cell_of_row wr B 0 _ _ _ hrB.out
      simp at c0
      by_cases hlk : k < h.hs.ms.length
      · obtain ⟨m, hm⟩ := At.mk hlk
        have hmt := calmTo_at hm
        obtain ⟨g, c, ds, he, ⟨hd, i1, i2, i3⟩, hgb, hgn, hgl, hcl, hfz⟩ := hown.get hmt
        obtain ⟨g', c', he', _, _, _, _, hset⟩ := hown.at3 rfl hmt.lt
        rw [calmTo_len] at he he'
        cases he
        cases he'
        have z0 := hcl 0 (.int .i64 m.r) (by rw [hd]; rfl)
        have z1 := hcl 1 (.int .i64 m.p) (by rw [hd]; rfl)
        have z2 := hcl 2 (.int .i64 m.s) (by rw [hd]; rfl)
        simp only [Enc.sz, Nat.add_zero] at z0 z1 z2
        have hf2 := hfz (k * 3 + 2)
        have hs5 := hset { m with s := 0 } (.int .i64 m.r) (.int .i64 m.p) (.int .i64 0) (show MachRep _ _ from ⟨rfl, i1, i2, by show (-9223372036854775808 : Int) ≤ 0 ∧ (0 : Int) ≤ 9223372036854775807; omega⟩)
        rw [setCell_id z0, setCell_id z1] at hs5
        have hms : (calmTo h k).hs.ms.set k { m with s := 0 } = (calmTo h (k + 1)).hs.ms := congrArg (fun h => h.hs.ms) (calmTo_succ hm)
        rw [hms] at hs5
        have hgB : B ≠ g := by omega
        have x6 := xr.setCell (a := ⟨g, k * 3 + 2, none⟩) (Nat.le_trans hb3 hgb) hgn (.int .i64 0)
        have hr6 := (heap_setCell_off wr ⟨g, k * 3 + 2, none⟩ (.int .i64 0) hgB).trans hrB.out
        replace hs5 := Lib.hid hs5
        replace x6 := Lib.hid x6
        replace hr6 := Lib.hid hr6
        have hk0 : (0 : Int) ≤ (k : Int) := by omega
        have hk1 : (k : Int) < (h.hs.ms.length : Int) := by omega
        clear hset hcl hfz hms z0 z1 hd
        go_wp2
        go_roundw
        case rel => exact ⟨k + 1, by omega, by go_num, x6.out, hr6, hs5.out⟩
        case measure => simp [intOf]; omega
      · have hke : k = h.hs.ms.length := by omega
        rw [hke, calmTo_end] at hown
        obtain ⟨H7, x7, l7, s7, _⟩ := (hown.weaken hb3).close xr
        have c1 := cell_of_row wr B 1 _ _ _ hrB.out
        have c2 := cell_of_row wr B 2 _ _ _ hrB.out
        have c3 := cell_of_row wr B 3 _ _ _ hrB.out
        have c5 := cell_of_row wr B 5 _ _ _ hrB.out
        have c4' := cell_of_row wr B 4 _ _ _ hrB.out
        simp at c1 c2 c3 c4' c5
        have l47 := l4.trans l7
        have hh7 : Hal H7 (.slice a4 h.hs.ms.length c4) (.slice ab h.hs.bs.length cb) (.slice at' h.hs.ts.length ct) (.slice ao h.bo.length co) (.slice ae h.ed.length ce) (calmH h) := ⟨⟨s7, hh.hs.b.mono l47, hh.hs.t.mono l47, hh.hs.c⟩, hh.bo.mono l47, hh.ed.mono l47⟩
        have hfw := fewestM_any _ _ _ _ _ (calmH h) H7 wr x7.holds hh7
        replace hfw := Lib.hid hfw
        go_wp2_with (first | (go_at_call 14; refine (hfw.out).mono ?_; rintro e w9 ⟨rfl, hb9⟩))
        go_ret2
        exact ⟨rfl, x7.below.trans (hb9.mono x7.below.size)⟩

end Go.Proofs.YtngdppajailpcaaGreat

namespace Go.Proofs.YtngdppajailpcaaGreat
open Go.RowKit

attribute [local go_sem] Holds.drew Holds.alloc Holds.drewN WB.holds Oper.semAt_some FW_fn FW_dep FW_round

/-- A new block is frozen at once. -/
theorem Ext.newF {w0 w : World} {H0 H : Snap} (hx : Ext w0 H0 w H) (cs : Array Value) (t : TypeId) : Ext w0 H0 (w.alloc (.cells cs t)) (H.put w.heap.size (.cells cs t (0, 0))) ∧ SLe H (H.put w.heap.size (.cells cs t (0, 0))) ∧ (H.put w.heap.size (.cells cs t (0, 0))) w.heap.size = some (.cells cs t (0, 0)) :=
  ⟨(hx.alloc _).freeze hx.below.size (heap_alloc_new w _), Snap.le_put (hx.holds.none_of_ge (Nat.le_refl _)) _, Snap.put_same _ _ _⟩

theorem Row.turn {H H' : Snap} {base n0 b : Nat} {W W' : World} {t : TypeId} {xs : List Int} (h : Row H base W t b xs) (ht : Turn n0 W H W' H') : Row H' base W' t b xs :=
  let ⟨e, hn⟩ := ht.keep _ _ _ _ h.at_ h.free; ⟨e, h.base, hn⟩
theorem list4 {l : List Int} (h : l.length = 4) : ∃ a b c d, l = [a, b, c, d] := by
  match l, h with
  | [a, b, c, d], _ => exact ⟨a, b, c, d, rfl⟩
/-- The end of a function that holds a range over a function: the mark is come to. -/
theorem leavesM {F : Fence} {n : Nat} {P : Program} {fn : Func} {tmps : Array Value} {R : Ending → World → Prop} {D : Nat} {W : World} {v : Value} (hD : W.heap[D]? = some (.deferred (some []))) (hr : (results fn tmps).run P (W.putObj D (.deferred none)) = .ok v (W.putObj D (.deferred none))) (hR : R (.returned v) (W.putObj D (.deferred none))) :
    LeavesInM F n P fn tmps R [{ target := .collected D, args := #[] }] .returning W := ⟨by simp, .inl ⟨_, _, rfl, run_takeDeferred hD, ⟨v, hr, hR⟩⟩⟩
theorem below_putD {n0 D : Nat} {w W : World} {o : Obj} (h : Below n0 w W) (hD : n0 ≤ D) (hlt : D < W.heap.size) : Below n0 w (W.putObj D o) := h.grown (grownBy_putObj' W D o) (by omega) (fun k e => by cases e; exact hD)
theorem Cell.putD {H : Snap} {W : World} {base B D : Nat} {t : TypeId} {v : Value} {o : Obj} (h : Cell H W base B t v) (hne : B ≠ D) : Cell H (W.putObj D o) base B t v := ⟨(World.putObj_heap_other hne).trans h.at_, h.free, h.base⟩
theorem results_cell1 {P : Program} {fn : Func} {p : Tmp} {ty : TypeId} (h : fn.results = #[.cell p ty]) (tmps : Array Value) (w : World) (g : Nat) (v : Value) (hp : tmps.getD p undef = .pointer (some ⟨g, 0, none⟩)) (hc : w.cell? ⟨g, 0, none⟩ = some v) (hna : (isAgg ty).run P w = .ok false w) : (results fn tmps).run P w = .ok v w := by
  have hp' : tmps[p]?.getD undef = .pointer (some ⟨g, 0, none⟩) := by simpa using hp
  simp [results, h, hp', asAddr, loadVar, Sem.run_bind, hna, go_sem, hc]

theorem sub_bits : ∀ a b : Fin 16, (bits .andNot .u64 (a.val : Int) (b.val : Int) == 0) = decide (∀ k : Fin 4, a.val.testBit k.val = true → b.val.testBit k.val = true) := by decide +kernel
theorem ub_lt16 {l : List Int} (hl : ∀ x ∈ l, 0 ≤ x ∧ x ≤ 3) : ub l < 16 := by
  have h1 : ∀ x ∈ l, (0:Int) ≤ x := fun x hx => (hl x hx).1
  have h2 : ub l < 32 := ub_lt (n := 4) (by omega) (fun x hx => by have := hl x hx; omega)
  have h4 : (ub l).testBit 4 = false := by
    rw [ub_test h1]
    refine decide_eq_false fun hm => ?_
    have := hl _ hm; omega
  rw [Nat.testBit_eq_decide_div_mod_eq] at h4
  have := of_decide_eq_false h4
  omega
theorem andNot_zero {A S : List Int} (hA : ∀ x ∈ A, 0 ≤ x ∧ x ≤ 3) (hS : ∀ x ∈ S, 0 ≤ x ∧ x ≤ 3) : (bits .andNot .u64 (ub A : Nat) (ub S : Nat) == 0) = A.all (fun t => decide (t ∈ S)) := by
  have := sub_bits ⟨ub A, ub_lt16 hA⟩ ⟨ub S, ub_lt16 hS⟩
  simp only at this
  rw [this, Bool.eq_iff_iff, decide_eq_true_eq, List.all_eq_true]
  constructor
  · intro h x hx
    have hb := hA x hx
    have h1 := h ⟨x.toNat, by omega⟩
    simp only [ub_test (fun y hy => (hA y hy).1), ub_test (fun y hy => (hS y hy).1), Int.toNat_of_nonneg hb.1, decide_eq_true_eq] at h1
    exact decide_eq_true (h1 hx)
  · intro h k hk
    rw [ub_test (fun y hy => (hA y hy).1), decide_eq_true_eq] at hk
    rw [ub_test (fun y hy => (hS y hy).1)]
    exact h _ hk
theorem lateOf_mem {h : House} (hv : Valid h) (p : List (List Int)) : ∀ x ∈ lateOf h p, 0 ≤ x ∧ x ≤ 3 := by
  intro x hx
  unfold lateOf lateList at hx
  obtain ⟨i, hi, rfl⟩ := List.mem_map.1 hx
  have := List.mem_range.1 (List.mem_filter.1 hi).1
  have := hv.t4
  exact ⟨Int.natCast_nonneg i, by have : ((i : Nat) : Int) ≤ 3 := by omega
                                  exact this⟩


set_option maxRecDepth 100000 in
set_option maxHeartbeats 8000000 in
theorem sure_any (vm vb vt : Value) (h : House) (hv : Valid h) (S : List Int) (hS : ∀ x ∈ S, 0 ≤ x ∧ x ≤ 3) (H : Snap) (w : World) (hw : Holds H w) (hh : Hou H vm vb vt h) :
    Calls Tryz.prog 80 #[houV vm vb vt h, .int .u64 (ub S : Nat)] w (PostV w (.bool (sureB h S))) := by
  refine Calls.ofWide (r := none) (n := 3) (callsIn_of_wp_marks Tryz.func80 rfl trivial (wpIn_wide.2 ?_) rfl)
  simp only [Tryz.ntmps80, List.size_toArray, List.length_cons, List.length_nil, Nat.reduceAdd, Nat.reduceSub, Array.replicate_succ, Array.replicate_zero, List.push_toArray, List.append_toArray, List.nil_append, List.cons_append]
  go_upto_region 1 with (refine wpList_boxF rfl _ rfl (Ext.refl hw) ?_; intro B w1 H1 hle hx hB hBw; obtain ⟨hc0, hc1, hc2, hc3⟩ := cellsHou hB; clear hB hw; have hw1 := hx.holds)
  obtain ⟨hxU, hleU, hBU⟩ := hx.newF #[.int .u64 (ub S : Nat)] 114
  have hcell := Cell.new (W := w1.alloc (.cells #[.int .u64 (ub S : Nat)] 114)) (t := 4) hxU.holds hxU.below.size rfl (.bool false)
  have hxz := hxU.alloc (.cells #[.bool false] 4)
  rw [World.size_alloc] at hcell
  generalize H1.put w1.heap.size (.cells #[.int .u64 (ub S : Nat)] 114 (0, 0)) = H2 at *
  generalize (w1.alloc (.cells #[.int .u64 (ub S : Nat)] 114)).alloc (.cells #[.bool false] 4) = wz at *
  generalize w1.heap.size + 1 = RB at *
  generalize w1.heap.size = SB at *
  replace hc0 := lift hleU hc0
  replace hc1 := lift hleU hc1
  replace hc2 := lift hleU hc2
  replace hc3 := lift hleU hc3
  have hcS := fun (w : World) (hw : Holds H2 w) => cellH hBU hw 0
  simp at hcS
  have hhm := (hh.mono hle).mono hleU
  have hwz := hxz.holds
  clear hxU hleU hBU hx hle hw1
  go_step3
  go_wp2_with fail
  go_step3
  go_wp2_with (first | (go_at_call 114; refine (casesF_any _ _ _ _ H2 _ hwz hhm hv.m3).mono ?_; rintro e w3 ⟨lb, H3, rfl, hx3, hit⟩))
  have hw3 := hx3.holds
  have hle3 := hx3.le hwz
  have hx03 := hxz.trans hx3
  have hcell3 := (hcell.below hx3.below).snap ((hx3.same RB hcell.lt).trans hcell.free)
  clear hcell hxz hwz hx3
  refine (wpIn_wide (n := 3)).1 (wpIn_forO (k := 3) (H := H3) rfl (enters_of Tryz.func138 (by kernel_rfl) rfl) hw3 hit (fun _ _ _ e => by rw [show _ = _ from e]; rfl) (fun _ _ _ _ _ e => e)
    (J := fun Hc pre W => (Ext w H W Hc ∧ Cell Hc W w.heap.size RB 4 (.bool false)) ∧ pre.all (okCase h S) = true)
    (Jx := fun c Hc pre W => (c = .ret ∧ (Ext w H W Hc ∧ Cell Hc W w.heap.size RB 4 (.bool false))) ∧ pre.all (okCase h S) = false)
    (J2 := fun Hc pre x args a1 W => ((Ext w H W Hc ∧ Cell Hc W w.heap.size RB 4 (.bool false)) ∧ pre.all (okCase h S) = true) ∧ a1 = { tmps := #[houV vm vb vt h, .int .u64 (ub S : Nat), .pointer (some ⟨B, 0, none⟩), .pointer (some ⟨SB, 0, none⟩), .pointer (some ⟨RB, 0, none⟩), .int .i64 x, undef, undef, houV vm vb vt h, .func (.func 138) #[] lb, .int .i64 x, undef, undef, undef, undef, undef, undef, undef, undef, undef, undef, undef], defers := [] })
    (((Ext.abides hx03.below.size).and (Cell.abides _)).and (Abides.pure _)) (fun c => ?hJx) (fun _ _ _ => ((((Ext.abides hx03.below.size).and (Cell.abides _)).and (Abides.pure _)).and (Abides.pure _))) ⟨⟨hx03, hcell3⟩, rfl⟩ ?assign ?body ?done ?stop)
  case hJx => exact fun _ _ _ _ _ h _ ht => ⟨⟨h.1.1, ht.of_ext h.1.2.1 hx03.below.size, h.1.2.2.turn ht⟩, h.2⟩
  case assign =>
    rintro l Hc pre x W args hl hWc hlec ⟨⟨hxc, hcc⟩, hall⟩ rfl hpre
    gi_wp2
    exact ⟨hWc, ⟨⟨hxc, hcc⟩, hall⟩, by first | rfl | trivial⟩
  case body =>
    rintro l rc Hc pre x args a1 W hl hrc hWc hlec he hpre ⟨⟨⟨hxc, hcc⟩, hall⟩, rfl⟩
    have hhc := hhm.mono (hle3.trans hlec)
    have hd0 := lift (hle3.trans hlec) hc0
    have hd1 := lift (hle3.trans hlec) hc1
    have hd2 := lift (hle3.trans hlec) hc2
    have hd3 := lift (hle3.trans hlec) hc3
    have hdS := lift (hle3.trans hlec) hcS
    have hxm := casesOf_mem (hpre.subset (show x ∈ pre ++ [x] by simp))
    have hm3 := hv.m3
    have hxI : I64 x := by unfold I64; omega
    gi_wp2_with (gi_at_call 115; refine (Calls.wide (plansMk_any _ _ _ _ hv x hxI Hc W hWc hhc)).mono ?_; rintro e w4 ⟨lb2, H4, rfl, hx4, hit2⟩)
    have hw4 := hx4.holds
    have hle4 := hx4.le hWc
    have hrc4 := (hx4.below.block l (Array.getElem?_eq_some_iff.1 hrc).1).trans hrc
    have hhm4 := hhc.mono hle4
    refine wpIn_forN (k := 3) (H := H4) hrc4 rfl (enters_of Tryz.func139 (by kernel_rfl) rfl) hw4 hit2 (fun _ _ _ ⟨_, e, _⟩ => by rw [e]; rfl) (fun _ _ _ _ hle ⟨v, e, hs⟩ => ⟨v, e, hs.mono hle⟩)
      (J := fun Hd pr V => Ext W Hc V Hd ∧ (pr.any fun p => (lateOf h p).all fun t => decide (t ∈ S)) = false)
      (Jx := fun c Hd pr V => (c = .exit 1 ∧ Ext W Hc V Hd) ∧ (pr.any fun p => (lateOf h p).all fun t => decide (t ∈ S)) = true)
      (J2 := fun Hd pr y args a1 V => (Ext W Hc V Hd ∧ (pr.any fun p => (lateOf h p).all fun t => decide (t ∈ S)) = false) ∧ ∃ RX vp, Row Hd W.heap.size V 146 RX (readyP h y) ∧ a1 = { tmps := #[houV vm vb vt h, .int .u64 (ub S : Nat), .pointer (some ⟨B, 0, none⟩), .pointer (some ⟨SB, 0, none⟩), .pointer (some ⟨RB, 0, none⟩), .int .i64 x, undef, .pointer (some ⟨RX, 0, none⟩), houV vm vb vt h, .func (.func 138) #[] lb, .int .i64 x, houV vm vb vt h, .int .i64 x, .func (.func 139) #[] lb2, vp, arr (readyP h y), undef, undef, undef, undef, undef, undef], defers := [] })
      ((Ext.abides hx4.below.size).and (Abides.pure _)) (fun c => ?hJx2) (fun _ _ _ => ?hJ22) ⟨hx4, rfl⟩ ?assign2 ?body2 ?done2 ?stop2
    case hJx2 => exact fun _ _ _ _ _ h _ ht => ⟨⟨h.1.1, ht.of_ext h.1.2 hx4.below.size⟩, h.2⟩
    case hJ22 => exact fun _ _ _ _ _ ⟨h1, RX, vp, hr, e⟩ _ ht => ⟨⟨ht.of_ext h1.1 hx4.below.size, h1.2⟩, RX, vp, hr.turn ht, e⟩
    case assign2 =>
      rintro l2 Hd pr y V args hl2 hVd hled ⟨hxd, hany⟩ ⟨vp, rfl, hsp⟩ hpr
      obtain ⟨r0, r1, r2, r3, hr⟩ := list4 (readyP_len h y)
      rw [hr]
      simp only [arr, List.map_cons, List.map_nil]
      gi_wp2
      exact ⟨hVd.alloc _, ⟨hxd.alloc _, hany⟩, V.heap.size, vp, Row.new (xs := [r0, r1, r2, r3]) hVd hxd.below.size rfl, by first | rfl | trivial⟩
    case body2 =>
      rintro l2 rc2 Hd pr y args a1 V hl2 hrc2 hVd hled ⟨vp', rfl, hsp⟩ hpr ⟨⟨hxd, hany⟩, RX, vp, hrow, rfl⟩
      have hpl := plansOf_isPlan hv x y (hpr.subset (show y ∈ pr ++ [y] by simp))
      have hVf := hVd.put hrow.at_
      have hlef := Snap.le_put hrow.free (.cells ((readyP h y).map (Value.int .i64)).toArray 146 (0, 0))
      have hput := Snap.put_same Hd RX (.cells ((readyP h y).map (Value.int .i64)).toArray 146 (0, 0))
      generalize Hd.put RX (.cells ((readyP h y).map (Value.int .i64)).toArray 146 (0, 0)) = Hf at *
      have hle4f := (hle4.trans hled).trans hlef
      have hhf := hhc.mono hle4f
      have hlate := fun (z : WB Hf V) => lateL_any vm vb vt h (readyP h y) Hf z.w z.h hhf hv.t4 (readyP_len h y) (readyP_bd hv hpl)
      rw [late_spec hv hpl] at hlate
      obtain ⟨r0, r1, r2, r3, hr⟩ := list4 (readyP_len h y)
      rw [hr] at hlate hput ⊢
      simp only [arr, List.map_cons, List.map_nil] at hlate ⊢
      have g0 := fun (w : World) (hw : Holds Hf w) => cellH hput hw 0
      have g1 := fun (w : World) (hw : Holds Hf w) => cellH hput hw 1
      have g2 := fun (w : World) (hw : Holds Hf w) => cellH hput hw 2
      have g3 := fun (w : World) (hw : Holds Hf w) => cellH hput hw 3
      simp at g0 g1 g2 g3
      have e0 := lift hle4f hd0
      have e1 := lift hle4f hd1
      have e2 := lift hle4f hd2
      have e3 := lift hle4f hd3
      have eS := lift hle4f hdS
      have hz := andNot_zero (lateOf_mem hv y) hS
      clear hr hd0 hd1 hd2 hd3 hc0 hc1 hc2 hc3 hdS hcS
      obtain ⟨lt, hlt⟩ : ∃ lt, Hid (lateOf h y = lt) := ⟨_, rfl⟩
      rw [hlt.out] at hz hlate
      cases hb : lt.all fun t => decide (t ∈ S)
      all_goals
        rw [hb] at hz
        gi_wp2
        have hne : Nonempty (WB Hf V) := ⟨⟨V, hVf, Below.refl _ _⟩⟩
        refine wpIn_region_q (C := fun w' => ∃ x : WB Hf V, w' = x.w) (by kernel_rfl) (by kernel_rfl) (by kernel_rfl) ⟨⟨V.drew, hVf.drew, (Below.refl _ _).drew⟩, rfl⟩ ?_
        repeat go_big_quiet_step ((go_at_call 116; exact Calls.quietB (hlate _)))
        refine wpQuiet_nil ?_
        clear hne
        rintro V2 ⟨⟨_, hV2, hb2⟩, rfl⟩
        gi_wp2
      · exact ⟨hV2.mono hlef, hxd.step (hb2.mono hxd.below.size) (hV2.mono hlef), by rw [List.any_append, hany]; simp only [List.any_cons, List.any_nil]; rw [hlt.out, hb]; rfl⟩
      · exact ⟨hV2.mono hlef, ⟨rfl, hxd.step (hb2.mono hxd.below.size) (hV2.mono hlef)⟩, by rw [List.any_append]; simp only [List.any_cons, List.any_nil]; rw [hlt.out, hb]; simp⟩
    case done2 =>
      rintro Hd V hVd hled ⟨hxd, hany⟩
      have hVc := hVd.mono (hle4.trans hled)
      have hccV := hcc.below hxd.below
      have hcf := hccV.cell
      have hff := hccV.fz
      gi_wp2
      refine ⟨hVc.setCell hcc.free _, ⟨rfl, (hxc.step (hxd.below.mono hxc.below.size) hVc).setCell hcc.base hcc.free _, hccV.set _⟩, ?_⟩
      rw [List.all_append]; simp only [List.all_cons, List.all_nil]
      rw [show okCase h S x = false from hany]; simp
    case stop2 =>
      rintro c Hd pr V hVd hled hpr ⟨⟨rfl, hxd⟩, hany⟩
      have hVc := hVd.mono (hle4.trans hled)
      have hccV := hcc.below hxd.below
      gi_wp2
      refine ⟨hVc, ⟨hxc.step (hxd.below.mono hxc.below.size) hVc, hccV⟩, ?_⟩
      rw [List.all_append, hall]; simp only [List.all_cons, List.all_nil]
      have : okCase h S x = true := by
        unfold okCase
        rw [List.any_eq_true] at hany ⊢
        obtain ⟨p, hp, hpp⟩ := hany
        exact ⟨p, hpr.subset hp, hpp⟩
      rw [this]; rfl
  case done =>
    rintro D Hc W hD hWc hlec hDc ⟨⟨hxc, hcc⟩, hall⟩
    have hcf := hcc.cell
    have hff := hcc.fz
    have hDW := hWc.at_ _ _ hDc
    go_wp2_with fail
    rw [Exit.noGoto_ret]
    have hDlt := (Array.getElem?_eq_some_iff.1 hDW).1
    have hDW2 : (W.setCell ⟨RB, 0, none⟩ (.bool true)).heap[D]? = some (.deferred (some [])) := (Below.heap_setCell _ _ _ _ (by rintro rfl; rw [hcc.at_] at hDW; cases hDW)).trans hDW
    have hRD : RB ≠ D := by rintro rfl; rw [hcc.at_] at hDW; cases hDW
    have hx03s := hx03.below.size
    refine leavesM hDW2 (results_cell1 rfl _ _ RB (.bool true) rfl ((hcc.set (.bool true)).putD hRD).cell (by kernel_rfl)) ⟨by rw [sureB, hall], below_putD (hxc.below.setCell hcc.base _) (by omega) (by simp; omega)⟩
  case stop =>
    rintro D c Hc pre W hD hWc hlec hDc hpre ⟨⟨rfl, hxc, hcc⟩, hall⟩
    have hDW := hWc.at_ _ _ hDc
    have hDlt := (Array.getElem?_eq_some_iff.1 hDW).1
    have hRD : RB ≠ D := by rintro rfl; rw [hcc.at_] at hDW; cases hDW
    have hx03s := hx03.below.size
    gi_wp2
    rw [Exit.noGoto_ret]
    refine leavesM hDW (results_cell1 rfl _ _ RB (.bool false) rfl (hcc.putD hRD).cell (by kernel_rfl)) ⟨?_, below_putD hxc.below (by omega) (by omega)⟩
    have : sureB h S = false := by
      unfold sureB
      rw [List.all_eq_false] at hall ⊢
      obtain ⟨y, hy, hyf⟩ := hall
      exact ⟨y, hpre.subset hy, hyf⟩
    rw [this]

end Go.Proofs.YtngdppajailpcaaGreat

namespace Go.Proofs.YtngdppajailpcaaGreat
open Go.RowKit

def popc (u : Nat) : Nat := (List.range 4).countP fun i => u.testBit i

/-- How many numbers a list has, by its bits. -/
theorem popc_ub {l : List Int} (hl : ∀ x ∈ l, 0 ≤ x ∧ x ≤ 3) (hs : l.Pairwise (· < ·)) : popc (ub l) = l.length := by
  have h1 := setList_ub hl hs
  have h2 := congrArg List.length h1
  unfold setList setTo at h2
  rw [List.length_map] at h2
  unfold popc
  rw [List.countP_eq_length_filter, h2]
end Go.Proofs.YtngdppajailpcaaGreat

namespace Go.Proofs.YtngdppajailpcaaGreat
open Go.RowKit

attribute [local go_sem] Holds.drew Holds.alloc Holds.drewN WB.holds Oper.semAt_some FW_fn FW_dep FW_round

set_option maxRecDepth 100000 in
theorem cloneO_any (va : Value) (xs : List Int) (H : Snap) (w : World) (hw : Holds H w) (ha : Sl H va xs) (hl : xs.length ≤ 1000000) :
    Calls Tryz.prog 49 #[va] w (PostO w H 3 xs) := by
  have ha' := ha
  have heq : ∀ (w : World) (a : Option Addr) (n c n' c' : Nat), _ := fun w a n c n' c' => Go.Lib.run_eql_slice_nil (P := Tryz.prog) w 24 3 a n c n' c' Tryz.underlying24
  obtain ⟨aa, ca, rfl, ha1, ha2, ha3, h5⟩ := ha
  cases aa with
  | none =>
    have hx : xs = [] := by
      rcases h5 with h | ⟨b, o, cur, e, fr, h, _⟩
      · exact h
      · cases h
    subst hx
    go_enter Tryz.func49, Tryz.ntmps49
    go_wp2
    go_ret
    exact ⟨_, H, rfl, Ext.refl hw, Own.nil _ _ _ _⟩
  | some a =>
    clear h5
    go_enter Tryz.func49, Tryz.ntmps49
    go_wp2_with (first | ((refine wpList_appX (w0 := w) (H0 := H) eInt rfl _ _ rfl ((Ext.refl hw).alloc _) rfl (Own.emptyAt (heap_alloc_new _ _) (Nat.le_refl _) (hw.none_of_ge (Nat.le_refl _))) rfl ha' (by simp [Enc.by_]; omega) (by simp; omega) ?_; intro vB wB hownB hxB hwB hgB; rw [List.nil_append] at hownB)))
    go_ret
    exact ⟨_, H, rfl, hxB, hownB⟩

/-- 'append(v, x)' as one operation of a region, in a round. -/
theorem stepIn_appC {α : Type} [Enc α] {P : Program} {H : Snap} {base : Nat} {w : World} {t e : TypeId} {v : Value} {xs : List α} {ops : Array Oper} {o : Oper} {a : Act} {Q : Exit → Act → World → Prop} {K : Act → World → Prop} {E : Prop} {r : Option Nat} {k : Nat}
    (T : ElemT P t e α) (hgd : o.guard = none) (s y : Operand) (ho : o.op = .call { callee := .builtin .append, args := #[s, y], argTypes := #[t, t] })
    (hs : a.eval s = v) (hown : Own H base w e v xs) {x : α} {cs : List Value} {g c : Nat} (hy : a.eval y = .slice (some ⟨g, 0, none⟩) 1 c) (hx : Enc.rep H x cs) (hcs : ∀ (j : Nat) (u : Value), cs[j]? = some u → w.cell? ⟨g, j, none⟩ = some u) (hw : Holds H w) (hlen : (xs.length + 1) * Enc.by_ α ≤ 140737488355328) (h63 : xs.length + 1 ≤ 9223372036854775807) (hb : base ≤ w.heap.size)
    (h : ∀ v' w', Own H base w' e v' (xs ++ [x]) → w.grownBy w' v.ownBlock → Holds H w' → (v'.ownBlock = v.ownBlock ∨ v'.ownBlock = some w.heap.size) → K (a.put o.dst v') w') : if Region.wanted o (yielded ops a.tmps) = true then Oper.wpIn (FW r) k P o a w K Q else E := by
  obtain ⟨v', w', hr, h2, h3, h4, h5⟩ := run_appC (P := P) T o.type hown hx hcs hw hlen h63 hb c
  rw [if_pos (by simp [Region.wanted, hgd])]
  unfold Oper.wpIn
  refine ⟨fun _ _ => trivial, ?_⟩
  rw [Oper.semAt_eq _ _ _ (fun c e => by rw [ho] at e; cases e)]
  unfold execOp
  simp only [ho, resolve, invoke, builtin, Sem.run_bind, Sem.run_pure, Result.andThen_ok, List.map_toArray, List.map_cons, List.map_nil, hs, hy, hr]
  exact h v' w' h2 h3 h4 h5

/-! ### The least of the plans that have come -/

/-- After some plans: the least of the best, and how many trains are late by it. -/
def bestSpec (h : House) (pre : List (List (List Int))) (b : List (List Int)) (n : Int) : Prop :=
  (pre = [] ∧ b = [] ∧ n = (h.ts.length : Int) + 1) ∨ (pre ≠ [] ∧ b = firstBest (lateN h) pre ∧ n = (lateN h b : Nat))
theorem firstBest_snoc (f : List (List Int) → Nat) {pre : List (List (List Int))} (hp : pre ≠ []) (p : List (List Int)) : firstBest f (pre ++ [p]) = if f p < f (firstBest f pre) then p else firstBest f pre := by
  unfold firstBest
  rw [bst_append]
  have : (pre ++ [p]).getD 0 default = pre.getD 0 default := by
    cases pre with
    | nil => exact absurd rfl hp
    | cons x l => rfl
  rw [this]; rfl
theorem firstBest_one (f : List (List Int) → Nat) (p : List (List Int)) : firstBest f [p] = p := by
  unfold firstBest; simp [bst]
theorem bestSpec_step {h : House} {pre : List (List (List Int))} {b : List (List Int)} {n : Int} (s : bestSpec h pre b n) (p : List (List Int)) : bestSpec h (pre ++ [p]) (if ((lateN h p : Nat) : Int) < n then p else b) (if ((lateN h p : Nat) : Int) < n then ((lateN h p : Nat) : Int) else n) := by
  refine .inr ⟨by simp, ?_⟩
  rcases s with ⟨rfl, rfl, rfl⟩ | ⟨hne, rfl, rfl⟩
  · have := lateN_le h p
    rw [if_pos (by omega), if_pos (by omega), List.nil_append, firstBest_one]
    exact ⟨rfl, rfl⟩
  · rw [firstBest_snoc _ hne]
    by_cases e : lateN h p < lateN h (firstBest (lateN h) pre)
    · have e' : ((lateN h p : Nat) : Int) < (lateN h (firstBest (lateN h) pre) : Nat) := by omega
      simp only [if_pos e, if_pos e', and_self]
    · have e' : ¬ ((lateN h p : Nat) : Int) < (lateN h (firstBest (lateN h) pre) : Nat) := by omega
      simp only [if_neg e, if_neg e', and_self]
theorem bst_zero {f : List (List Int) → Nat} {b : List (List Int)} (hb : f b = 0) : ∀ (r : List (List (List Int))), bst f r b = b
  | [] => rfl
  | y :: r => by simp only [bst]; rw [if_neg (by omega)]; exact bst_zero hb r
theorem firstBest_stop {f : List (List Int) → Nat} {pre xs : List (List (List Int))} (hp : pre <+: xs) (hne : pre ≠ []) (hz : f (firstBest f pre) = 0) : firstBest f xs = firstBest f pre := by
  obtain ⟨r, rfl⟩ := hp
  unfold firstBest at hz ⊢
  rw [bst_append]
  have : (pre ++ r).getD 0 default = pre.getD 0 default := by
    cases pre with
    | nil => exact absurd rfl hne
    | cons x l => rfl
  rw [this]
  exact bst_zero hz r

/-! ### What the caller holds -/

/-- Frozen rows of the caller's own, apart from what the iterator holds. -/
structure Mine (base : Nat) (Hc Hj : Snap) (W : World) : Prop where
  holds : Holds Hj W
  own : ∀ b o, Hj b = some o → o.isCells = true ∧ Hc b = none ∧ base ≤ b

def BestS (base BB NB : Nat) (Hc : Snap) (W : World) (b : List (List Int)) (n : Int) : Prop :=
  ∃ Hj v, Cell Hc W base BB 27 v ∧ Cell Hc W base NB 3 (.int .i64 n) ∧ Mine base Hc Hj W ∧ Hj BB = none ∧ Hj NB = none ∧ Own Hj base W 24 v b ∧ (∀ g, v.ownBlock = some g → Hc g = none)

theorem Mine.turn {base n0 : Nat} {Hc Hc' Hj : Snap} {W W' : World} (m : Mine base Hc Hj W) (ht : Turn n0 W Hc W' Hc') : Mine base Hc' Hj W' := by
  have key : ∀ b o, Hj b = some o → W'.heap[b]? = some o ∧ Hc' b = none := fun b o e => by
    obtain ⟨hc, hn, _⟩ := m.own b o e
    have hb := m.holds.at_ b o e
    cases o with
    | cells cs t fr => exact ht.keep b cs t fr hb hn
    | _ => cases hc
  exact ⟨⟨fun b o e => (key b o e).1⟩, fun b o e => ⟨(m.own b o e).1, (key b o e).2, (m.own b o e).2.2⟩⟩
theorem Own.turn {α : Type} [Enc α] {n0 base : Nat} {Hc Hc' Hj : Snap} {W W' : World} {e : TypeId} {v : Value} {xs : List α} (h : Own Hj base W e v xs) (hn : ∀ g, v.ownBlock = some g → Hc g = none) (ht : Turn n0 W Hc W' Hc') :
    Own Hj base W' e v xs ∧ (∀ g, v.ownBlock = some g → Hc' g = none) := by
  obtain ⟨cells, ⟨hl, ho⟩, hr, hf, hb⟩ := h
  rcases ho with ⟨rfl, hz⟩ | ⟨g, cap, cur, rfl, hbg, hg, rest⟩
  · exact ⟨⟨cells, ⟨hl, .inl ⟨rfl, hz⟩⟩, hr, hf, hb⟩, fun g e => by cases e⟩
  · obtain ⟨h1, h2⟩ := ht.keep g cur e _ hg (hn g rfl)
    exact ⟨⟨cells, ⟨hl, .inr ⟨g, cap, cur, rfl, hbg, h1, rest⟩⟩, hr, hf, hb⟩, fun g' e => by cases e; exact h2⟩
theorem BestS.turn {base BB NB n0 : Nat} {Hc Hc' : Snap} {W W' : World} {b : List (List Int)} {n : Int} (s : BestS base BB NB Hc W b n) (ht : Turn n0 W Hc W' Hc') : BestS base BB NB Hc' W' b n := by
  obtain ⟨Hj, v, c1, c2, m, n1, n2, ho, hn⟩ := s
  obtain ⟨ho', hn'⟩ := ho.turn hn ht
  exact ⟨Hj, v, c1.turn ht, c2.turn ht, m.turn ht, n1, n2, ho', hn'⟩

theorem Own.type_ne {α : Type} [Enc α] {Hj Hc : Snap} {base base' B : Nat} {W : World} {e t : TypeId} {v u : Value} {xs : List α} (h : Own Hj base W e v xs) (c : Cell Hc W base' B t u) (ne : e ≠ t) : v.ownBlock ≠ some B := by
  intro hv
  obtain ⟨cur, h1⟩ := h.row_type hv
  rw [c.at_] at h1
  simp only [Option.some.injEq, Obj.cells.injEq] at h1
  exact ne h1.2.1.symm
theorem Own.snapMono {α : Type} [Enc α] {H H' : Snap} {base : Nat} {W : World} {e : TypeId} {v : Value} {xs : List α} (h : Own H base W e v xs) (hle : SLe H H') (hn : ∀ k, v.ownBlock = some k → H' k = none) : Own H' base W e v xs := by
  obtain ⟨cells, ho, hr, _, hb⟩ := h
  exact ⟨cells, ho, hr.mono hle, hn, hb⟩
theorem Own.intSnap {H H' : Snap} {base : Nat} {W : World} {e : TypeId} {v : Value} {xs : List Int} (h : Own H base W e v xs) (hn : ∀ k, v.ownBlock = some k → H' k = none) : Own H' base W e v xs := by
  obtain ⟨cells, ho, hr, _, hb⟩ := h
  exact ⟨cells, ho, reps_int.2 (reps_int.1 hr), hn, hb⟩
theorem Mine.below {base : Nat} {Hc Hj : Snap} {W W' : World} (m : Mine base Hc Hj W) (hb : Below W.heap.size W W') : Mine base Hc Hj W' := ⟨m.holds.below hb, m.own⟩
theorem Mine.empty (base : Nat) (Hc : Snap) (W : World) : Mine base Hc (fun _ => none) W := ⟨⟨fun _ _ h => by cases h⟩, fun _ _ h => by cases h⟩
/-- A fresh row is frozen. -/
theorem Mine.row {base : Nat} {Hc Hj H' : Snap} {W0 W : World} {e : TypeId} {v : Value} {xs : List Int} (m : Mine base Hc Hj W) (hj0 : Holds Hj W0) (hc0 : Holds Hc W0) (h : Own H' W0.heap.size W e v xs) (hbase : base ≤ W0.heap.size) :
    ∃ Hj', SLe Hj Hj' ∧ Mine base Hc Hj' W ∧ Sl Hj' v xs ∧ ∀ b, b < W0.heap.size → Hj' b = Hj b := by
  have h1 : Own Hj W0.heap.size W e v xs := h.intSnap (fun k hk => hj0.none_of_ge (h.lt k hk).1)
  obtain ⟨Hj', hle, hh, hs, hsame⟩ := h1.freeze m.holds
  refine ⟨Hj', hle, ⟨hh, fun b o eb => ?_⟩, hs, fun b hb => hsame b (fun e => by have := (h.lt b e).1; omega)⟩
  by_cases hv : v.ownBlock = some b
  · obtain ⟨cur, hr⟩ := h1.row_type hv
    have := hh.at_ b o eb
    rw [hr] at this
    cases this
    have hlt := (h.lt b hv).1
    exact ⟨rfl, hc0.none_of_ge hlt, by omega⟩
  · rw [hsame b hv] at eb; exact m.own b o eb
/-- What the caller hands back. -/
theorem Mine.finish {w W : World} {H Hc Hj : Snap} {e : TypeId} {v : Value} {xs : List (List Int)} (hw : Holds H w) (hB : Below w.heap.size w W) (m : Mine w.heap.size Hc Hj W) (h : Own Hj w.heap.size W e v xs) : ∃ H', Ext w H W H' ∧ Sl H' v xs := by
  obtain ⟨H2, hle, hh, hs, hsame⟩ := h.freeze m.holds
  have hge : ∀ b o, H2 b = some o → w.heap.size ≤ b := fun b o eb => by
    by_cases hv : v.ownBlock = some b
    · exact (h.lt b hv).1
    · rw [hsame b hv] at eb; exact (m.own b o eb).2.2
  refine ⟨fun b => if b < w.heap.size then H b else H2 b, ⟨hB, ⟨fun b o eb => ?_⟩, fun b hb => if_pos hb⟩, hs.mono fun b o eb => ?_⟩
  · by_cases hb : b < w.heap.size
    · rw [if_pos hb] at eb; exact (hB.block b hb).trans (hw.at_ _ _ eb)
    · rw [if_neg hb] at eb; exact hh.at_ _ _ eb
  · rw [if_neg (by have := hge b o eb; omega)]; exact eb
theorem Mine.setCell {base : Nat} {Hc Hj : Snap} {W : World} (m : Mine base Hc Hj W) {a : Addr} (ha : Hj a.block = none) (u : Value) : Mine base Hc Hj (W.setCell a u) := ⟨m.holds.setCell ha u, m.own⟩
theorem Mine.grown {base : Nat} {Hc Hj : Snap} {W W' : World} {row : Option Nat} (m : Mine base Hc Hj W) (hg : W.grownBy W' row) (hr : ∀ k, row = some k → Hj k = none) : Mine base Hc Hj W' := ⟨m.holds.grown hg hr, m.own⟩
theorem Mine.putD {base D : Nat} {Hc Hj : Snap} {W : World} {o o' : Obj} (m : Mine base Hc Hj W) (hD : W.heap[D]? = some o) (hc : o.isCells = false) : Mine base Hc Hj (W.putObj D o') :=
  ⟨⟨fun b ob eb => (World.putObj_heap_other (by rintro rfl; have h1 := m.holds.at_ _ _ eb; rw [hD] at h1; cases h1; have := (m.own _ _ eb).1; rw [hc] at this; cases this)).trans (m.holds.at_ _ _ eb)⟩, m.own⟩
theorem Own.putD {α : Type} [Enc α] {H : Snap} {base D : Nat} {W : World} {e : TypeId} {v : Value} {xs : List α} {o o' : Obj} (h : Own H base W e v xs) (hD : W.heap[D]? = some o) (hc : o.isCells = false) : Own H base (W.putObj D o') e v xs := by
  obtain ⟨cells, ⟨hl, ho⟩, rest⟩ := h
  refine ⟨cells, ⟨hl, ?_⟩, rest⟩
  rcases ho with hn | ⟨g, cap, cur, rfl, hbg, hg, r⟩
  · exact .inl hn
  · refine .inr ⟨g, cap, cur, rfl, hbg, (World.putObj_heap_other ?_).trans hg, r⟩
    rintro rfl; rw [hD] at hg; cases hg; cases hc
theorem results_cell2 {P : Program} {fn : Func} {p q : Tmp} {ty tz : TypeId} (h : fn.results = #[.cell p ty, .cell q tz]) (tmps : Array Value) (w : World) (g k : Nat) (v u : Value) (hp : tmps.getD p undef = .pointer (some ⟨g, 0, none⟩)) (hq : tmps.getD q undef = .pointer (some ⟨k, 0, none⟩)) (hc : w.cell? ⟨g, 0, none⟩ = some v) (hd : w.cell? ⟨k, 0, none⟩ = some u)
    (hna : (isAgg ty).run P w = .ok false w) (hnb : (isAgg tz).run P w = .ok false w) : (results fn tmps).run P w = .ok (.tuple #[v, u]) w := by
  have hp' : tmps[p]?.getD undef = .pointer (some ⟨g, 0, none⟩) := by simpa using hp
  have hq' : tmps[q]?.getD undef = .pointer (some ⟨k, 0, none⟩) := by simpa using hq
  simp [results, h, hp', hq', asAddr, loadVar, Sem.run_bind, hna, hnb, go_sem, hc, hd]

end Go.Proofs.YtngdppajailpcaaGreat
