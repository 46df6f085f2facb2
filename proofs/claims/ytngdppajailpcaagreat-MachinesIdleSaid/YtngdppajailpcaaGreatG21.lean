/- Lemmas and walks on which the claims of this seat lean: MLak MSet. -/
import Derived.Test.YtngdppajailpcaaGreatG17

set_option linter.all false

namespace Go.Proofs.YtngdppajailpcaaGreat
open Go.RowKit

attribute [local go_sem] Holds.drew Holds.alloc Holds.drewN WB.holds Oper.semAt_some FW_fn FW_dep FW_round run_loadShV run_indexShV run_indexRow
attribute [local go_sem ↓] loadAt_sh index_sh index_row storeAt_hl

/-- The first cases that lack some. -/
def lacksTo (h : Hall) (c : Cnt) (k : Nat) : List Int := ((casesOf h.hs).take k).filter fun i => !doesC c (needsA h i)
theorem lacksTo_succ {h : Hall} {c : Cnt} {k : Nat} {i : Int} (hi : At (casesOf h.hs) k i) : lacksTo h c (k + 1) = if doesC c (needsA h i) then lacksTo h c k else lacksTo h c k ++ [i] := by
  unfold lacksTo
  rw [hi.take, List.filter_append]
  simp only [List.filter_cons, List.filter_nil]
  cases doesC c (needsA h i) <;> simp
theorem lacksTo_len (h : Hall) (c : Cnt) (k : Nat) : (lacksTo h c k).length ≤ k := by
  unfold lacksTo
  exact Nat.le_trans (List.length_filter_le _ _) (by rw [List.length_take]; omega)

set_option maxRecDepth 100000 in
set_option maxHeartbeats 4000000 in
theorem lacksM_any (vm vb vt vo ve vs : Value) (h : Hall) (set : List Plate) (H : Snap) (w : World) (hw : Holds H w) (hh : Hal H vm vb vt vo ve h) (hs : Sl H vs set) :
    Calls Tryz.prog 24 #[halV vm vb vt vo ve h, vs] w (Post w H fun v H' => ∃ u, v = .tuple #[u, .int .i64 (askM (validHall h) (setOk set))] ∧ Sl H' u (lacksA h set)) := by
  cases hok : validHall h && setOk set
  · have hn : lacksA h set = [] := by unfold lacksA; rw [hok]; rfl
    have hop := fun (W : World) (hW : Holds H W) => open_no vm vb vt vo ve h (setOk set) hok H W hW hh
    have he : (askM (validHall h) (setOk set) != 0) = true := by
      cases h1 : validHall h
      · rfl
      · rw [h1, Bool.true_and] at hok; rw [hok]; rfl
    generalize askM (validHall h) (setOk set) = E at *
    go_enter Tryz.func24, Tryz.ntmps24
    go_upto_region 1 with (refine wpList_boxF rfl _ rfl (Ext.refl hw) ?_; intro B w1 H1 hle hx hB hBw; obtain ⟨hc0, hc1, hc2, hc3, hc4, hc5⟩ := cellsHal hB; clear hB hw; have hw1 := hx.holds)
    have hset := fun (W : World) (hW : Holds H1 W) => isSetM_any vs set H1 W hW (hs.mono hle)
    replace hop := fun (W : World) (hW : Holds H1 W) => hop W (hW.mono hle)
    replace hset := Lib.hid hset
    replace hop := Lib.hid hop
    go_cut [6, 7] (fun p e wc => ∃ B, p = .pointer (some ⟨B, 0, none⟩) ∧ e = .int .i64 E ∧ ∃ H2, SLe H1 H2 ∧ Ext w H wc H2 ∧ H2 B = some (.cells #[.slice none 0 0, .slice none 0 0, .slice none 0 0, .int .i64 0, .slice none 0 0, .slice none 0 0] 72 (0, 0)))
    case first =>
      first
      | go_region_held3 (fun w' => Holds H1 w' ∧ Ext w H w' H1)
          (first | assumption | exact ⟨by assumption, by assumption⟩ | (go_split_ands; exact ⟨Holds.drew (by assumption), Ext.drew (by assumption)⟩) | (go_split_ands; exact ⟨Holds.alloc (by assumption) _, Ext.alloc (by assumption) _⟩) | (go_split_ands; exact ⟨Holds.drew (Holds.alloc (by assumption) _), Ext.drew (Ext.alloc (by assumption) _)⟩))
          (first | (go_split_ands; go_at_call 47; refine (hop.out _ (by assumption)).mono ?_; rintro e wq1 ⟨rfl, hq1⟩; have k1 : Holds H1 wq1 := Holds.below (by assumption) hq1; have k2 : Ext w H wq1 H1 := Ext.step (by assumption) (hq1.mono (by assumption : Ext w H _ H1).below.size) k1; have kq1 := keep_hl (H := H1) (base := w.heap.size) hq1) | (go_split_ands; go_at_call 63; refine (hset.out _ (by assumption)).mono ?_; rintro e wq0 ⟨rfl, hq0⟩; have k1 : Holds H1 wq0 := Holds.below (by assumption) hq0; have k2 : Ext w H wq0 H1 := Ext.step (by assumption) (hq0.mono (by assumption : Ext w H _ H1).below.size) k1; have kq0 := keep_hl (H := H1) (base := w.heap.size) hq0) | (go_split_ands; refine upon_storeHl (cs' := #[.slice none 0 0, .slice none 0 0, .slice none 0 0, .int .i64 0, .slice none 0 0, .slice none 0 0]) (cs := #[.slice none 0 0, .slice none 0 0, .slice none 0 0, .int .i64 0, .slice none 0 0, .slice none 0 0]) (by first | exact HlV.new (by assumption) (Ext.below (by assumption)).size | exact kq1 _ _ (kq0 _ _ (HlV.new (by assumption) (Ext.below (by assumption)).size)) | exact kq1 _ _ (HlV.new (by assumption) (Ext.below (by assumption)).size) | exact kq0 _ _ (HlV.new (by assumption) (Ext.below (by assumption)).size) | exact HlV.new hw1.drew hx.below.size | exact kq1 _ _ (kq0 _ _ (HlV.new hw1.drew hx.below.size)) | exact kq1 _ _ (HlV.new hw1.drew hx.below.size) | exact kq0 _ _ (HlV.new hw1.drew hx.below.size)) (by rfl) (by simp [Value.oneCell']) (by first | assumption | exact Ext.alloc (by assumption) _ | exact Ext.alloc hx.drew _) (Nat.le_refl _) ?_; intro w7 r7 x7 hO7 hz7; have k7 := x7.holds))
      | fail
      all_goals
        go_wp2_with fail
        go_meet
        exact ⟨_, rfl, rfl, _, Snap.le_put r7.free _, x7.freeze r7.base r7.at_, Snap.put_same _ _ _⟩
    case rest =>
      obtain ⟨B, rfl, rfl, H2, l2, x2, hput⟩ := hcut
      go_wp2
      go_ret2
      exact post2_no x2 hn
  · have hok2 := hok
    simp only [Bool.and_eq_true] at hok2
    obtain ⟨hvh, hst⟩ := hok2
    have hV := validHall_iff.1 hvh
    have hcn := countsOf_cn hst
    have hm3 := hV.hs.m3
    obtain ⟨am, cm, rfl, hm1, hm2⟩ := hh.hs.m.form
    obtain ⟨ab, cb, rfl, hb1, hb2⟩ := hh.hs.b.form
    obtain ⟨at', ct, rfl, ht1, ht2⟩ := hh.hs.t.form
    obtain ⟨ao, co, rfl, ho1, ho2⟩ := hh.bo.form
    obtain ⟨ae, ce, rfl, he1, he2⟩ := hh.ed.form
    have hE : askM (validHall h) (setOk set) = 0 := by rw [hvh, hst]; rfl
    have hR : lacksA h set = lacksTo h (countsOf set) (casesOf h.hs).length := by unfold lacksA lacksTo; rw [hok, if_pos rfl, List.take_length]
    have hclen : (casesOf h.hs).length ≤ 4 := Nat.le_trans (casesTo_len h.hs _) (by omega)
    have hcm : ∀ c ∈ casesOf h.hs, -1 ≤ c ∧ c < h.hs.ms.length := fun c hc => casesOf_mem hc
    have hdo : ∀ (i : Int) (ss : List Shf), Dom (ss.map Shf.c) (needsA h i) → Dom (needsA h i) (ss.map Shf.c) → (∀ s ∈ ss, Cn s.c) → doesC (countsOf set) (ss.map Shf.c) = doesC (countsOf set) (needsA h i) := fun i ss d1 d2 hc =>
      doesC_dom hcn.len (fun y hy => by
        obtain ⟨s, hs, rfl⟩ := List.mem_map.1 hy
        exact (hc s hs).len) (needsA_six hV i) d1 d2
    rw [hE, hR]
    clear hE hR
    replace hdo := Lib.hid hdo
    replace hcm := Lib.hid hcm
    have hop := fun (W : World) (hW : Holds H W) => open_yes _ _ _ _ _ h hvh H W hW hh
    go_enter Tryz.func24, Tryz.ntmps24
    go_upto_region 1 with (refine wpList_boxF rfl _ rfl (Ext.refl hw) ?_; intro B w1 H1 hle hx hB hBw; obtain ⟨hc0, hc1, hc2, hc3, hc4, hc5⟩ := cellsHal hB; clear hB hw; have hw1 := hx.holds)
    have hset := fun (W : World) (hW : Holds H1 W) => isSetM_any vs set H1 W hW (hs.mono hle)
    rw [hst] at hset
    replace hop := fun (W : World) (hW : Holds H1 W) => hop W (hW.mono hle)
    replace hset := Lib.hid hset
    replace hop := Lib.hid hop
    go_cut [6, 7] (fun p e wc => ∃ B, p = .pointer (some ⟨B, 0, none⟩) ∧ e = .int .i64 0 ∧ ∃ H2, SLe H1 H2 ∧ Ext w H wc H2 ∧ H2 B = some (.cells #[.slice am h.hs.ms.length cm, .slice ab h.hs.bs.length cb, .slice at' h.hs.ts.length ct, .int .i64 h.hs.ch, .slice ao h.bo.length co, .slice ae h.ed.length ce] 72 (0, 0)))
    case first =>
      first
      | go_region_held3 (fun w' => Holds H1 w' ∧ Ext w H w' H1)
          (first | assumption | exact ⟨by assumption, by assumption⟩ | (go_split_ands; exact ⟨Holds.drew (by assumption), Ext.drew (by assumption)⟩) | (go_split_ands; exact ⟨Holds.alloc (by assumption) _, Ext.alloc (by assumption) _⟩) | (go_split_ands; exact ⟨Holds.drew (Holds.alloc (by assumption) _), Ext.drew (Ext.alloc (by assumption) _)⟩))
          (first | (go_split_ands; go_at_call 47; refine (hop.out _ (by assumption)).mono ?_; rintro e wq1 ⟨rfl, hq1⟩; have k1 : Holds H1 wq1 := Holds.below (by assumption) hq1; have k2 : Ext w H wq1 H1 := Ext.step (by assumption) (hq1.mono (by assumption : Ext w H _ H1).below.size) k1; have kq1 := keep_hl (H := H1) (base := w.heap.size) hq1) | (go_split_ands; go_at_call 63; refine (hset.out _ (by assumption)).mono ?_; rintro e wq0 ⟨rfl, hq0⟩; have k1 : Holds H1 wq0 := Holds.below (by assumption) hq0; have k2 : Ext w H wq0 H1 := Ext.step (by assumption) (hq0.mono (by assumption : Ext w H _ H1).below.size) k1; have kq0 := keep_hl (H := H1) (base := w.heap.size) hq0) | (go_split_ands; refine upon_storeHl (cs' := #[.slice am h.hs.ms.length cm, .slice ab h.hs.bs.length cb, .slice at' h.hs.ts.length ct, .int .i64 h.hs.ch, .slice ao h.bo.length co, .slice ae h.ed.length ce]) (cs := #[.slice none 0 0, .slice none 0 0, .slice none 0 0, .int .i64 0, .slice none 0 0, .slice none 0 0]) (by first | exact HlV.new (by assumption) (Ext.below (by assumption)).size | exact kq1 _ _ (kq0 _ _ (HlV.new (by assumption) (Ext.below (by assumption)).size)) | exact kq1 _ _ (HlV.new (by assumption) (Ext.below (by assumption)).size) | exact kq0 _ _ (HlV.new (by assumption) (Ext.below (by assumption)).size) | exact HlV.new hw1.drew hx.below.size | exact kq1 _ _ (kq0 _ _ (HlV.new hw1.drew hx.below.size)) | exact kq1 _ _ (HlV.new hw1.drew hx.below.size) | exact kq0 _ _ (HlV.new hw1.drew hx.below.size)) (by rfl) (by simp [Value.oneCell']) (by first | assumption | exact Ext.alloc (by assumption) _ | exact Ext.alloc hx.drew _) (Nat.le_refl _) ?_; intro w7 r7 x7 hO7 hz7; have k7 := x7.holds))
      | fail
      all_goals
        go_wp2_with fail
        go_meet
        exact ⟨_, rfl, rfl, _, Snap.le_put r7.free _, x7.freeze r7.base r7.at_, Snap.put_same _ _ _⟩
    case rest =>
      obtain ⟨B, rfl, rfl, H2, l2, x2, hput⟩ := hcut
      have hhc := (hh.mono hle).mono l2
      have hsc := (hs.mono hle).mono l2
      obtain ⟨d0, d1, d2, d3, d4, d5⟩ := cellsHal (h := h) hput
      have hw2 := x2.holds
      clear hop hset
      go_upto_region 5 with fail
      go_upto_region 6 with (go_at_call 71; refine (casesM_any _ _ _ _ _ h H2 _ hw2 hhc hm3).mono ?_; rintro e w3 ⟨v3, H3, rfl, x3, o3⟩; obtain ⟨a3, c3, rfl, _, _⟩ := o3.form)
      obtain ⟨H4, x4, l4, s4, _⟩ := (o3.weaken x2.below.size).close (x2.trans x3)
      have hw4 := x4.holds
      have l24 : SLe H2 H4 := (x3.le hw2).trans l4
      replace hhc := hhc.mono l24
      replace hsc := hsc.mono l24
      replace d0 := lift l24 d0
      replace d1 := lift l24 d1
      replace d2 := lift l24 d2
      replace d3 := lift l24 d3
      replace d4 := lift l24 d4
      replace d5 := lift l24 d5
      clear x3 o3 l4 hw2 x2 l24
      go_loopw [8, 24] (fun v i wr => ∃ (k : Nat) (acc : List Int), k ≤ (casesOf h.hs).length ∧ i = .int .i64 k ∧ Hid (acc = lacksTo h (countsOf set) k) ∧ acc.length ≤ k ∧ Ext w H wr H4 ∧ Own H4 w.heap.size wr 3 v acc) (fun _ i _ => (casesOf h.hs).length - (intOf i).toNat)
      case atStart => exact ⟨0, [], Nat.zero_le _, rfl, rfl, by simp, x4, Own.nil _ _ _ _⟩
      case round =>
        clear hw4 x4
        obtain ⟨k, acc, hk, rfl, hacc, hacl, xr, hown⟩ := hrel
        have hwr := xr.holds
        obtain ⟨av, cv, ev, _, _⟩ := hown.form
        subst ev
        by_cases hlk : k < (casesOf h.hs).length
        · obtain ⟨x, hx⟩ := At.mk hlk
          have hsI : I64 x := by have := hcm.out x hx.mem; unfold I64; omega
          obtain ⟨b, o, c, he, hi, hr⟩ := s4.int hx
          cases he
          have hsucc := lacksTo_succ (c := countsOf set) hx
          obtain ⟨D, hD⟩ : ∃ D, D = doesC (countsOf set) (needsA h x) := ⟨_, rfl⟩
          have hdx := hdo.out x
          rw [← hD] at hsucc hdx
          replace hsucc := Lib.hid hsucc
          replace hdx := Lib.hid hdx
          clear hD
          have hk0 : (0 : Int) ≤ (k : Int) := by omega
          have hk1 : (k : Int) < ((casesOf h.hs).length : Int) := by omega
          have hhr := hhc
          go_upto_region 8 with fail
          go_cut [34] (fun p wc => p = .bool (!D) ∧ Ext w H wc H4 ∧ Own H4 w.heap.size wc 3 (.slice av acc.length cv) acc)
          case first =>
            go_region_held3 (fun w' => Holds H4 w' ∧ Ext w H w' H4 ∧ Own H4 w.heap.size w' 3 (.slice av acc.length cv) acc)
              (first | assumption | exact ⟨by assumption, by assumption, by assumption⟩ | (go_split_ands; exact ⟨Holds.drew (by assumption), Ext.drew (by assumption), Own.drew (by assumption)⟩))
              (first
                | (go_split_ands; go_at_call 65; refine (shelved_any vs set H4 _ (by assumption) hsc hst).mono ?_; rintro e w5 ⟨rfl, hb5⟩; have k1 : Holds H4 w5 := Holds.below (by assumption) hb5; have k2 : Ext w H w5 H4 := Ext.step (by assumption) (hb5.mono (by assumption : Ext w H _ H4).below.size) k1; have k3 := Own.ext (by assumption : Own H4 w.heap.size _ 3 (.slice av acc.length cv) acc) (by assumption) ⟨hb5, k1, fun _ _ => rfl⟩)
                | (go_split_ands; go_at_call 67; refine (needs_any _ _ _ _ _ h hV x hsI H4 _ (by assumption) hhr).mono ?_; rintro e w6 ⟨v6, H6, rfl, x6, ss, s6, hd1, hd2, hcs⟩; obtain ⟨aL, cL, rfl, _, _⟩ := s6.form; have hf6 := hdx.out ss hd1 hd2 hcs; have k4 := x6.holds; have k1 : Holds H4 w6 := x6.old (by assumption); have k2 : Ext w H w6 H4 := Ext.step (by assumption) (x6.below.mono (by assumption : Ext w H _ H4).below.size) k1; have k3 := Own.ext (by assumption : Own H4 w.heap.size _ 3 (.slice av acc.length cv) acc) (by assumption) ⟨x6.below, k1, fun _ _ => rfl⟩)
                | (go_split_ands; go_at_call 66; refine (does_any (countsOf set) hcn _ ss H6 _ (by assumption) s6 hcs).mono ?_; rw [hf6]; rintro e w7 ⟨rfl, hb7⟩; have k1 : Holds H4 w7 := Holds.below (by assumption) hb7; have k2 : Ext w H w7 H4 := Ext.step (by assumption) (hb7.mono (by assumption : Ext w H _ H4).below.size) k1; have k3 := Own.ext (by assumption : Own H4 w.heap.size _ 3 (.slice av acc.length cv) acc) (by assumption) ⟨hb7, k1, fun _ _ => rfl⟩))
            all_goals
              go_split_ands
              go_wp2_with fail
              go_meet
              exact ⟨rfl, by assumption, by assumption⟩
          case rest =>
            obtain ⟨rfl, x8, own8⟩ := hcut
            have hw8 := x8.holds
            clear hown xr hwr
            cases D
            · have h5 := hsucc.out
              rw [if_neg (by decide)] at h5
              replace h5 := Lib.hid h5
              simp only [Bool.not_false] at *
              go_wp2_with (first | ((at_builtin; have hgd := own8; clear hgd; refine wpList_app1I eInt _ _ x8 own8 x hsI (by omega) rfl rfl rfl rfl ?_; intro vA wA hownA hxA hwA)))
              go_roundw
              case rel => exact ⟨k + 1, acc ++ [x], by omega, by go_num, by show _ = _; rw [h5.out, hacc.out], by simp; omega, hxA, hownA⟩
              case measure => simp [intOf]; omega
            · have h5 := hsucc.out
              rw [if_pos rfl] at h5
              replace h5 := Lib.hid h5
              simp only [Bool.not_true] at *
              go_wp2
              go_roundw
              case rel => exact ⟨k + 1, acc, by omega, by go_num, by show _ = _; rw [h5.out, hacc.out], by omega, x8, own8⟩
              case measure => simp [intOf]; omega
        · have hke : k = (casesOf h.hs).length := by omega
          go_wp2
          go_ret2
          obtain ⟨H7, hx7, _, hs7, _⟩ := hown.close xr
          rw [← hke, ← hacc.out]
          exact post2_of hx7 hs7

end Go.Proofs.YtngdppajailpcaaGreat

namespace Go.Proofs.YtngdppajailpcaaGreat
open Go.RowKit

attribute [local go_sem] Holds.drew Holds.alloc Holds.drewN WB.holds Oper.semAt_some FW_fn FW_dep FW_round run_loadShV run_indexShV run_indexRow
attribute [local go_sem ↓] loadAt_sh index_sh index_row

def setX : Option Cnt → List Plate
  | none => []
  | some c => setOf c

set_option maxRecDepth 100000 in
set_option maxHeartbeats 4000000 in
theorem setM_any (vm vb vt vo ve : Value) (h : Hall) (H : Snap) (w : World) (hw : Holds H w) (hh : Hal H vm vb vt vo ve h) :
    Calls Tryz.prog 16 #[halV vm vb vt vo ve h] w (Post w H fun v H' => ∃ u, v = .tuple #[u, .int .i64 (errF h)] ∧ Sl H' u (setA h)) := by
  cases hv : validHall h
  · have hn : setA h = [] := by unfold setA; rw [hv]; rfl
    have hE : errF h = 90 := by unfold errF errL; rw [hv]; rfl
    have hop := fun (W : World) (hW : Holds H W) => open_no vm vb vt vo ve h true (by rw [hv]; rfl) H W hW hh
    rw [hv, show askM false true = 90 from rfl] at hop
    rw [hE]
    clear hE
    go_enter Tryz.func16, Tryz.ntmps16
    go_upto_region 1 with (refine wpList_boxF rfl _ rfl (Ext.refl hw) ?_; intro B w1 H1 hle hx hB hBw; obtain ⟨hc0, hc1, hc2, hc3, hc4, hc5⟩ := cellsHal hB; clear hB hw; have hw1 := hx.holds)
    replace hop := fun (W : World) (hW : Holds H1 W) => hop W (hW.mono hle)
    replace hop := Lib.hid hop
    go_wp2_with (first | (go_at_call 47; refine (hop.out _ hw1).mono ?_; rintro e w2 ⟨rfl, hb2⟩; have x2 := hx.step (hb2.mono hx.below.size) (hw1.below hb2)))
    go_ret2
    exact post2_no (x2.alloc _) hn
  · have hV := validHall_iff.1 hv
    obtain ⟨am, cm, rfl, hm1, hm2⟩ := hh.hs.m.form
    obtain ⟨ab, cb, rfl, hb1, hb2⟩ := hh.hs.b.form
    obtain ⟨at', ct, rfl, ht1, ht2⟩ := hh.hs.t.form
    obtain ⟨ao, co, rfl, ho1, ho2⟩ := hh.bo.form
    obtain ⟨ae, ce, rfl, he1, he2⟩ := hh.ed.form
    obtain ⟨X, hX⟩ : ∃ X, Hid (X = leastA h zero12) := ⟨_, rfl⟩
    have hE : errF h = if X.isSome then 0 else 3 := by unfold errF errL; rw [hv, hX.out]; rfl
    have hR : setA h = setX X := by unfold setA; rw [hv, if_pos rfl, hX.out]; rfl
    have hXc : ∀ c, X = some c → Cn c := fun c e => by
      rw [hX.out] at e
      exact grownC_cn (fun l hl y hy => by
        obtain ⟨s, _, rfl⟩ := List.mem_map.1 hl
        exact needsA_cn hV y hy) Cn.zero e
    have hfew : ∀ (L : List (List Shf)), Agree (L.map (·.map Shf.c)) (allA h) → (∀ l ∈ L, ∀ s ∈ l, Cn s.c) → grownC (L.map (·.map Shf.c)) zero12 = X := fun L hag hL => by
      rw [hX.out]
      exact grownC_same (n := 12) (fun l hl y hy => by
        obtain ⟨q, hq, rfl⟩ := List.mem_map.1 hl
        obtain ⟨s, hs, rfl⟩ := List.mem_map.1 hy
        exact (hL q hq s hs).len) (allA_six hV) (mk12_len _) hag.d1 hag.d2
    have hfn : ∀ (L : List (List Shf)), (∀ l ∈ L, ∀ s ∈ l, Cn s.c) → ∀ (vL : Value) (H : Snap) (w : World), Holds H w → Sl H vL L → Calls Tryz.prog 55 #[.agg #[.int .i64 0, .int .i64 0, .int .i64 0, .int .i64 0, .int .i64 0, .int .i64 0, .int .i64 0, .int .i64 0, .int .i64 0, .int .i64 0, .int .i64 0, .int .i64 0], vL] w (PostV w (fewV (grownC (L.map (·.map Shf.c)) zero12))) := fun L hL vL H w hw hs => by
      have := fewest_any L zero12 Cn.zero hL vL H w hw hs
      rw [shC_zero] at this; exact this
    rw [hE, hR]
    clear hE hR
    have hop := fun (W : World) (hW : Holds H W) => open_yes _ _ _ _ _ h hv H W hW hh
    go_enter Tryz.func16, Tryz.ntmps16
    go_upto_region 1 with (refine wpList_boxF rfl _ rfl (Ext.refl hw) ?_; intro B w1 H1 hle hx hB hBw; obtain ⟨hc0, hc1, hc2, hc3, hc4, hc5⟩ := cellsHal hB; clear hB hw; have hw1 := hx.holds)
    replace hop := fun (W : World) (hW : Holds H1 W) => hop W (hW.mono hle)
    replace hop := Lib.hid hop
    replace hfn := Lib.hid hfn
    go_upto_region 4 with (go_at_call 47; refine (hop.out _ hw1).mono ?_; rintro e w2 ⟨rfl, hb2⟩; have x1 := hx.step (hb2.mono hx.below.size) (hw1.below hb2))
    have hn_ : H1 (World.heap w2).size = none := (x1).holds.none_of_ge (Nat.le_refl _)
    have x2 := ((x1).alloc (.cells #[.slice am h.hs.ms.length cm, .slice ab h.hs.bs.length cb, .slice at' h.hs.ts.length ct, .int .i64 h.hs.ch, .slice ao h.bo.length co, .slice ae h.ed.length ce] 72)).freeze (x1).below.size (heap_alloc_new w2 _)
    have l2 := Snap.le_put hn_ (.cells #[.slice am h.hs.ms.length cm, .slice ab h.hs.bs.length cb, .slice at' h.hs.ts.length ct, .int .i64 h.hs.ch, .slice ao h.bo.length co, .slice ae h.ed.length ce] 72 (0, 0))
    have hput := Snap.put_same H1 (World.heap w2).size (.cells #[.slice am h.hs.ms.length cm, .slice ab h.hs.bs.length cb, .slice at' h.hs.ts.length ct, .int .i64 h.hs.ch, .slice ao h.bo.length co, .slice ae h.ed.length ce] 72 (0, 0))
    clear hn_
    generalize Snap.put H1 (World.heap w2).size (.cells #[.slice am h.hs.ms.length cm, .slice ab h.hs.bs.length cb, .slice at' h.hs.ts.length ct, .int .i64 h.hs.ch, .slice ao h.bo.length co, .slice ae h.ed.length ce] 72 (0, 0)) = H2 at *
    generalize World.alloc w2 (.cells #[.slice am h.hs.ms.length cm, .slice ab h.hs.bs.length cb, .slice at' h.hs.ts.length ct, .int .i64 h.hs.ch, .slice ao h.bo.length co, .slice ae h.ed.length ce] 72) = w3 at *
    generalize (World.heap w2).size = B at *
    have hhc := (hh.mono hle).mono l2
    obtain ⟨d0, d1, d2, d3, d4, d5⟩ := cellsHal (h := h) hput
    have hw2 := x2.holds
    replace hfew := Lib.hid hfew
    have hXl := getD_len hXc
    have sX : (shC (X.getD zero12)).size = 12 := by rw [shC_size, hXl]
    go_upto_region 5 with (first
      | (have hgd := x6; clear hgd; refine wpList_storeSh rfl _ _ rfl rfl rfl (ShV.new x6.holds x6.below.size) (by rfl) hXl (x6.alloc _) (Nat.le_refl _) ?_; intro w7 r7 x7 hO7 hz7)
      | (go_at_call 55; refine (hfn.out L hcl _ H4 _ x5.holds s4).mono ?_; rw [hf4]; unfold fewV; rintro e w6 ⟨rfl, hb6⟩; have x6 := x5.step (hb6.mono x5.below.size) (x5.holds.below hb6))
      | (go_at_call 56; refine (all_any _ _ _ _ _ h hV H2 _ hw2 hhc).mono ?_; rintro e w4 ⟨v4, H4, rfl, x4, L, s4, hag, hcl⟩; obtain ⟨aL, cL, rfl, _, _⟩ := s4.form; have hf4 := hfew.out L hag hcl; have x5 := x2.trans x4))
    have hw7 := x7.holds
    have hlR := mid_row r7.at_ hXl
    generalize w6.heap.size = R at *
    clear hfew hop hfn hw2 x2 hO7 hz7 x6 hb6 x5 x4
    cases X with
    | none =>
      simp only [Option.isSome_none, Option.getD_none] at *
      go_wp2
      go_ret2
      exact post2_no x7 rfl
    | some c =>
      have hcc : Cn c := hXc c rfl
      simp only [Option.isSome_some, Option.getD_some] at *
      go_wp2_with (first | (go_at_call 57; refine (setS_any c hcc H4 _ hw7).mono ?_; rintro e w8 ⟨v8, H8, rfl, x8, o8⟩))
      go_ret2
      obtain ⟨H9, hx9, _, hs9, _⟩ := (o8.weaken x7.below.size).close (x7.trans x8)
      exact post2_of hx9 hs9

end Go.Proofs.YtngdppajailpcaaGreat
