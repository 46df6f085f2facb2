/- Lemmas and walks on which the claims of this seat lean: MFew MOpn. -/
import Derived.Test.YtngdppajailpcaaGreatG08
import Derived.Test.YtngdppajailpcaaGreatG09
import Derived.Test.YtngdppajailpcaaGreatG13
import Derived.Test.YtngdppajailpcaaGreatG15

set_option linter.all false

namespace Go.Proofs.YtngdppajailpcaaGreat
open Go.RowKit

attribute [local go_sem] Holds.drew Holds.alloc Holds.drewN WB.holds Oper.semAt_some FW_fn FW_dep FW_round run_loadShV run_indexShV run_indexRow
attribute [local go_sem ↓] loadAt_sh index_sh index_row

/-- A shelf is written whole, in a region that draws: as the walk leaves it. -/
theorem upon_storeSh {o : Oper} {a : Act} {w w0 : World} {H H0 : Snap} {base b : Nat} {c c' : Cnt} {Q : Exit → Act → World → Prop} {K : Act → World → Prop} {f : Unit → World → Result Next} (h : ShV H base w b c) (hl : c.length = 12) (hl' : c'.length = 12) (hX : Ext w0 H0 w H) (hb : w0.heap.size ≤ base)
    (hk : ∀ w', ShV H base w' b c' → Ext w0 H0 w' H → (∀ k, k ≠ b → w'.heap[k]? = w.heap[k]?) → w'.heap.size = w.heap.size → Oper.upon Tryz.prog o a K Q (f () w')) :
    Oper.upon Tryz.prog o a K Q (((storeCells ⟨b, 0, none⟩ (shC c').toList).run Tryz.prog w).andThen f) := by
  obtain ⟨w', hr, h1, h2, h3, h4⟩ := run_storeSh h hl hl'
  have hr2 : (storeCells ⟨b, 0, none⟩ (shC c').toList).run Tryz.prog w = .ok () w' := by
    have hat : w.heap[b]? = some (.cells (shC c) 84 (0, 0)) := h.at_
    have hs : (shC c').size = 12 := by rw [shC_size, hl']
    have := run_storeCells_cells (P := Tryz.prog) b 0 (shC c').toList 0 w (fun j hj => by
        rw [Array.length_toList, hs] at hj
        simp only [Nat.zero_add, Nat.add_zero]
        rw [cell_of_row w b j _ _ _ hat, Array.getElem?_eq_getElem (by rw [shC_size, hl]; exact hj)]; rfl) (fun j _ => by simp [World.frozen?, hat]) (shC_one c')
    rw [this]
    have hth : w.there b 0 (shC c').size := fun j hj => by
      rw [hs] at hj
      rw [Nat.zero_add, cell_of_row w b j _ _ _ hat]
      refine ⟨?_, by simp [World.frozen?, hat]⟩
      rw [Array.getElem?_eq_getElem (by rw [shC_size, hl]; exact hj)]; rfl
    have e := run_storeAt_mid (P := Tryz.prog) w b 0 84 (shC c') hth (by rw [hs]; exact size_sh) (by rw [← Array.toArray_toList (xs := shC c')]; exact all_oneCell_toArray (shC_one c'))
    rw [hr] at e
    simp only [Result.ok.injEq, true_and] at e
    rw [e, Nat.add_zero]
  rw [hr2]
  have hbb := h.base
  exact hk w' h1 (hX.step (h2.mono (by omega)) ⟨fun k o e => by
    have hne : k ≠ b := by
      rintro rfl; rw [h.free] at e; cases e
    rw [h3 k hne]; exact hX.holds.at_ k o e⟩) h3 h4

/-- 's[1:]' of elements of one cell. -/
theorem Sl.tail1 {α : Type} [Enc α] (h1 : Enc.sz α = 1) {H : Snap} {b o n c : Nat} {x : α} {xs : List α} (h : Sl H (.slice (some ⟨b, o, none⟩) n c) (x :: xs)) : Sl H (.slice (some ⟨b, o + 1, none⟩) (n - 1) (c - 1)) xs := by
  obtain ⟨a, c', e, hc1, hc2, hby, hr⟩ := h
  cases e
  rcases hr with hr | ⟨b', o', cur, t, fr, ea, hb, hsz, hrep⟩
  · cases hr
  · cases ea
    rw [h1, Nat.mul_one] at hsz hrep
    obtain ⟨cs, rest, hcs, hx, hxs⟩ := hrep
    have hl : cs.length = 1 := by rw [Enc.len hx, h1]
    simp only [List.length_cons, Nat.add_sub_cancel] at *
    refine ⟨_, c - 1, rfl, by omega, by omega, by
      have : xs.length * Enc.by_ α ≤ (xs.length + 1) * Enc.by_ α := Nat.mul_le_mul_right _ (by omega)
      omega, .inr ⟨b, o + 1, cur, t, fr, rfl, hb, by rw [h1]; omega, ?_⟩⟩
    rw [h1, Nat.mul_one]
    have e2 : rest = (List.take (xs.length + 1) (List.drop o cur.toList)).drop 1 := by rw [hcs]; simp [hl]
    rw [← List.drop_drop]
    have e3 : List.take xs.length (List.drop 1 (List.drop o cur.toList)) = rest := by
      rw [e2, List.drop_take, Nat.add_sub_cancel]
    rw [e3]; exact hxs

theorem keep_sh {H : Snap} {base : Nat} {w w' : World} (hb : Below w.heap.size w w') : ∀ B cc, ShV H base w B cc → ShV H base w' B cc := fun _ _ h => Row.kept h (grown_below hb) (by simp)

theorem keep_st {H : Snap} {base b B : Nat} {w w' : World} {c : Cnt} (h : ShV H base w b c) (hO : ∀ k, k ≠ B → w'.heap[k]? = w.heap[k]?) (hne : b ≠ B) : ShV H base w' b c ∧ B ≠ b := ⟨⟨(hO b hne).trans h.at_, h.base, h.free⟩, Ne.symm hne⟩

theorem or_cnt {a b : Cnt} (ha : Cn a) (hb : Cn b) : decide (firstNZ [cntSum a - cntSum b, cmpL b a] < 0) = cntLt a b := by
  have h1 := cmpL_earlier (a := b) (b := a) (by rw [ha.len, hb.len])
  rw [Bool.eq_iff_iff, decide_eq_true_eq, cntLt_iff]
  unfold firstNZ
  by_cases e : cntSum a - cntSum b = 0
  · rw [if_pos e]
    unfold firstNZ
    by_cases e2 : cmpL b a = 0
    · rw [if_pos e2]
      unfold firstNZ
      constructor
      · intro h; omega
      · rintro (h | ⟨_, h⟩)
        · omega
        · have := h1.2 h; omega
    · rw [if_neg e2, h1]
      constructor
      · exact fun h => .inr ⟨by omega, h⟩
      · rintro (h | ⟨_, h⟩)
        · omega
        · exact h
  · rw [if_neg e]
    constructor
    · exact fun h => .inl (by omega)
    · rintro (h | ⟨h, _⟩) <;> omega

/-- What fewest returns. -/
def fewV (x : Option Cnt) : Value := .tuple #[.agg (shC (x.getD zero12)), .bool x.isSome]
theorem getD_len {x : Option Cnt} (h : ∀ c, x = some c → Cn c) : (x.getD zero12).length = 12 := by
  cases x with
  | none => exact mk12_len _
  | some c => exact (h c rfl).len

set_option maxRecDepth 100000 in
set_option maxHeartbeats 8000000 in
theorem fewest_any : ∀ (L : List (List Shf)) (c : Cnt), Cn c → (∀ l ∈ L, ∀ s ∈ l, Cn s.c) → ∀ (vL : Value) (H : Snap) (w : World), Holds H w → Sl H vL L →
    Calls Tryz.prog 55 #[.agg (shC c), vL] w (PostV w (fewV (grownC (L.map (·.map Shf.c)) c)))
  | [], c, hc, hL, vL, H, w, hw, hs => by
    obtain ⟨aL, cL, rfl, hc1, hc2⟩ := hs.form
    have hres : fewV (grownC (([] : List (List Shf)).map (·.map Shf.c)) c) = .tuple #[.agg (shC c), .bool true] := rfl
    replace hres := Lib.hid hres
    go_enter Tryz.func55, Tryz.ntmps55
    go_upto_region 1 with (refine wpList_boxF rfl _ rfl (Ext.refl hw) ?_; intro S w1 H1 hle hx hS hSb)
    have hrR := ShV.new hx.holds hx.below.size
    have x2 := hx.alloc (.cells #[.int .i64 0, .int .i64 0, .int .i64 0, .int .i64 0, .int .i64 0, .int .i64 0, .int .i64 0, .int .i64 0, .int .i64 0, .int .i64 0, .int .i64 0, .int .i64 0] 84)
    generalize w1.alloc (.cells #[.int .i64 0, .int .i64 0, .int .i64 0, .int .i64 0, .int .i64 0, .int .i64 0, .int .i64 0, .int .i64 0, .int .i64 0, .int .i64 0, .int .i64 0, .int .i64 0] 84) = w2 at *
    generalize w1.heap.size = R at *
    clear hx
    have hw2 := x2.holds
    have hmS := midH (H := H1) (b := S) hS hc.len
    have s1 : (shC c).size = 12 := by rw [shC_size, hc.len]
    go_wp2_with (first | (refine wpList_storeSh rfl _ _ rfl rfl rfl hrR (by rfl) hc.len x2 (Nat.le_refl _) ?_; intro w3 r3 x3 hO3 hz3))
    refine bodyPost_ret (results_cell_slot rfl _ _ _ _ (shC c) (0, 0) _ rfl r3.at_ Tryz.underlying84 rfl (by rw [s1]; exact size_sh)) rfl ?_
    exact ⟨by rw [hres.out]; rfl, x3.below⟩
  | l :: L, c, hc, hL, vL, H, w, hw, hs => by
    have ih := fewest_any L
    have hll := hs.le
    have hs2 := hs
    obtain ⟨bL, oL, cL, u, he, hsl, hrl⟩ := hs.list (k := 0) (x := l) rfl
    cases he
    obtain ⟨al, cl, rfl, hl1, hl2⟩ := hsl.form
    have hcl : ∀ s ∈ l, Cn s.c := hL l (by simp)
    obtain ⟨n, hn⟩ : ∃ n, Hid (n = (l :: L).length) := ⟨_, rfl⟩
    have hn1 : 1 ≤ n := by rw [hn.out, List.length_cons]; omega
    obtain ⟨_, cx, ecx, hncx, hcx9⟩ := hs2.form
    cases ecx
    rw [← hn.out] at hs2 hll hncx ⊢
    have hL1 : (1 : Int) ≤ (n : Int) := by omega
    have hL2 : (n : Int) ≤ (cL : Int) := by omega
    have hLp : ((n : Int) == 0) = false := by simp; omega
    have hL0 : (0 : Int) < (n : Int) := by omega
    have hcL : ∀ l' ∈ L, ∀ s ∈ l', Cn s.c := fun l' h => hL l' (by simp [h])
    go_enter Tryz.func55, Tryz.ntmps55
    go_upto_region 1 with (refine wpList_boxF rfl _ rfl (Ext.refl hw) ?_; intro S w1 H1 hle hx hS hSb)
    have hrR := ShV.new hx.holds hx.below.size
    have x2 := hx.alloc (.cells #[.int .i64 0, .int .i64 0, .int .i64 0, .int .i64 0, .int .i64 0, .int .i64 0, .int .i64 0, .int .i64 0, .int .i64 0, .int .i64 0, .int .i64 0, .int .i64 0] 84)
    generalize w1.alloc (.cells #[.int .i64 0, .int .i64 0, .int .i64 0, .int .i64 0, .int .i64 0, .int .i64 0, .int .i64 0, .int .i64 0, .int .i64 0, .int .i64 0, .int .i64 0, .int .i64 0] 84) = w2 at *
    generalize w1.heap.size = R at *
    clear hx
    have hw2 := x2.holds
    have hmS := midH (H := H1) (b := S) hS hc.len
    have s1 : (shC c).size = 12 := by rw [shC_size, hc.len]
    replace hsl := hsl.mono hle
    replace hrl := lift hle hrl
    simp only [Nat.add_zero] at hrl
    clear hw
    obtain ⟨aT, haT⟩ : ∃ aT, (if cL = 1 then some (⟨bL, oL, none⟩ : Addr) else some ⟨bL, oL + 1, none⟩) = aT := ⟨_, rfl⟩
    have hsT : Sl H1 (.slice aT (n - 1) (cL - 1)) L := by
      rw [← haT]
      split
      · rename_i e
        have e1 : L = [] := by
          have := hn.out
          rw [List.length_cons] at this
          exact List.eq_nil_of_length_eq_zero (by omega)
        rw [e1, show n - 1 = 0 by omega]
        exact Sl.nil _ _ (by omega)
      · exact Sl.tail1 rfl (hs2.mono hle)
    go_wp2
    go_loopw [5, 18] (fun b i wr => ∃ (k : Nat) (acc : Option Cnt), k ≤ l.length ∧ i = .int .i64 k ∧ Hid (acc = ((l.take k).map Shf.c).foldl (fun acc n => better acc (grownC (L.map (·.map Shf.c)) (cntMax c n))) none) ∧ b = .bool acc.isSome ∧
        ShV H1 w.heap.size wr R (acc.getD zero12) ∧ Ext w H wr H1 ∧ ∀ x, acc = some x → Cn x) (fun _ i _ => l.length - (intOf i).toNat)
    case atStart => exact ⟨0, none, Nat.zero_le _, rfl, rfl, rfl, hrR, x2, fun x e => by cases e⟩
    case round =>
      clear hrR x2 hw2
      obtain ⟨k, acc, hk, rfl, hacc, rfl, hrR, xr, hacn⟩ := hrel
      have hwr := xr.holds
      by_cases hlk : k < l.length
      · obtain ⟨x, hx⟩ := At.mk hlk
        obtain ⟨b, o, c', he, hcx, hmx⟩ := hsl.shf hx
        cases he
        have s2 : (shC x.c).size = 12 := by rw [shC_size, hcx.len]
        go_upto_region 6 with (refine wpList_storeSh rfl _ _ rfl rfl rfl (ShV.new hwr xr.below.size) (by rfl) hcx.len (xr.alloc _) (Nat.le_refl _) ?_; intro w3 hrT x3 hO3 hz3)
        have hrR3 := hrR.kept (grown_of xr x3 (by rw [hz3]; simp) (fun k hk => (hO3 k (by omega)).trans (Below.heap_alloc _ _ _ hk))) (by simp)
        have hRT : R ≠ wr.heap.size := Nat.ne_of_lt hrR.lt
        have hTn : H1 wr.heap.size = none := hwr.none_of_ge (Nat.le_refl _)
        have hTb : w.heap.size ≤ wr.heap.size := xr.below.size
        have hsm := xr.same
        have hR1 := hrR.free
        clear hO3 hz3 xr hwr hrR
        generalize wr.heap.size = T at *
        obtain ⟨H2, hH2⟩ : ∃ H2, Hid (H2 = H1.put T (.cells (shC x.c) 84 (0, 0))) := ⟨_, rfl⟩
        have x4 : Ext w H w3 H2 := by rw [hH2.out]; exact x3.freeze hTb hrT.at_
        have l2 : SLe H1 H2 := by rw [hH2.out]; exact Snap.le_put hTn _
        have hT2 : H2 T = some (.cells (shC x.c) 84 (0, 0)) := by rw [hH2.out, Snap.put_same]
        have hR2 : H2 R = none := by rw [hH2.out, Snap.put_other _ _ hRT]; exact hrR3.free
        have hrR4 := hrR3.snap hR2
        clear hH2 x3 hrR3 hrT hTn hTb
        have hw4 := x4.holds
        have hmT := midH (H := H2) (b := T) hT2 hcx.len
        have hmS2 := lift l2 hmS
        have hsT2 := hsT.mono l2
        have hjn : Cn (cntMax c x.c) := cntMax_cn hc hcx
        have ihc := fun (W : World) (hW : Holds H2 W) => ih (cntMax c x.c) hjn hcL _ H2 W hW hsT2
        have hyn : ∀ y, grownC (L.map (·.map Shf.c)) (cntMax c x.c) = some y → Cn y := fun y e => grownC_cn (fun l' hl' y' hy' => by
          obtain ⟨q, hq, rfl⟩ := List.mem_map.1 hl'
          obtain ⟨s, hs, rfl⟩ := List.mem_map.1 hy'
          exact hcL q hq s hs) hjn e
        have hstep : ((l.take (k + 1)).map Shf.c).foldl (fun acc n => better acc (grownC (L.map (·.map Shf.c)) (cntMax c n))) none = better acc (grownC (L.map (·.map Shf.c)) (cntMax c x.c)) := by
          rw [hx.take, List.map_append, List.foldl_append, ← hacc.out]; rfl
        generalize grownC (L.map (·.map Shf.c)) (cntMax c x.c) = y at *
        have hyl := getD_len hyn
        have s4 : (shC (y.getD zero12)).size = 12 := by rw [shC_size, hyl]
        unfold fewV at ihc
        replace ihc := Lib.hid ihc
        replace hstep := Lib.hid hstep
        clear hacc
        go_frame
        go_cut [8, 9] (fun p b wc => ∃ B, p = .pointer (some ⟨B, 0, none⟩) ∧ b = .bool y.isSome ∧ ShV H2 w.heap.size wc B (y.getD zero12) ∧ ShV H2 w.heap.size wc R (acc.getD zero12) ∧ B ≠ R ∧ Ext w H wc H2)
        case first =>
          go_region_held3 (fun w' => Holds H2 w' ∧ Ext w H w' H2 ∧ ShV H2 w.heap.size w' R (acc.getD zero12))
            (first | assumption | exact ⟨by assumption, by assumption, by assumption⟩ | (go_split_ands; exact ⟨Holds.drew (by assumption), Ext.drew (by assumption), Row.drew (by assumption)⟩) | (go_split_ands; exact ⟨Holds.alloc (by assumption) _, Ext.alloc (by assumption) _, Row.alloc (by assumption) _⟩) | (go_split_ands; exact ⟨Holds.drew (Holds.alloc (by assumption) _), Ext.drew (Ext.alloc (by assumption) _), Row.drew (Row.alloc (by assumption) _)⟩))
            (first
              | (go_split_ands; go_at_call 89; refine (joined_any _ _ hc hcx H2 _ (by assumption)).mono ?_; rintro e w5 ⟨rfl, hb5⟩; have k1 : Holds H2 w5 := Holds.below (by assumption) hb5; have k2 : Ext w H w5 H2 := Ext.step (by assumption) (hb5.mono (by assumption : Ext w H _ H2).below.size) k1; have k3 : ShV H2 w.heap.size w5 R (acc.getD zero12) := Row.kept (by assumption) (grown_below hb5) (by simp); have kj := keep_sh (H := H2) (base := w.heap.size) hb5)
              | (go_split_ands; go_at_call 55; refine (ihc.out _ (by assumption)).mono ?_; rintro e w6 ⟨rfl, hb6⟩; have k1 : Holds H2 w6 := Holds.below (by assumption) hb6; have k2 : Ext w H w6 H2 := Ext.step (by assumption) (hb6.mono (by assumption : Ext w H _ H2).below.size) k1; have k3 : ShV H2 w.heap.size w6 R (acc.getD zero12) := Row.kept (by assumption) (grown_below hb6) (by simp); have kf := keep_sh (H := H2) (base := w.heap.size) hb6)
              | (go_split_ands; refine upon_storeSh (c := zero12) (by first | exact ShV.new (by assumption) (Ext.below (by assumption)).size | exact kf _ _ (ShV.new (by assumption) (Ext.below (by assumption)).size) | exact kf _ _ (kj _ _ (ShV.new hw4.drew x4.below.size)) | exact kf _ _ (ShV.new hw4.drew x4.below.size) | exact ShV.new hw4.drew x4.below.size) (by rfl) hyl (by first | assumption | exact Ext.alloc (by assumption) _ | exact Ext.alloc x4.drew _) (Nat.le_refl _) ?_; intro w7 r7 x7 hO7 hz7; have k7 := x7.holds; obtain ⟨q7, n7⟩ := keep_st (H := H2) (base := w.heap.size) (b := R) (c := acc.getD zero12) (by first | assumption | exact Row.alloc (by assumption) _ | exact Row.alloc hrR4.drew _) hO7 (by first | exact Nat.ne_of_lt (Row.lt (by assumption)) | exact Nat.ne_of_lt hrR4.lt)))
          all_goals
            go_wp2_with fail
            go_meet
            exact ⟨_, rfl, rfl, r7, q7, n7, x7⟩
        case rest =>
          obtain ⟨B, rfl, rfl, hrB, hrR5, hBR, x5⟩ := hcut
          have hlB := mid_row hrB.at_ hyl
          have hal := getD_len hacn
          have s5 : (shC (acc.getD zero12)).size = 12 := by rw [shC_size, hal]
          obtain ⟨H5, hH5⟩ : ∃ H5, Hid (H5 = (H2.put B (.cells (shC (y.getD zero12)) 84 (0, 0))).put R (.cells (shC (acc.getD zero12)) 84 (0, 0))) := ⟨_, rfl⟩
          have h5 : Holds H5 wc := by rw [hH5.out]; exact (x5.holds.put hrB.at_).put hrR5.at_
          have hmB := midH (H := H5) (b := B) (by rw [hH5.out, Snap.put_other _ _ hBR, Snap.put_same]) hyl
          have hmR := midH (H := H5) (b := R) (by rw [hH5.out, Snap.put_same]) hal
          have fin : ∀ (acc' : Option Cnt) (w7 : World), better acc y = acc' → ShV H2 w.heap.size w7 R (acc'.getD zero12) → Ext w H w7 H2 →
              ∃ (k' : Nat) (ac : Option Cnt), k' ≤ l.length ∧ Value.int .i64 ((k : Int) + 1) = .int .i64 k' ∧ Hid (ac = ((l.take k').map Shf.c).foldl (fun acc n => better acc (grownC (L.map (·.map Shf.c)) (cntMax c n))) none) ∧ Value.bool acc'.isSome = .bool ac.isSome ∧
                ShV H1 w.heap.size w7 R (ac.getD zero12) ∧ Ext w H w7 H1 ∧ ∀ x, ac = some x → Cn x := fun acc' w7 hbt hr hx7 =>
            ⟨k + 1, acc', by omega, by simp, by show _ = _; rw [hstep.out, hbt], rfl, hr.snap hR1, ⟨hx7.below, hx7.holds.mono l2, hsm⟩, fun q hq => by
              rw [← hbt] at hq
              unfold better at hq
              cases y with
              | none => exact hacn q hq
              | some yv => cases acc with
                | none => cases hq; exact hyn _ rfl
                | some av =>
                  simp only at hq
                  split at hq
                  · cases hq; exact hyn _ rfl
                  · cases hq; exact hacn _ rfl⟩
          clear hH5 hstep
          replace fin := Lib.hid fin
          go_upto_region 7 with fail
          cases y with
          | none =>
            have hbt : better acc none = acc := rfl
            simp only [Option.isSome_none]
            refine wp_region_quietB H5 (by kernel_rfl) (by kernel_rfl) h5 (fun hne => ?_)
            repeat go_big_quiet_step ((first | fail))
            refine wpQuiet_nil ?_
            rintro ⟨w2, hw2, hb2⟩
            clear hne
            have hg := grown_below hb2
            have x6 := x5.next0 hg
            have hr6 := hrR5.kept hg (by simp)
            go_wp2
            go_roundw
            case rel => exact fin.out _ _ hbt hr6 x6
            case measure => simp [intOf]; omega
          | some yv =>
            have hyc : Cn yv := hyn _ rfl
            cases acc with
            | none =>
              have hbt : better none (some yv) = some yv := rfl
              simp only [Option.isSome_none, Option.isSome_some, Option.getD_none, Option.getD_some] at *
              refine wp_region_quietB H5 (by kernel_rfl) (by kernel_rfl) h5 (fun hne => ?_)
              repeat go_big_quiet_step ((first | fail))
              refine wpQuiet_nil ?_
              rintro ⟨w2, hw2, hb2⟩
              clear hne
              have hg := grown_below hb2
              have x6 := x5.next0 hg
              have hr6 := hrR5.kept hg (by simp)
              have hB6 := hrB.kept hg (by simp)
              have hlB6 := mid_row hB6.at_ hyl
              clear hlB
              go_wp2_with (first | (refine wpList_storeSh rfl _ _ rfl rfl rfl hr6 hal hyl x6 (Nat.le_refl _) ?_; intro w7 r7 x7 hO7 hz7))
              go_roundw
              case rel => exact fin.out _ _ hbt r7 x7
              case measure => simp [intOf]; omega
            | some av =>
              have hac : Cn av := hacn _ rfl
              have b1 := hyc.sum
              have b2 := hac.sum
              have b3 := cmpL_bd9 av yv
              have hor := or_cnt hyc hac
              have hwrp : IntKind.i64.wrap (cntSum yv - cntSum av) = cntSum yv - cntSum av := IntWalk.i64_in _ (by omega)
              have hOr : ∀ w, Holds H5 w → Calls Tryz.prog 90 #[.slice (some ⟨w.heap.size, 0, none⟩) 2 2] (w.alloc (.cells #[.int .i64 (cntSum yv - cntSum av), .int .i64 (cmpL av yv)] 3)) (PostV (w.alloc (.cells #[.int .i64 (cntSum yv - cntSum av), .int .i64 (cmpL av yv)] 3)) (.int .i64 (firstNZ [cntSum yv - cntSum av, cmpL av yv]))) := fun w hw => orTwo_any _ _ ⟨by omega, by omega⟩ ⟨by omega, by omega⟩ H5 w hw
              generalize firstNZ [cntSum yv - cntSum av, cmpL av yv] = fz at *
              replace hOr := Lib.hid hOr
              have hbt : better (some av) (some yv) = if cntLt yv av = true then some yv else some av := rfl
              simp only [Option.getD_some, Option.isSome_some] at *
              clear b3
              cases g : cntLt yv av
              · rw [g] at hor hbt
                rw [if_neg (by decide)] at hbt
                replace g := Lib.hid g
                refine (wpIn_wide (n := 3)).1 ?_
                show Code.wpIn (FW none) 3 _ _ _ _ _
                have hnq : Nonempty (WB H5 wc) := ⟨⟨wc, h5, Below.refl _ _⟩⟩
                refine wpIn_region_qtail (C := fun w' => ∃ x : WB H5 wc, w' = x.w) 13 (by kernel_rfl) (by kernel_rfl) (by kernel_rfl) ⟨⟨World.drew wc, Holds.drew h5, (Below.refl _ _).drew⟩, rfl⟩ ?_
                simp only [List.take_succ_cons, List.take_zero, List.drop_succ_cons, List.drop_zero]
                repeat go_big_quiet_step ((first | (go_at_call_of 73 (Value.agg (shC yv)); exact Calls.quietB (many_any yv hyc H5 _ (WB.holds _))) | (go_at_call_of 73 (Value.agg (shC av)); exact Calls.quietB (many_any av hac H5 _ (WB.holds _))) | (go_at_call 91; exact Calls.quietB (before_any yv av hyc hac H5 _ (WB.holds _)))))
                refine wpQuiet_nil ?_
                clear hnq
                rintro w2 ⟨⟨_, hw2, hb2⟩, rfl⟩
                gi_wp2_with (gi_at_call 90; refine (Calls.wide (hOr.out _ hw2)).mono ?_; rintro e w6 ⟨rfl, hb6⟩)
                have hg : wc.grownBy w6 none := grown_below (hb2.trans (((Below.refl _ _).alloc (Nat.le_refl _) _ |>.trans (hb6.mono (by simp))).mono hb2.size))
                have x6 := x5.next0 hg
                have hr6 := hrR5.kept hg (by simp)
                go_wp2
                go_roundw
                case rel => exact fin.out _ _ hbt hr6 x6
                case measure => simp [intOf]; omega
              · rw [g] at hor hbt
                rw [if_pos rfl] at hbt
                replace g := Lib.hid g
                refine (wpIn_wide (n := 3)).1 ?_
                show Code.wpIn (FW none) 3 _ _ _ _ _
                have hnq : Nonempty (WB H5 wc) := ⟨⟨wc, h5, Below.refl _ _⟩⟩
                refine wpIn_region_qtail (C := fun w' => ∃ x : WB H5 wc, w' = x.w) 13 (by kernel_rfl) (by kernel_rfl) (by kernel_rfl) ⟨⟨World.drew wc, Holds.drew h5, (Below.refl _ _).drew⟩, rfl⟩ ?_
                simp only [List.take_succ_cons, List.take_zero, List.drop_succ_cons, List.drop_zero]
                repeat go_big_quiet_step ((first | (go_at_call_of 73 (Value.agg (shC yv)); exact Calls.quietB (many_any yv hyc H5 _ (WB.holds _))) | (go_at_call_of 73 (Value.agg (shC av)); exact Calls.quietB (many_any av hac H5 _ (WB.holds _))) | (go_at_call 91; exact Calls.quietB (before_any yv av hyc hac H5 _ (WB.holds _)))))
                refine wpQuiet_nil ?_
                clear hnq
                rintro w2 ⟨⟨_, hw2, hb2⟩, rfl⟩
                gi_wp2_with (gi_at_call 90; refine (Calls.wide (hOr.out _ hw2)).mono ?_; rintro e w6 ⟨rfl, hb6⟩)
                have hg : wc.grownBy w6 none := grown_below (hb2.trans (((Below.refl _ _).alloc (Nat.le_refl _) _ |>.trans (hb6.mono (by simp))).mono hb2.size))
                have x6 := x5.next0 hg
                have hr6 := hrR5.kept hg (by simp)
                have hB6 := hrB.kept hg (by simp)
                have hlB6 := mid_row hB6.at_ hyl
                clear hlB
                go_wp2_with (first | (refine wpList_storeSh rfl _ _ rfl rfl rfl hr6 hal hyl x6 (Nat.le_refl _) ?_; intro w7 r7 x7 hO7 hz7))
                go_roundw
                case rel => exact fin.out _ _ hbt r7 x7
                case measure => simp [intOf]; omega
      · have hke : k = l.length := by omega
        rw [hke, List.take_length] at hacc
        have hfin : grownC ((l :: L).map (·.map Shf.c)) c = acc := hacc.out.symm
        have hfl := getD_len hacn
        have hldR := mid_row hrR.at_ hfl
        have s3 : (shC (acc.getD zero12)).size = 12 := by rw [shC_size, hfl]
        replace hfin := Lib.hid hfin
        clear hacc
        go_wp2_with (first | (refine wpList_storeSh rfl _ _ rfl rfl rfl hrR hfl hfl xr (Nat.le_refl _) ?_; intro w5 r5 x5 hO5 hz5))
        refine bodyPost_ret (results_cell_slot rfl _ _ _ _ (shC (acc.getD zero12)) (0, 0) _ rfl r5.at_ Tryz.underlying84 rfl (by rw [s3]; exact size_sh)) rfl ?_
        exact ⟨by rw [hfin.out]; rfl, x5.below⟩

end Go.Proofs.YtngdppajailpcaaGreat

namespace Go.Proofs.YtngdppajailpcaaGreat
open Go.RowKit

def storeHl (x y : Value) : Sem Unit := Instr.storeAt 72 x y
theorem storeAt_hl (x y : Value) : Instr.storeAt 72 x y = storeHl x y := rfl
theorem size_hl : (Tryz.prog.info? 72).map (·.size) = some 6 := by kernel_rfl

/-- Block b is a hall's six cells, of the call's own. -/
structure HlV (H : Snap) (base : Nat) (w : World) (b : Nat) (cs : Array Value) : Prop where
  at_ : w.heap[b]? = some (.cells cs 72 (0, 0))
  size : cs.size = 6
  base : base ≤ b
  free : H b = none
theorem HlV.lt {H : Snap} {base b : Nat} {w : World} {cs : Array Value} (h : HlV H base w b cs) : b < w.heap.size := (Array.getElem?_eq_some_iff.1 h.at_).1
theorem HlV.new {H : Snap} {base : Nat} {w : World} (hw : Holds H w) (hb : base ≤ w.heap.size) : HlV H base (w.alloc (.cells #[.slice none 0 0, .slice none 0 0, .slice none 0 0, .int .i64 0, .slice none 0 0, .slice none 0 0] 72)) w.heap.size #[.slice none 0 0, .slice none 0 0, .slice none 0 0, .int .i64 0, .slice none 0 0, .slice none 0 0] :=
  ⟨heap_alloc_new w _, rfl, hb, hw.none_of_ge (Nat.le_refl _)⟩
theorem HlV.step {H : Snap} {base b : Nat} {w w' : World} {cs : Array Value} (h : HlV H base w b cs) (hb : Below w.heap.size w w') : HlV H base w' b cs := ⟨(hb.block b h.lt).trans h.at_, h.size, h.base, h.free⟩

theorem run_storeHl {H : Snap} {base b : Nat} {w : World} {cs cs' : Array Value} (h : HlV H base w b cs) (hs : cs'.size = 6) (h1 : cs'.all (·.oneCell') = true) :
    (storeHl (.pointer (some ⟨b, 0, none⟩)) (.agg cs')).run Tryz.prog w = .ok () (w.setCells b 0 cs'.toList) ∧ (w.setCells b 0 cs'.toList).heap[b]? = some (.cells cs' 72 (0, 0)) := by
  have hth : w.there b 0 cs'.size := fun j hj => by
    rw [hs] at hj
    rw [Nat.zero_add, cell_of_row w b j _ _ _ h.at_]
    refine ⟨?_, by simp [World.frozen?, h.at_]⟩
    rw [Array.getElem?_eq_getElem (by rw [h.size]; exact hj)]; rfl
  refine ⟨run_storeAt_mid (P := Tryz.prog) w b 0 72 cs' hth (by rw [hs]; exact size_hl) h1, ?_⟩
  have hr := setCells_row (t := 72) b cs'.toList 0 w cs.toList (by rw [h.at_]) (by simp [hs, h.size])
  rw [hr]
  have e1 : cs'.toList.length = 6 := by rw [Array.length_toList, hs]
  have e2 : cs.toList.length = 6 := by rw [Array.length_toList, h.size]
  rw [List.drop_eq_nil_of_le (by rw [e1, e2]; omega)]
  simp

set_option maxRecDepth 20000 in
/-- The store, as the walk leaves it in a region that draws. -/
theorem upon_storeHl {o : Oper} {a : Act} {w w0 : World} {H H0 : Snap} {base b : Nat} {cs cs' : Array Value} {Q : Exit → Act → World → Prop} {K : Act → World → Prop} {f : Unit → World → Result Next} (h : HlV H base w b cs) (hs : cs'.size = 6) (h1 : cs'.all (·.oneCell') = true) (hX : Ext w0 H0 w H) (hb : w0.heap.size ≤ base)
    (hk : ∀ w', HlV H base w' b cs' → Ext w0 H0 w' H → (∀ k, k ≠ b → w'.heap[k]? = w.heap[k]?) → w'.heap.size = w.heap.size → Oper.upon Tryz.prog o a K Q (f () w')) :
    Oper.upon Tryz.prog o a K Q (((storeHl (.pointer (some ⟨b, 0, none⟩)) (.agg cs')).run Tryz.prog w).andThen f) := by
  obtain ⟨hr, hat⟩ := run_storeHl h hs h1
  rw [hr]
  have hbb := h.base
  have ho : ∀ k, k ≠ b → (w.setCells b 0 cs'.toList).heap[k]? = w.heap[k]? := fun k hk => setCells_other b _ _ _ k hk
  exact hk _ ⟨hat, hs, h.base, h.free⟩ (hX.step ((setCells_below b _ _ _).mono (by omega)) ⟨fun k o e => by
    have hne : k ≠ b := by
      rintro rfl; rw [h.free] at e; cases e
    rw [ho k hne]; exact hX.holds.at_ k o e⟩) ho (setCells_size b _ _ _)

end Go.Proofs.YtngdppajailpcaaGreat
