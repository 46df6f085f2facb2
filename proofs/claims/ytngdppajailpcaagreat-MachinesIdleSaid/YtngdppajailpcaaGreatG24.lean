/- Lemmas and walks on which the claims of this seat lean: M9w OpenS MOpen. -/
import Derived.Test.YtngdppajailpcaaGreatG06
import Derived.Test.YtngdppajailpcaaGreatG23

set_option linter.all false

namespace Go.Proofs.YtngdppajailpcaaGreat
open Go.RowKit

attribute [local go_sem] Holds.drew Holds.alloc Holds.drewN WB.holds

def exS : List Plate := [⟨0, 0, 1⟩, ⟨1, 0, 1⟩, ⟨2, 0, 1⟩]
theorem exK_valid : validHall exK = true := by decide +kernel
theorem exL_valid : validHall exL = true := by decide +kernel
theorem exK_fewest : fewestA exK = 6 ∧ errF exK = 0 := by decide +kernel
theorem exL_set : setA exL = exS ∧ errF exL = 0 := by decide +kernel
theorem exK_gain : gainA exK 1 0 = 3 ∧ gainE exK 1 0 = 0 := by decide +kernel
theorem exK_lacks : lacksA exK exS = [0] ∧ askM (validHall exK) (setOk exS) = 0 := by decide +kernel
theorem exK_extra : extraA exK exS = 3 ∧ errL (askM (validHall exK) (setOk exS)) (leastA exK (countsOf exS)) = 0 := by decide +kernel
theorem exK_can : canA exK exS 1 = true ∧ askM (validHall exK) (setOk exS && isCaseA exK 1) = 0 := by decide +kernel

theorem exFew (vm vb vt vo ve : Value) (H : Snap) (w : World) (hw : Holds H w) (hh : Hal H vm vb vt vo ve exK) :
    Calls Tryz.prog 14 #[halV vm vb vt vo ve exK] w (PostV w (.tuple #[.int .i64 6, .int .i64 0])) := by
  have h := fewestM_any vm vb vt vo ve exK H w hw hh
  rw [exK_fewest.1, exK_fewest.2] at h; exact h
theorem exSet (vm vb vt vo ve : Value) (H : Snap) (w : World) (hw : Holds H w) (hh : Hal H vm vb vt vo ve exL) :
    Calls Tryz.prog 16 #[halV vm vb vt vo ve exL] w (Post w H fun v H' => ∃ u, v = .tuple #[u, .int .i64 0] ∧ Sl H' u exS) := by
  have h := setM_any vm vb vt vo ve exL H w hw hh
  rw [exL_set.1, exL_set.2] at h; exact h
theorem exGain (vm vb vt vo ve : Value) (H : Snap) (w : World) (hw : Holds H w) (hh : Hal H vm vb vt vo ve exK) :
    Calls Tryz.prog 11 #[halV vm vb vt vo ve exK, .int .i64 1, .int .i64 0] w (PostV w (.tuple #[.int .i64 3, .int .i64 0])) := by
  have h := gainM_any vm vb vt vo ve exK 1 0 (by constructor <;> decide) (by constructor <;> decide) H w hw hh
  rw [exK_gain.1, exK_gain.2] at h; exact h
theorem exLacks (vm vb vt vo ve vs : Value) (H : Snap) (w : World) (hw : Holds H w) (hh : Hal H vm vb vt vo ve exK) (hs : Sl H vs exS) :
    Calls Tryz.prog 24 #[halV vm vb vt vo ve exK, vs] w (Post w H fun v H' => ∃ u, v = .tuple #[u, .int .i64 0] ∧ Sl H' u [(0 : Int)]) := by
  have h := lacksM_any vm vb vt vo ve vs exK exS H w hw hh hs
  rw [exK_lacks.1, exK_lacks.2] at h; exact h
theorem exExtra (vm vb vt vo ve vs : Value) (H : Snap) (w : World) (hw : Holds H w) (hh : Hal H vm vb vt vo ve exK) (hs : Sl H vs exS) :
    Calls Tryz.prog 27 #[halV vm vb vt vo ve exK, vs] w (PostV w (.tuple #[.int .i64 3, .int .i64 0])) := by
  have h := extra_any vm vb vt vo ve vs exK exS H w hw hh hs
  rw [exK_extra.1, exK_extra.2] at h; exact h
theorem exCan (vm vb vt vo ve vs : Value) (H : Snap) (w : World) (hw : Holds H w) (hh : Hal H vm vb vt vo ve exK) (hs : Sl H vs exS) :
    Calls Tryz.prog 22 #[halV vm vb vt vo ve exK, vs, .int .i64 1] w (PostV w (.tuple #[.bool true, .int .i64 0])) := by
  have h := canM_any vm vb vt vo ve vs exK exS 1 (by constructor <;> decide) H w hw hh hs
  rw [exK_can.1, exK_can.2] at h; exact h
theorem plateRep (H : Snap) (p : Plate) (h1 : I64 p.pg) (h2 : I64 p.br) (h3 : I64 p.mn) : Enc.rep H p [.int .i64 p.pg, .int .i64 p.br, .int .i64 p.mn] := ⟨rfl, h1, h2, h3⟩
theorem exS_lit {w0 w : World} {H0 H : Snap} (hx : Ext w0 H0 w H) : ∃ H2, SLe H H2 ∧ Ext w0 H0 (w.alloc (.cells #[.int .i64 0, .int .i64 0, .int .i64 1, .int .i64 1, .int .i64 0, .int .i64 1, .int .i64 2, .int .i64 0, .int .i64 1] 62)) H2 ∧ Sl H2 (.slice (some ⟨w.heap.size, 0, none⟩) 3 3) exS :=
  Ext.lit (xs := exS) (cs := [.int .i64 0, .int .i64 0, .int .i64 1, .int .i64 1, .int .i64 0, .int .i64 1, .int .i64 2, .int .i64 0, .int .i64 1]) hx
    ⟨_, [.int .i64 1, .int .i64 0, .int .i64 1, .int .i64 2, .int .i64 0, .int .i64 1], rfl, plateRep H ⟨0, 0, 1⟩ (by constructor <;> decide) (by constructor <;> decide) (by constructor <;> decide), _, [.int .i64 2, .int .i64 0, .int .i64 1], rfl, plateRep H ⟨1, 0, 1⟩ (by constructor <;> decide) (by constructor <;> decide) (by constructor <;> decide), _, [], rfl, plateRep H ⟨2, 0, 1⟩ (by constructor <;> decide) (by constructor <;> decide) (by constructor <;> decide), rfl⟩ _ (by simp [exS, Enc.by_]) (by simp [exS])

set_option maxRecDepth 100000 in
set_option maxHeartbeats 8000000 in
theorem works9_any (H : Snap) (w : World) (hw : Holds H w) :
    Calls Tryz.prog 9 #[] w (PostV w (.bool true)) := by
  go_enter Tryz.func9, Tryz.ntmps9
  go_upto_region 2 with (go_at_call 44; refine (example9_any H _ hw).mono ?_; rintro e w1 ⟨v, H1, rfl, hx1, vm, vb, vt, vo, ve, um, ub, ut, uo, ue, rfl, hh, hg⟩; obtain ⟨am, cm, rfl, _, _⟩ := hh.hs.m.form; obtain ⟨ab, cb, rfl, _, _⟩ := hh.hs.b.form; obtain ⟨at', ct, rfl, _, _⟩ := hh.hs.t.form; obtain ⟨ao, co, rfl, _, _⟩ := hh.bo.form; obtain ⟨ae, ce, rfl, _, _⟩ := hh.ed.form; obtain ⟨dm, em, rfl, _, _⟩ := hg.hs.m.form; obtain ⟨db, eb, rfl, _, _⟩ := hg.hs.b.form; obtain ⟨dt, et, rfl, _, _⟩ := hg.hs.t.form; obtain ⟨do_, eo, rfl, _, _⟩ := hg.bo.form; obtain ⟨de, ee, rfl, _, _⟩ := hg.ed.form)
  obtain ⟨x1, l1, p1⟩ := hx1.newF #[.slice am exK.hs.ms.length cm, .slice ab exK.hs.bs.length cb, .slice at' exK.hs.ts.length ct, .int .i64 exK.hs.ch, .slice ao exK.bo.length co, .slice ae exK.ed.length ce] 29
  generalize H1.put w1.heap.size (.cells #[.slice am exK.hs.ms.length cm, .slice ab exK.hs.bs.length cb, .slice at' exK.hs.ts.length ct, .int .i64 exK.hs.ch, .slice ao exK.bo.length co, .slice ae exK.ed.length ce] 29 (0, 0)) = HA at *
  obtain ⟨x2, l2, p2⟩ := x1.newF #[.slice dm exL.hs.ms.length em, .slice db exL.hs.bs.length eb, .slice dt exL.hs.ts.length et, .int .i64 exL.hs.ch, .slice do_ exL.bo.length eo, .slice de exL.ed.length ee] 29
  rw [heap_alloc_size'] at x2 l2 p2
  generalize HA.put (w1.heap.size + 1) (.cells #[.slice dm exL.hs.ms.length em, .slice db exL.hs.bs.length eb, .slice dt exL.hs.ts.length et, .int .i64 exL.hs.ch, .slice do_ exL.bo.length eo, .slice de exL.ed.length ee] 29 (0, 0)) = H2 at *
  generalize (w1.alloc (.cells #[.slice am exK.hs.ms.length cm, .slice ab exK.hs.bs.length cb, .slice at' exK.hs.ts.length ct, .int .i64 exK.hs.ch, .slice ao exK.bo.length co, .slice ae exK.ed.length ce] 29)).alloc (.cells #[.slice dm exL.hs.ms.length em, .slice db exL.hs.bs.length eb, .slice dt exL.hs.ts.length et, .int .i64 exL.hs.ch, .slice do_ exL.bo.length eo, .slice de exL.ed.length ee] 29) = w2 at *
  generalize w1.heap.size = B at *
  generalize B + 1 = C at *
  obtain ⟨hc0, hc1, hc2, hc3, hc4, hc5⟩ := cellsHal (h := exK) (l2 _ _ p1)
  obtain ⟨hd0, hd1, hd2, hd3, hd4, hd5⟩ := cellsHal (h := exL) p2
  replace hh := (hh.mono l1).mono l2
  replace hg := (hg.mono l1).mono l2
  have hw2 := x2.holds
  clear p1 p2 l1 l2 x1 hx1 hw
  go_wp2_with (first
    | (have hgd := x9; clear hgd; go_at_call 26; obtain ⟨Hk, lk, xk, sk⟩ := ints_lit1 x9 0 (by constructor <;> decide); refine (exSame _ _ _ Hk _ xk.holds (s6.mono (l9.trans lk)) sk).mono ?_; rintro e w10 ⟨rfl, hb10⟩; have x10 := xk.step (hb10.mono xk.below.size) (xk.holds.below hb10))
    | (have hgd := x8; clear hgd; go_at_call 18; obtain ⟨Hg, l9, xg, sg⟩ := exS_lit x8; refine (sameSets_any _ _ exS Hg _ xg.holds ((s4.mono l6).mono l9) sg).mono ?_; rintro e w9 ⟨rfl, hb9⟩; have x9 := xg.step (hb9.mono xg.below.size) (xg.holds.below hb9))
    | (have hgd := x7; clear hgd; go_at_call 22; refine (exCan _ _ _ _ _ _ H6 _ x7.holds (hh6) (s4.mono l6)).mono ?_; rintro e w8 ⟨rfl, hb8⟩; have x8 := x7.step (hb8.mono x7.below.size) (x7.holds.below hb8))
    | (have hgd := x6; clear hgd; go_at_call 27; refine (exExtra _ _ _ _ _ _ H6 _ x6.holds (hh6) (s4.mono l6)).mono ?_; rintro e w7 ⟨rfl, hb7⟩; have x7 := x6.step (hb7.mono x6.below.size) (x6.holds.below hb7); have hw7 := x7.holds)
    | (have hgd := x5; clear hgd; go_at_call 24; refine (exLacks _ _ _ _ _ _ H4 _ x5.holds hh4 s4).mono ?_; rintro e w6 ⟨v6, H6, rfl, y6, u6, rfl, s6⟩; obtain ⟨a6, c6, rfl, _, _⟩ := s6.form; have x6 := x5.trans y6; have l6 := y6.le x5.holds; have hw6 := x6.holds; have hh6 := hh4.mono l6; replace hc0 := lift l6 hc0; replace hc1 := lift l6 hc1; replace hc2 := lift l6 hc2; replace hc3 := lift l6 hc3; replace hc4 := lift l6 hc4; replace hc5 := lift l6 hc5)
    | (have hgd := x4; clear hgd; go_at_call 11; refine (exGain _ _ _ _ _ H4 _ x4.holds hh4).mono ?_; rintro e w5 ⟨rfl, hb5⟩; have x5 := x4.step (hb5.mono x4.below.size) (x4.holds.below hb5); have hw5 := x5.holds)
    | (have hgd := x3; clear hgd; go_at_call 16; refine (exSet _ _ _ _ _ H2 _ x3.holds hg).mono ?_; rintro e w4 ⟨v4, H4, rfl, y4, u4, rfl, s4⟩; obtain ⟨a4, c4, rfl, _, _⟩ := s4.form; have x4 := x3.trans y4; have l4 := y4.le x3.holds; have hw4 := x4.holds; have hh4 := hh.mono l4; replace hc0 := lift l4 hc0; replace hc1 := lift l4 hc1; replace hc2 := lift l4 hc2; replace hc3 := lift l4 hc3; replace hc4 := lift l4 hc4; replace hc5 := lift l4 hc5)
    | (go_at_call 14; refine (exFew _ _ _ _ _ H2 _ x2.holds hh).mono ?_; rintro e w3 ⟨rfl, hb3⟩; have x3 := x2.step (hb3.mono x2.below.size) (x2.holds.below hb3); have hw3 := x3.holds))
  go_ret
  exact ⟨rfl, x10.below⟩

end Go.Proofs.YtngdppajailpcaaGreat

namespace Go.Proofs.YtngdppajailpcaaGreat
open Go.RowKit Go.ChangeShapes Go.WideShapes Go.Deep Go.Joins

section
variable {H : Type} {enc : TypeId × Value → H} {W : World} {sp : Nat → Bool} {hd : Bool}

theorem int_field {n o : Nat} {cs : List Value} {y : DataW H × List MemPlace} (h : DataW.trod enc Tryz.prog W 0 sp hd n 3 ((cs.drop o).take (Tryz.prog.cellsOf 3)) = some y) : ∃ k : Int, cs[o]? = some (.int .i64 k) ∧ I64 k := by
  rw [cells_int] at h
  obtain ⟨k, e, _, w⟩ := DataW.trod_int Tryz.underlying3 h
  refine ⟨k, ?_, i64_of_wf w⟩
  have h1 := congrArg (fun l : List Value => l[0]?) e
  simp only [List.getElem?_take, List.getElem?_drop] at h1
  simpa using h1

theorem array3' {α : Type} {cs : Array α} (h : cs.size = 3) : ∃ a b c, cs = #[a, b, c] := by
  obtain ⟨l⟩ := cs
  match l, h with
  | [a, b, c], _ => exact ⟨a, b, c, rfl⟩
theorem array7 {α : Type} {cs : Array α} (h : cs.size = 7) : ∃ a b c d e f g, cs = #[a, b, c, d, e, f, g] := by
  obtain ⟨l⟩ := cs
  match l, h with
  | [a, b, c, d, e, f, g], _ => exact ⟨a, b, c, d, e, f, g, rfl⟩

set_option maxRecDepth 100000 in
theorem mach_opened {r : Reach} {b0 : Nat} {v : Value} {d : DataW H} {p : List MemPlace} (hv : Value.okWide Tryz.prog W r b0 97 v) (h : DataW.Trod enc Tryz.prog W 0 sp hd 97 v d p) :
    ∃ a b c : Int, v = .agg #[.int .i64 a, .int .i64 b, .int .i64 c] ∧ I64 a ∧ I64 b ∧ I64 c := by
  obtain ⟨cs, rfl, hsz⟩ := okWide_struct Tryz.underlying97 hv
  obtain ⟨c0, c1, c2, rfl⟩ := array3' (hsz.trans (by kernel_rfl))
  obtain ⟨fuel, hf⟩ := h
  obtain ⟨xs, n, _, _, _, hlen, hfld⟩ := DataW.trod_struct Tryz.underlying97 hf
  simp only [List.size_toArray, List.length_cons, List.length_nil] at hlen
  match xs, hlen with
  | [x0, x1, x2], _ =>
    obtain ⟨k0, e0, i0⟩ := int_field (hfld 0 _ rfl)
    obtain ⟨k1, e1, i1⟩ := int_field (hfld 1 _ rfl)
    obtain ⟨k2, e2, i2⟩ := int_field (hfld 2 _ rfl)
    simp [Value.cells] at e0 e1 e2
    exact ⟨k0, k1, k2, by rw [e0, e1, e2], i0, i1, i2⟩

end

end Go.Proofs.YtngdppajailpcaaGreat

namespace Go.Proofs.YtngdppajailpcaaGreat
open Go.RowKit Go.ChangeShapes Go.WideShapes Go.Deep Go.Joins

section
variable {H : Type} {enc : TypeId × Value → H} {W : World} {sp : Nat → Bool} {hd : Bool}

instance : Inhabited Plate := ⟨⟨0, 0, 0⟩⟩
theorem cells_house : Tryz.prog.cellsOf 26 = 4 := by kernel_rfl
theorem cells_machs : Tryz.prog.cellsOf 22 = 1 := by kernel_rfl
theorem cells_bunds : Tryz.prog.cellsOf 23 = 1 := by kernel_rfl
theorem cells_ints : Tryz.prog.cellsOf 24 = 1 := by kernel_rfl
theorem cells_lists : Tryz.prog.cellsOf 27 = 1 := by kernel_rfl
theorem cells_plates : Tryz.prog.cellsOf 39 = 1 := by kernel_rfl

theorem el_plate (n : Nat) (cs : List Value) (y : DataW H × List MemPlace) (h : DataW.trod enc Tryz.prog W 0 sp hd n 62 cs = some y) : ∃ x : Plate, Enc.rep (snapOf W) x cs := by
  obtain ⟨y0, y1, y2, m, _, hl, h0, h1, h2⟩ := trod_struct3 Tryz.underlying62 h
  obtain ⟨a, b, c, rfl⟩ := three (hl.trans (by kernel_rfl))
  simp only [cells_int, List.drop_zero, List.drop_succ_cons, List.take_succ_cons, List.take_zero] at h0 h1 h2
  obtain ⟨k0, e0, _, w0⟩ := DataW.trod_int Tryz.underlying3 h0
  obtain ⟨k1, e1, _, w1⟩ := DataW.trod_int Tryz.underlying3 h1
  obtain ⟨k2, e2, _, w2⟩ := DataW.trod_int Tryz.underlying3 h2
  simp at e0 e1 e2
  subst e0; subst e1; subst e2
  exact ⟨⟨k0, k1, k2⟩, rfl, i64_of_wf w0, i64_of_wf w1, i64_of_wf w2⟩
theorem plates_opened {n : Nat} {v : Value} {y : DataW H × List MemPlace} (h : DataW.trod enc Tryz.prog W 0 sp hd n 39 [v] = some y) (hw : ∀ k ∈ y.1.weights Tryz.prog 39, k ≤ reachBytes) : ∃ xs : List Plate, Sl (snapOf W) v xs :=
  Sl.opened Tryz.underlying39 (by kernel_rfl) (by decide) (by kernel_rfl) (fun n cs y h _ => el_plate n cs y h) h hw

theorem array2' {α : Type} {cs : Array α} (h : cs.size = 2) : ∃ a b, cs = #[a, b] := by
  obtain ⟨l⟩ := cs
  match l, h with
  | [a, b], _ => exact ⟨a, b, rfl⟩
theorem array6' {α : Type} {cs : Array α} (h : cs.size = 6) : ∃ a b c d e f, cs = #[a, b, c, d, e, f] := by
  obtain ⟨l⟩ := cs
  match l, h with
  | [a, b, c, d, e, f], _ => exact ⟨a, b, c, d, e, f, rfl⟩

set_option maxRecDepth 100000 in
/-- A hall that is handed in. -/
theorem hall_opened {r : Reach} {b0 : Nat} {v : Value} {d : DataW H} {p : List MemPlace} (hv : Value.okWide Tryz.prog W r b0 29 v) (h : DataW.Trod enc Tryz.prog W 0 sp hd 29 v d p)
    (hw : ∀ k ∈ d.weights Tryz.prog 29, k ≤ reachBytes) : ∃ vm vb vt vo ve hs, v = halV vm vb vt vo ve hs ∧ Hal (snapOf W) vm vb vt vo ve hs := by
  obtain ⟨cs, rfl, hsz⟩ := okWide_struct Tryz.underlying29 hv
  obtain ⟨c0, c1, c2, c3, c4, c5, rfl⟩ := array6' (hsz.trans (by kernel_rfl))
  obtain ⟨fuel, hf⟩ := h
  obtain ⟨y0, y1, y2, n, ex, _, h0, h1, h2⟩ := trod_struct3 Tryz.underlying29 hf
  simp only [Prod.mk.injEq] at ex
  obtain ⟨rfl, rfl⟩ := ex
  obtain ⟨z0, z1, z2, z3, m, ey0, _, g0, g1, g2, g3⟩ := trod_struct4 Tryz.underlying26 h0
  subst ey0
  simp only [DataW.weights, Tryz.underlying29, Tryz.underlying26, List.map_cons, List.map_nil, DataW.weightsEach, List.mem_append, List.append_nil] at hw
  simp only [Value.cells, cells_house, cells_machs, cells_bunds, cells_ints, cells_lists, cells_int, List.drop_zero, List.drop_succ_cons, List.take_succ_cons, List.take_zero] at g0 g1 g2 g3 h1 h2
  obtain ⟨ms, g0⟩ := machs_opened g0 (fun k hk => hw k (by simp [hk]))
  obtain ⟨bs, g1⟩ := bunds_opened g1 (fun k hk => hw k (by simp [hk]))
  obtain ⟨ts, g2⟩ := ints_opened g2 (fun k hk => hw k (by simp [hk]))
  obtain ⟨c, e, _, hc⟩ := DataW.trod_int Tryz.underlying3 g3
  obtain ⟨bo, h1⟩ := ints_opened h1 (fun k hk => hw k (by simp [hk]))
  obtain ⟨ed, h2⟩ := lists_opened h2 (fun k hk => hw k (by simp [hk]))
  simp at e
  subst e
  exact ⟨c0, c1, c2, c4, c5, ⟨⟨ms, bs, ts, c⟩, bo, ed⟩, rfl, ⟨⟨g0, g1, g2, i64_of_wf hc⟩, h1, h2⟩⟩

set_option maxRecDepth 100000 in
theorem case_opened {r : Reach} {b0 : Nat} {v : Value} {d : DataW H} {p : List MemPlace} (hv : Value.okWide Tryz.prog W r b0 44 v) (h : DataW.Trod enc Tryz.prog W 0 sp hd 44 v d p)
    (hw : ∀ k ∈ d.weights Tryz.prog 44, k ≤ reachBytes) : ∃ vs set stop, v = .agg #[vs, .int .i64 stop] ∧ Sl (snapOf W) vs (set : List Plate) ∧ I64 stop := by
  obtain ⟨cs, rfl, hsz⟩ := okWide_struct Tryz.underlying44 hv
  obtain ⟨c0, c1, rfl⟩ := array2' (hsz.trans (by kernel_rfl))
  obtain ⟨fuel, hf⟩ := h
  obtain ⟨y0, y1, n, ex, _, h0, h1⟩ := trod_struct2 Tryz.underlying44 hf
  simp only [Prod.mk.injEq] at ex
  obtain ⟨rfl, rfl⟩ := ex
  simp only [DataW.weights, Tryz.underlying44, List.map_cons, List.map_nil, DataW.weightsEach, List.mem_append, List.append_nil] at hw
  simp only [Value.cells, cells_plates, cells_int, List.drop_zero, List.drop_succ_cons, List.take_succ_cons, List.take_zero] at h0 h1
  obtain ⟨set, h0⟩ := plates_opened h0 (fun k hk => hw k (by simp [hk]))
  obtain ⟨c, e, _, hc⟩ := DataW.trod_int Tryz.underlying3 h1
  simp at e
  subst e
  exact ⟨c0, set, c, rfl, h0, i64_of_wf hc⟩

set_option maxRecDepth 100000 in
theorem plate_opened {r : Reach} {b0 : Nat} {v : Value} {d : DataW H} {p : List MemPlace} (hv : Value.okWide Tryz.prog W r b0 62 v) (h : DataW.Trod enc Tryz.prog W 0 sp hd 62 v d p) :
    ∃ a b c : Int, v = .agg #[.int .i64 a, .int .i64 b, .int .i64 c] ∧ I64 a ∧ I64 b ∧ I64 c := by
  obtain ⟨cs, rfl, hsz⟩ := okWide_struct Tryz.underlying62 hv
  obtain ⟨c0, c1, c2, rfl⟩ := array3' (hsz.trans (by kernel_rfl))
  obtain ⟨fuel, hf⟩ := h
  obtain ⟨xs, n, _, _, _, hlen, hfld⟩ := DataW.trod_struct Tryz.underlying62 hf
  simp only [List.size_toArray, List.length_cons, List.length_nil] at hlen
  match xs, hlen with
  | [x0, x1, x2], _ =>
    obtain ⟨k0, e0, i0⟩ := int_field (hfld 0 _ rfl)
    obtain ⟨k1, e1, i1⟩ := int_field (hfld 1 _ rfl)
    obtain ⟨k2, e2, i2⟩ := int_field (hfld 2 _ rfl)
    simp [Value.cells] at e0 e1 e2
    exact ⟨k0, k1, k2, by rw [e0, e1, e2], i0, i1, i2⟩

end

end Go.Proofs.YtngdppajailpcaaGreat
