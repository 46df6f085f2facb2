/- The walk of flonglaw04.better. -/
import Derived.Test.YteijmboophnmgaaBehind
import Derived.Deep.RegionLaw
import Derived.Deep.RegionWith
namespace Go.Proofs.Yteijmboophnmgaa
open Go.RowKit

attribute [local go_sem] Holds.drew Holds.alloc Holds.drewN WB.holds

def lo4 (a b c d : Int) : Int := min (min (min a b) c) d
def hi4 (a b c d : Int) : Int := max (max (max a b) c) d
theorem run_min_int4 {P : Program} {w : World} (ts : Array TypeId) (t : TypeId) (a b c d : Int) : (Builtin.min_ ts t #[.int .i64 a, .int .i64 b, .int .i64 c, .int .i64 d]).run P w = .ok (.int .i64 (lo4 a b c d)) w := by
  have e : ∀ x y : Int, (if y < x then y else x) = min x y := fun x y => by split <;> omega
  simp [Builtin.min_, Builtin.min2, lo4, e]
theorem run_max_int4 {P : Program} {w : World} (ts : Array TypeId) (t : TypeId) (a b c d : Int) : (Builtin.max_ ts t #[.int .i64 a, .int .i64 b, .int .i64 c, .int .i64 d]).run P w = .ok (.int .i64 (hi4 a b c d)) w := by
  have e : ∀ x y : Int, (if x < y then y else x) = max x y := fun x y => by split <;> omega
  simp [Builtin.max_, Builtin.max2, hi4, e]

theorem cells7 {H : Snap} {X : Nat} {a b c d e f g : Int} {t : TypeId} (h : H X = some (.cells (Value.agg #[.int .i64 a, .int .i64 b, .int .i64 c, .int .i64 d, .int .i64 e, .int .i64 f, .int .i64 g]).cells t (0, 0))) :
    (∀ w, Holds H w → w.cell? ⟨X, 0, none⟩ = some (.int .i64 a)) ∧ (∀ w, Holds H w → w.cell? ⟨X, 1, none⟩ = some (.int .i64 b)) ∧ (∀ w, Holds H w → w.cell? ⟨X, 2, none⟩ = some (.int .i64 c)) ∧ (∀ w, Holds H w → w.cell? ⟨X, 3, none⟩ = some (.int .i64 d)) ∧
      (∀ w, Holds H w → w.cell? ⟨X, 4, none⟩ = some (.int .i64 e)) ∧ (∀ w, Holds H w → w.cell? ⟨X, 5, none⟩ = some (.int .i64 f)) ∧ (∀ w, Holds H w → w.cell? ⟨X, 6, none⟩ = some (.int .i64 g)) :=
  ⟨fun _ hw => cellH h hw 0, fun _ hw => cellH h hw 1, fun _ hw => cellH h hw 2, fun _ hw => cellH h hw 3, fun _ hw => cellH h hw 4, fun _ hw => cellH h hw 5, fun _ hw => cellH h hw 6⟩

def betterTs (h : House) (t lt : Int) : List Int := if within t 0 ((h.ts.length : Int) - 1) then h.ts.set t.toNat (h.ts.getD t.toNat 0 + lt) else h.ts
def betterBs (h : House) (bn : Int) : List Bund := if within bn 0 ((h.bs.length : Int) - 1) then h.bs.take bn.toNat ++ h.bs.drop (bn.toNat + 1) else h.bs
def BetterPost (h : House) (m pc rd t lt cg bn : Int) (v : Value) (H' : Snap) : Prop :=
  ∃ um ub ut o b, v = .tuple #[houV um ub ut o, .bool b] ∧ Hou H' um ub ut o ∧ (b = true → o = betterH h m pc rd t lt cg bn ∧ Valid o ∧ 0 ≤ pc ∧ 0 ≤ rd ∧ 0 ≤ lt ∧ 0 ≤ cg)

set_option maxRecDepth 100000 in
set_option maxHeartbeats 8000000 in
theorem better_any (vm vb vt : Value) (h : House) (m pc rd t lt cg bn : Int) (hI : I64 m ∧ I64 pc ∧ I64 rd ∧ I64 t ∧ I64 lt ∧ I64 cg ∧ I64 bn) (hv : Valid h) (H : Snap) (w : World) (hw : Holds H w) (hh : Hou H vm vb vt h) :
    Calls Try.prog 33 #[houV vm vb vt h, .agg #[.int .i64 m, .int .i64 pc, .int .i64 rd, .int .i64 t, .int .i64 lt, .int .i64 cg, .int .i64 bn]] w
      (Post w H (BetterPost h m pc rd t lt cg bn)) := by
  go_enter Try.func33, Try.ntmps33
  go_upto_region 1 with (first
    | (have hgd := hx0; refine wpList_boxF rfl _ rfl hx0 ?_; intro X w1 H1 hle2 hx hX hXw; obtain ⟨hX0, hX1, hX2, hX3, hX4, hX5, hX6⟩ := cells7 (a := m) (b := pc) (c := rd) (d := t) (e := lt) (f := cg) (g := bn) hX; clear hX hgd; replace hc0 := lift hle2 hc0; replace hc1 := lift hle2 hc1; replace hc2 := lift hle2 hc2; replace hc3 := lift hle2 hc3; have hle := hle0.trans hle2; have hw1 := hx.holds; clear hx0)
    | (refine wpList_boxF rfl _ rfl (Ext.refl hw) ?_; intro B w0 H0 hle0 hx0 hB hBw; obtain ⟨hc0, hc1, hc2, hc3⟩ := cellsHou hB; clear hB hw))
  have hxz := hx.alloc (.cells #[.slice none 0 0, .slice none 0 0, .slice none 0 0, .int .i64 0] 26); have hrz : Rdy w1.heap.size 26 (w1.alloc (.cells #[.slice none 0 0, .slice none 0 0, .slice none 0 0, .int .i64 0] 26)) := ⟨_, _, _, _, heap_alloc_new _ _⟩; have hgr : w.heap.size ≤ w1.heap.size := hx.below.size; have hnr : H1 w1.heap.size = none := hw1.none_of_ge (Nat.le_refl _); have hhm := hh.mono hle; generalize w1.heap.size = R at *; generalize w1.alloc (.cells #[.slice none 0 0, .slice none 0 0, .slice none 0 0, .int .i64 0] 26) = wz at *; clear hx hw1; have hwz := hxz.holds
  go_upto_region 2 with (go_at_call 29; refine (copy4_any _ _ _ _ H1 _ hwz hhm).mono ?_; rintro e w3 ⟨um, ub, ut, H3, rfl, y3, om, ob, ot⟩; obtain ⟨am, cm, rfl, _, _⟩ := om.form; obtain ⟨ab, cb, rfl, _, _⟩ := ob.form; obtain ⟨at', ct, rfl, _, _⟩ := ot.form)
  have hhm' := hhm.mono (y3.le hwz)
  have hb4 := HBox.make (h := h) om ob ot hh.c y3.holds y3.below.size; have x4 := (hxz.trans y3).alloc (.cells #[.slice am h.ms.length cm, .slice ab h.bs.length cb, .slice at' h.ts.length ct, .int .i64 h.ch] 26); have hr4 := (hrz.below y3.below hrz.lt).alloc (.cells #[.slice am h.ms.length cm, .slice ab h.bs.length cb, .slice at' h.ts.length ct, .int .i64 h.ch] 26); have hRn : H3 R = none := (y3.same R hrz.lt).trans hnr; have hRb : R < wz.heap.size := hrz.lt; have hwb : w.heap.size ≤ wz.heap.size := hxz.below.size; have l3 := y3.le hwz; generalize w3.alloc (.cells #[.slice am h.ms.length cm, .slice ab h.bs.length cb, .slice at' h.ts.length ct, .int .i64 h.ch] 26) = w4 at *; generalize w3.heap.size = C at *; clear om ob ot hxz hrz hwz hhm
  replace hc0 := lift l3 hc0
  replace hc1 := lift l3 hc1
  replace hc2 := lift l3 hc2
  replace hc3 := lift l3 hc3
  replace hX0 := lift l3 hX0
  replace hX1 := lift l3 hX1
  replace hX2 := lift l3 hX2
  replace hX3 := lift l3 hX3
  replace hX4 := lift l3 hX4
  replace hX5 := lift l3 hX5
  replace hX6 := lift l3 hX6
  clear l3 y3 hh hle hle2
  have hw4 := x4.holds
  have hmin := fun (P : Program) (w : World) ts t => run_min_int4 (P := P) (w := w) ts t pc rd lt cg
  have hmax := fun (P : Program) (w : World) ts t => run_max_int4 (P := P) (w := w) ts t pc rd lt cg
  have hlo : 0 ≤ lo4 pc rd lt cg → 0 ≤ pc ∧ 0 ≤ rd ∧ 0 ≤ lt ∧ 0 ≤ cg := by unfold lo4; omega
  have hhi : hi4 pc rd lt cg ≤ 100 → pc ≤ 100 ∧ rd ≤ 100 ∧ lt ≤ 100 ∧ cg ≤ 100 := by unfold hi4; omega
  generalize lo4 pc rd lt cg = lo at *
  generalize hi4 pc rd lt cg = hi at *
  have hbl : C < w4.heap.size := hb4.lt
  by_cases hbad : lo < 0 ∨ 100 < hi
  · obtain ⟨c0, c1, c2, c3⟩ := hb4.cells; obtain ⟨r0, hr0⟩ := hr4.cell 0 (by omega); obtain ⟨r1, hr1⟩ := hr4.cell 1 (by omega); obtain ⟨r2, hr2⟩ := hr4.cell 2 (by omega); obtain ⟨r3, hr3⟩ := hr4.cell 3 (by omega); have hf0 := hr4.fz 0; have hf1 := hr4.fz 1; have hf2 := hr4.fz 2; have hf3 := hr4.fz 3; obtain ⟨hrow, H', hx', hh'⟩ := hb4.out x4 hr4 hRn hwb hRb hgr; replace hrow := Lib.hid hrow; replace hx' := Lib.hid hx'
    go_wp2_with fail
    all_goals refine bodyPost_ret (results_cell_slot rfl _ _ R 26 _ (0, 0) _ rfl hrow.out Try.underlying26 rfl (by kernel_rfl)) rfl ?_
    all_goals exact ⟨_, H', rfl, hx'.out, .slice am h.ms.length cm, .slice ab h.bs.length cb, .slice at' h.ts.length ct, h, false, rfl, hh', fun e => by cases e⟩
  · have hok := hlo (by omega)
    have hok2 := hhi (by omega)
    go_upto_region 4 with fail
    clear hmin hmax hlo hhi
    have hxr := x4
    have hcb := within_iff.1 hv.ch
    cases hm : within m 0 ((h.ms.length : Int) - 1)
    · go_upto_region 9 with (go_at_call 65; refine (isMachine4_any _ _ _ _ _ H3 _ hw4 hhm').mono ?_; rintro e w5 ⟨rfl, hb5⟩; rw [hm]; have hw5 := hw4.below hb5)
      have hb9 := hb4.below hw4 hb5
      have x9 := x4.step (hb5.mono x4.below.size) hw5
      have hr9 := hr4.below hb5 hr4.lt
      obtain ⟨ms9, hms9⟩ : ∃ x, Hid ((betterH h m pc rd t lt cg bn).ms = x) := ⟨_, rfl⟩
      have hb9' : HBox H3 wz.heap.size w5 C (.slice am h.ms.length cm) (.slice ab h.bs.length cb) (.slice at' h.ts.length ct) { h with ms := ms9 } := by
        have : ms9 = h.ms := by rw [← hms9.out]; unfold betterH; simp only [hm]; rfl
        rw [this]; exact hb9
      clear hb9 hb4 x4 hr4 hw4 hb5 hm hxr
      generalize Value.slice am h.ms.length cm = um at *
      generalize w5 = w9 at *
      have hw9 := hw5
      cases hT : within t 0 ((h.ts.length : Int) - 1)
      · go_upto_region 11 with (go_at_call 22; refine (isTrain4_any _ _ _ _ _ H3 _ hw9 hhm').mono ?_; rintro e w10 ⟨rfl, hb10⟩; rw [hT]; have hw10 := hw9.below hb10; have hbT := hb9'.below hw9 hb10; have xT := x9.step (hb10.mono x9.below.size) hw10; have hrT := hr9.below hb10 hr9.lt)
        obtain ⟨ts9, hts9⟩ : ∃ x, Hid (h.ts = x) := ⟨_, rfl⟩
        have hbU : HBox H3 wz.heap.size w10 C um (.slice ab h.bs.length cb) (.slice at' h.ts.length ct) { h with ms := ms9, ts := ts9 } := by rw [← hts9.out]; exact hbT
        replace hts9 : Hid (betterTs h t lt = ts9) := by show _ = _; rw [← hts9.out]; unfold betterTs; simp only [hT]; rfl
        have xU := xT
        have hrU := hrT
        clear hbT xT hrT hb9' x9 hr9 hw9 hb10 hT
        generalize Value.slice at' h.ts.length ct = ut at *
        generalize w10 = wU at *
        have hwU := xU.holds
        obtain ⟨e0, e1, e2, e3⟩ := hbU.cells
        have hfU := hbU.fz 3
        dsimp only at e3
        go_upto_region 12 with fail
        have hbV := hbU.putC (h.ch - cg) (by omega)
        have xV := xU.setCell (a := ⟨C, 3, none⟩) (Nat.le_trans hwb hbU.ge) hbU.hC (.int .i64 (h.ch - cg))
        have hrV := hrU.other (a := ⟨C, 3, none⟩) (fun e => by have := hbU.ge; simp at e; omega) (.int .i64 (h.ch - cg))
        replace hbV : HBox H3 wz.heap.size (wU.setCell ⟨C, 3, none⟩ (.int .i64 (h.ch - cg))) C um (.slice ab h.bs.length cb) ut ⟨ms9, h.bs, ts9, h.ch - cg⟩ := hbV
        clear hbU xU hrU hwU e0 e1 e2 e3 hfU
        generalize wU.setCell ⟨C, 3, none⟩ (.int .i64 (h.ch - cg)) = wV at *
        have hwV := xV.holds
        cases hB : within bn 0 ((h.bs.length : Int) - 1)
        · obtain ⟨_, _, rfl, _, _⟩ := hhm'.b.form
          go_upto_region 14 with (go_at_call 25; refine (within_any _ _ _ _).mono ?_; rintro e w6 ⟨rfl, rfl⟩; rw [hB])
          obtain ⟨bs9, hbs9⟩ : ∃ x, Hid (h.bs = x) := ⟨_, rfl⟩
          have hbW : HBox H3 wz.heap.size wV C um (.slice ab h.bs.length cb) ut ⟨ms9, bs9, ts9, h.ch - cg⟩ := by rw [← hbs9.out]; exact hbV
          replace hbs9 : Hid (betterBs h bn = bs9) := by show _ = _; rw [← hbs9.out]; unfold betterBs; simp only [hB]; rfl
          have xW := xV
          have hrW := hrV
          clear hbV xV hrV hB
          generalize Value.slice ab h.bs.length cb = ub at *
          generalize wV = wW at *
          have hwW := xW.holds
          generalize ho : (⟨ms9, bs9, ts9, h.ch - cg⟩ : House) = o at hbW
          obtain ⟨am9, cm9, rfl, _, _⟩ := hbW.m.form
          obtain ⟨ab9, cb9, rfl, _, _⟩ := hbW.b.form
          obtain ⟨at9, ct9, rfl, _, _⟩ := hbW.t.form
          obtain ⟨H4, x4c, _, hho⟩ := (hbW.weaken hwb).close xW
          obtain ⟨c0, c1, c2, c3⟩ := hbW.cells
          clear hhm' hX0 hX1 hX2 hX3 hX4 hX5 hX6 hc0 hc1 hc2 hc3
          replace ho := Lib.hid ho
          cases hvo : valid o
          all_goals
            have he := errT_val o
            rw [hvo] at he
            go_region_with (go_at_call 35; refine (check4_any _ _ _ _ H4 _ (by first | exact x4c.holds | exact x4c.holds.drew) hho).mono ?_; rintro e w9 ⟨rfl, hb9⟩; have hbW2 := HBox.below (by first | exact hbW | exact hbW.drew) (by first | exact hwW | exact hwW.drew) hb9; have xW2 := Ext.step (by first | exact xW | exact xW.drew) (hb9.mono xW.below.size) (Holds.below (by first | exact hwW | exact hwW.drew) hb9); have hrW2 := Rdy.below (by first | exact hrW | exact hrW.drew) hb9 hrW.lt; obtain ⟨c0, c1, c2, c3⟩ := hbW2.cells; obtain ⟨r0, hr0⟩ := hrW2.cell 0 (by omega); obtain ⟨r1, hr1⟩ := hrW2.cell 1 (by omega); obtain ⟨r2, hr2⟩ := hrW2.cell 2 (by omega); obtain ⟨r3, hr3⟩ := hrW2.cell 3 (by omega); have hf0 := hrW2.fz 0; have hf1 := hrW2.fz 1; have hf2 := hrW2.fz 2; have hf3 := hrW2.fz 3; obtain ⟨hrow, H', hx', hh'⟩ := hbW2.out xW2 hrW2 hRn hwb hRb hgr; replace hrow := Lib.hid hrow; replace hx' := Lib.hid hx')
            all_goals
              go_wp2_with fail
              refine bodyPost_ret (results_cell_slot rfl _ _ R 26 _ (0, 0) _ rfl hrow.out Try.underlying26 rfl (by kernel_rfl)) rfl ?_
              exact ⟨_, H', rfl, hx'.out, .slice am9 o.ms.length cm9, .slice ab9 o.bs.length cb9, .slice at9 o.ts.length ct9, o, valid o, by first | rfl | (simp [hvo, errT]; done) | (simp [hvo, errT]; rfl), hh', fun e => ⟨by rw [← ho.out, ← hms9.out, ← hts9.out, ← hbs9.out]; rfl, valid_iff.1 e, by first | exact hok | exact ⟨by omega, by omega, by omega, by omega⟩⟩⟩
        · have hbb := within_iff.1 hB
          obtain ⟨q, rfl⟩ := Int.eq_ofNat_of_zero_le hbb.1
          have hql : q < h.bs.length := by omega
          have hq0 : 0 ≤ (q : Int) := by omega
          have hq1 : (q : Int) < (h.bs.length : Int) := by omega
          obtain ⟨zb, hzb⟩ := At.mk hql
          obtain ⟨vbb, vbo, vbc, hev, _, _⟩ := hhm'.b.bund hzb
          cases hev
          obtain ⟨_, _, hev, hcap1, hcap2⟩ := hhm'.b.form
          cases hev
          have hbs5 := hv.b5
          go_upto_region 13 with (go_at_call 25; refine (within_any _ _ _ _).mono ?_; rintro e w6 ⟨rfl, rfl⟩; rw [hB])
          have htk := hhm'.b.take (k := q) (by omega)
          have hdk : Sl H3 (.slice (if vbc = q + 1 then some ⟨vbb, vbo, none⟩ else some ⟨vbb, vbo + (q + 1) * 3, none⟩) (h.bs.length - (q + 1)) (vbc - (q + 1))) (h.bs.drop (q + 1)) := by
            split
            · have e1 : h.bs.length - (q + 1) = 0 := by omega
              rw [e1, List.drop_eq_nil_of_le (by omega)]
              exact Sl.nil _ _ (by omega)
            · exact hhm'.b.drop (k := q + 1) (by omega)
          have hq2 : (q : Int) ≤ (vbc : Int) := by omega
          have hq3 : (q : Int) + 1 ≤ (h.bs.length : Int) := by omega
          have hq4 : 0 ≤ (q : Int) + 1 := by omega
          have hCn := hbV.hC
          have hCw : w.heap.size ≤ C := Nat.le_trans hwb hbV.ge
          have hCl := hbV.lt
          have hbz : wz.heap.size ≤ wV.heap.size := by have := hbV.ge; omega
          have hmN : ∀ k, um.ownBlock = some k → k < wV.heap.size := fun k e => (hbV.m.lt k e).2
          have hbN : ∀ k, (Value.slice ab h.bs.length cb).ownBlock = some k → k < wV.heap.size := fun k e => (hbV.b.lt k e).2
          have htN : ∀ k, ut.ownBlock = some k → k < wV.heap.size := fun k e => (hbV.t.lt k e).2
          have hRl := hrV.lt
          have hE : Own H3 wz.heap.size (wV.alloc (.cells #[] 58)).drew 58 (.slice (some ⟨wV.heap.size, 0, none⟩) 0 0) ([] : List Bund) := (Own.emptyG rfl hwV hbz).drew
          have hbE := (hbV.alloc (.cells #[] 58)).drew
          have xE := (xV.alloc (.cells #[] 58)).drew
          have hrE := (hrV.alloc (.cells #[] 58)).drew
          have hwE := xE.holds
          have hsE : (wV.alloc (.cells #[] 58)).drew.heap.size = wV.heap.size + 1 := by show (wV.alloc _).heap.size = _; simp
          have hnE : H3 wV.heap.size = none := hwV.none_of_ge (Nat.le_refl _)
          have htl : (h.bs.take q).length ≤ 5 := by rw [List.length_take]; omega
          have hdl : (h.bs.drop (q + 1)).length ≤ 5 := by rw [List.length_drop]; omega
          have hwrp : IntKind.i64.wrap ((q : Int) + 1) = (q : Int) + 1 := by rw [IntKind.wrap_i64]; omega
          generalize htke : h.bs.take q = tk at *
          generalize hdke : h.bs.drop (q + 1) = dk at *
          go_region_held3 (fun w' => Holds H3 w' ∧ Ext w H w' H3) (first | assumption | exact ⟨by assumption, by assumption⟩ | (go_split_ands; exact ⟨Holds.drew (by assumption), Ext.drew (by assumption)⟩) | (go_split_ands; exact ⟨Holds.alloc (by assumption) _, Ext.alloc (by assumption) _⟩) | (go_split_ands; exact ⟨Holds.setCell (by assumption) hCn _, Ext.setCell (by assumption) hCw hCn _⟩)) (first
            | (have hgd := own1; clear hgd; go_split_ands; refine step_app (H := H3) (base := wz.heap.size) eBund rfl _ _ rfl rfl own1 rfl hdk hwA (by simp [Enc.by_]; omega) (by simp; omega) (by have := hg1.size; omega) ?_; intro v2 wB own2 hg2 hwB hat2; have hbB := hbA.grownHigh hCl hmN hbN htN hg2 hv1; have xB : Ext w H wB H3 := xA.grown hg2 (fun k e => Nat.le_trans (Nat.le_trans hwb hbz) (hv1 k e)) (fun k e => own1.free k e); have hrB := hrA.grown hg2 (fun e => by have := hv1 _ e; omega); have hcB : wB.cell? ⟨C, 1, none⟩ = _ := cell_of_row wB C 1 _ _ _ hbB.row; have hfB := hbB.fz 1; obtain ⟨a2, c2, rfl, _, _⟩ := own2.form)
            | (go_split_ands; refine step_app (H := H3) (base := wz.heap.size) eBund rfl _ _ rfl rfl hE rfl htk hwE (by simp [Enc.by_]; omega) (by simp; omega) (by omega) ?_; intro v1 wA own1 hg1 hwA hat1; replace hg1 : World.grownBy (wV.alloc (.cells #[] 58)).drew wA (some wV.heap.size) := hg1; replace hat1 : v1.ownBlock = some wV.heap.size ∨ v1.ownBlock = some (wV.alloc (.cells #[] 58)).drew.heap.size := hat1; have hbA := hbE.grownHigh hCl hmN hbN htN hg1 (fun k e => by cases e; exact Nat.le_refl _); have xA : Ext w H wA H3 := xE.grown hg1 (fun k e => by cases e; omega) (fun k e => by cases e; exact hnE); have hrA := hrE.grown hg1 (fun e => by simp at e; omega); have hv1 : ∀ k, v1.ownBlock = some k → wV.heap.size ≤ k := (fun k e => by rcases hat1 with e1 | e1 <;> rw [e1] at e <;> simp only [Option.some.injEq] at e <;> omega); obtain ⟨a1, c1, rfl, _, _⟩ := own1.form))
          have hbF := hbB.putB own2
          have xF := xB.setCell (a := ⟨C, 1, none⟩) hCw hCn (.slice a2 (([] : List Bund) ++ tk ++ dk).length c2)
          have hrF := hrB.other (a := ⟨C, 1, none⟩) (fun e => by have := hbV.ge; simp at e; omega) (.slice a2 (([] : List Bund) ++ tk ++ dk).length c2)
          rw [show (([] : List Bund) ++ tk ++ dk).length = tk.length + dk.length by simp] at hbF xF hrF
          obtain ⟨bs9, hbs9⟩ : ∃ x, Hid (betterBs h (q : Int) = x) := ⟨_, rfl⟩
          have hsB : ([] : List Bund) ++ tk ++ dk = bs9 := by
            rw [← hbs9.out]; unfold betterBs; simp only [hB]
            rw [Int.toNat_natCast, htke, hdke]; rfl
          have hbW : HBox H3 wz.heap.size (wB.setCell ⟨C, 1, none⟩ (.slice a2 (tk.length + dk.length) c2)) C um (.slice a2 (tk.length + dk.length) c2) ut ⟨ms9, bs9, ts9, h.ch - cg⟩ := by rw [← hsB]; exact hbF
          have xW := xF
          have hrW := hrF
          clear hbF xF hrF hsB hbB xB hrB hcB hfB own2 hg2 hwB hat2 own1 hg1 hwA hat1 hbA xA hrA hv1 hE hbE xE hrE hwE hsE hnE htl hdl hwrp htk hdk hmN hbN htN hbV xV hrV hwV hB
          generalize Value.slice (if vbc = q + 1 then some (⟨vbb, vbo, none⟩ : Addr) else some ⟨vbb, vbo + (q + 1) * 3, none⟩) (h.bs.length - (q + 1)) (vbc - (q + 1)) = vdk at *
          go_upto_region 14 with fail
          generalize wB.setCell ⟨C, 1, none⟩ (.slice a2 (tk.length + dk.length) c2) = wW at *
          generalize Value.slice a2 (tk.length + dk.length) c2 = ub at *
          have hwW := xW.holds
          generalize ho : (⟨ms9, bs9, ts9, h.ch - cg⟩ : House) = o at hbW
          obtain ⟨am9, cm9, rfl, _, _⟩ := hbW.m.form
          obtain ⟨ab9, cb9, rfl, _, _⟩ := hbW.b.form
          obtain ⟨at9, ct9, rfl, _, _⟩ := hbW.t.form
          obtain ⟨H4, x4c, _, hho⟩ := (hbW.weaken hwb).close xW
          obtain ⟨c0, c1, c2, c3⟩ := hbW.cells
          clear hhm' hX0 hX1 hX2 hX3 hX4 hX5 hX6 hc0 hc1 hc2 hc3
          replace ho := Lib.hid ho
          cases hvo : valid o
          all_goals
            have he := errT_val o
            rw [hvo] at he
            go_region_with (go_at_call 35; refine (check4_any _ _ _ _ H4 _ (by first | exact x4c.holds | exact x4c.holds.drew) hho).mono ?_; rintro e w9 ⟨rfl, hb9⟩; have hbW2 := HBox.below (by first | exact hbW | exact hbW.drew) (by first | exact hwW | exact hwW.drew) hb9; have xW2 := Ext.step (by first | exact xW | exact xW.drew) (hb9.mono xW.below.size) (Holds.below (by first | exact hwW | exact hwW.drew) hb9); have hrW2 := Rdy.below (by first | exact hrW | exact hrW.drew) hb9 hrW.lt; obtain ⟨c0, c1, c2, c3⟩ := hbW2.cells; obtain ⟨r0, hr0⟩ := hrW2.cell 0 (by omega); obtain ⟨r1, hr1⟩ := hrW2.cell 1 (by omega); obtain ⟨r2, hr2⟩ := hrW2.cell 2 (by omega); obtain ⟨r3, hr3⟩ := hrW2.cell 3 (by omega); have hf0 := hrW2.fz 0; have hf1 := hrW2.fz 1; have hf2 := hrW2.fz 2; have hf3 := hrW2.fz 3; obtain ⟨hrow, H', hx', hh'⟩ := hbW2.out xW2 hrW2 hRn hwb hRb hgr; replace hrow := Lib.hid hrow; replace hx' := Lib.hid hx')
            all_goals
              go_wp2_with fail
              refine bodyPost_ret (results_cell_slot rfl _ _ R 26 _ (0, 0) _ rfl hrow.out Try.underlying26 rfl (by kernel_rfl)) rfl ?_
              exact ⟨_, H', rfl, hx'.out, .slice am9 o.ms.length cm9, .slice ab9 o.bs.length cb9, .slice at9 o.ts.length ct9, o, valid o, by first | rfl | (simp [hvo, errT]; done) | (simp [hvo, errT]; rfl), hh', fun e => ⟨by rw [← ho.out, ← hms9.out, ← hts9.out, ← hbs9.out]; rfl, valid_iff.1 e, by first | exact hok | exact ⟨by omega, by omega, by omega, by omega⟩⟩⟩
      · have htb := within_iff.1 hT
        obtain ⟨j, rfl⟩ := Int.eq_ofNat_of_zero_le htb.1
        have hjl : j < h.ts.length := by omega
        have hj0 : 0 ≤ (j : Int) := by omega
        have hj1 : (j : Int) < (h.ts.length : Int) := by omega
        obtain ⟨y, hyj⟩ := At.mk hjl
        have hyb := ts_bd hv hyj
        go_upto_region 10 with (go_at_call 22; refine (isTrain4_any _ _ _ _ _ H3 _ hw9 hhm').mono ?_; rintro e w10 ⟨rfl, hb10⟩; rw [hT]; have hw10 := hw9.below hb10; have hbT := hb9'.below hw9 hb10; have xT := x9.step (hb10.mono x9.below.size) hw10; have hrT := hr9.below hb10 hr9.lt; obtain ⟨e0, e1, e2, e3⟩ := hbT.cells; obtain ⟨gt, ct', hev, _, hgc, hgf, hgtb, hgtn, hsetT⟩ := hbT.setT hyj; cases hev)
        go_region
        have hyI : -9223372036854775808 ≤ y + lt ∧ y + lt ≤ 9223372036854775807 := by omega
        have hbU0 := (hsetT (y + lt) hyI).drew
        have xU := (xT.setCell (a := ⟨gt, j, none⟩) (Nat.le_trans hwb hgtb) hgtn (.int .i64 (y + lt))).drew
        have hrU := (hrT.other (a := ⟨gt, j, none⟩) (fun e => by simp at e; omega) (.int .i64 (y + lt))).drew
        obtain ⟨ts9, hts9⟩ : ∃ x, Hid (betterTs h (j : Int) lt = x) := ⟨_, rfl⟩
        have hsT : h.ts.set j (y + lt) = ts9 := by
          rw [← hts9.out]; unfold betterTs; simp only [hT]
          rw [Int.toNat_natCast, hyj.getD]; rfl
        have hbU : HBox H3 wz.heap.size (w10.setCell ⟨gt, j, none⟩ (.int .i64 (y + lt))).drew C um (.slice ab h.bs.length cb) (.slice (some ⟨gt, 0, none⟩) h.ts.length ct) { h with ms := ms9, ts := ts9 } := by rw [← hsT]; exact hbU0
        clear hbU0 hsetT hbT xT hrT hb9' x9 hr9 hw9 hb10 hT hsT hgc hgf e0 e1 e2 e3
        generalize Value.slice (some ⟨gt, 0, none⟩) h.ts.length ct = ut at *
        generalize (w10.setCell ⟨gt, j, none⟩ (.int .i64 (y + lt))).drew = wU at *
        have hwU := xU.holds
        obtain ⟨e0, e1, e2, e3⟩ := hbU.cells
        have hfU := hbU.fz 3
        dsimp only at e3
        go_upto_region 12 with fail
        have hbV := hbU.putC (h.ch - cg) (by omega)
        have xV := xU.setCell (a := ⟨C, 3, none⟩) (Nat.le_trans hwb hbU.ge) hbU.hC (.int .i64 (h.ch - cg))
        have hrV := hrU.other (a := ⟨C, 3, none⟩) (fun e => by have := hbU.ge; simp at e; omega) (.int .i64 (h.ch - cg))
        replace hbV : HBox H3 wz.heap.size (wU.setCell ⟨C, 3, none⟩ (.int .i64 (h.ch - cg))) C um (.slice ab h.bs.length cb) ut ⟨ms9, h.bs, ts9, h.ch - cg⟩ := hbV
        clear hbU xU hrU hwU e0 e1 e2 e3 hfU
        generalize wU.setCell ⟨C, 3, none⟩ (.int .i64 (h.ch - cg)) = wV at *
        have hwV := xV.holds
        cases hB : within bn 0 ((h.bs.length : Int) - 1)
        · obtain ⟨_, _, rfl, _, _⟩ := hhm'.b.form
          go_upto_region 14 with (go_at_call 25; refine (within_any _ _ _ _).mono ?_; rintro e w6 ⟨rfl, rfl⟩; rw [hB])
          obtain ⟨bs9, hbs9⟩ : ∃ x, Hid (h.bs = x) := ⟨_, rfl⟩
          have hbW : HBox H3 wz.heap.size wV C um (.slice ab h.bs.length cb) ut ⟨ms9, bs9, ts9, h.ch - cg⟩ := by rw [← hbs9.out]; exact hbV
          replace hbs9 : Hid (betterBs h bn = bs9) := by show _ = _; rw [← hbs9.out]; unfold betterBs; simp only [hB]; rfl
          have xW := xV
          have hrW := hrV
          clear hbV xV hrV hB
          generalize Value.slice ab h.bs.length cb = ub at *
          generalize wV = wW at *
          have hwW := xW.holds
          generalize ho : (⟨ms9, bs9, ts9, h.ch - cg⟩ : House) = o at hbW
          obtain ⟨am9, cm9, rfl, _, _⟩ := hbW.m.form
          obtain ⟨ab9, cb9, rfl, _, _⟩ := hbW.b.form
          obtain ⟨at9, ct9, rfl, _, _⟩ := hbW.t.form
          obtain ⟨H4, x4c, _, hho⟩ := (hbW.weaken hwb).close xW
          obtain ⟨c0, c1, c2, c3⟩ := hbW.cells
          clear hhm' hX0 hX1 hX2 hX3 hX4 hX5 hX6 hc0 hc1 hc2 hc3
          replace ho := Lib.hid ho
          cases hvo : valid o
          all_goals
            have he := errT_val o
            rw [hvo] at he
            go_region_with (go_at_call 35; refine (check4_any _ _ _ _ H4 _ (by first | exact x4c.holds | exact x4c.holds.drew) hho).mono ?_; rintro e w9 ⟨rfl, hb9⟩; have hbW2 := HBox.below (by first | exact hbW | exact hbW.drew) (by first | exact hwW | exact hwW.drew) hb9; have xW2 := Ext.step (by first | exact xW | exact xW.drew) (hb9.mono xW.below.size) (Holds.below (by first | exact hwW | exact hwW.drew) hb9); have hrW2 := Rdy.below (by first | exact hrW | exact hrW.drew) hb9 hrW.lt; obtain ⟨c0, c1, c2, c3⟩ := hbW2.cells; obtain ⟨r0, hr0⟩ := hrW2.cell 0 (by omega); obtain ⟨r1, hr1⟩ := hrW2.cell 1 (by omega); obtain ⟨r2, hr2⟩ := hrW2.cell 2 (by omega); obtain ⟨r3, hr3⟩ := hrW2.cell 3 (by omega); have hf0 := hrW2.fz 0; have hf1 := hrW2.fz 1; have hf2 := hrW2.fz 2; have hf3 := hrW2.fz 3; obtain ⟨hrow, H', hx', hh'⟩ := hbW2.out xW2 hrW2 hRn hwb hRb hgr; replace hrow := Lib.hid hrow; replace hx' := Lib.hid hx')
            all_goals
              go_wp2_with fail
              refine bodyPost_ret (results_cell_slot rfl _ _ R 26 _ (0, 0) _ rfl hrow.out Try.underlying26 rfl (by kernel_rfl)) rfl ?_
              exact ⟨_, H', rfl, hx'.out, .slice am9 o.ms.length cm9, .slice ab9 o.bs.length cb9, .slice at9 o.ts.length ct9, o, valid o, by first | rfl | (simp [hvo, errT]; done) | (simp [hvo, errT]; rfl), hh', fun e => ⟨by rw [← ho.out, ← hms9.out, ← hts9.out, ← hbs9.out]; rfl, valid_iff.1 e, by first | exact hok | exact ⟨by omega, by omega, by omega, by omega⟩⟩⟩
        · have hbb := within_iff.1 hB
          obtain ⟨q, rfl⟩ := Int.eq_ofNat_of_zero_le hbb.1
          have hql : q < h.bs.length := by omega
          have hq0 : 0 ≤ (q : Int) := by omega
          have hq1 : (q : Int) < (h.bs.length : Int) := by omega
          obtain ⟨zb, hzb⟩ := At.mk hql
          obtain ⟨vbb, vbo, vbc, hev, _, _⟩ := hhm'.b.bund hzb
          cases hev
          obtain ⟨_, _, hev, hcap1, hcap2⟩ := hhm'.b.form
          cases hev
          have hbs5 := hv.b5
          go_upto_region 13 with (go_at_call 25; refine (within_any _ _ _ _).mono ?_; rintro e w6 ⟨rfl, rfl⟩; rw [hB])
          have htk := hhm'.b.take (k := q) (by omega)
          have hdk : Sl H3 (.slice (if vbc = q + 1 then some ⟨vbb, vbo, none⟩ else some ⟨vbb, vbo + (q + 1) * 3, none⟩) (h.bs.length - (q + 1)) (vbc - (q + 1))) (h.bs.drop (q + 1)) := by
            split
            · have e1 : h.bs.length - (q + 1) = 0 := by omega
              rw [e1, List.drop_eq_nil_of_le (by omega)]
              exact Sl.nil _ _ (by omega)
            · exact hhm'.b.drop (k := q + 1) (by omega)
          have hq2 : (q : Int) ≤ (vbc : Int) := by omega
          have hq3 : (q : Int) + 1 ≤ (h.bs.length : Int) := by omega
          have hq4 : 0 ≤ (q : Int) + 1 := by omega
          have hCn := hbV.hC
          have hCw : w.heap.size ≤ C := Nat.le_trans hwb hbV.ge
          have hCl := hbV.lt
          have hbz : wz.heap.size ≤ wV.heap.size := by have := hbV.ge; omega
          have hmN : ∀ k, um.ownBlock = some k → k < wV.heap.size := fun k e => (hbV.m.lt k e).2
          have hbN : ∀ k, (Value.slice ab h.bs.length cb).ownBlock = some k → k < wV.heap.size := fun k e => (hbV.b.lt k e).2
          have htN : ∀ k, ut.ownBlock = some k → k < wV.heap.size := fun k e => (hbV.t.lt k e).2
          have hRl := hrV.lt
          have hE : Own H3 wz.heap.size (wV.alloc (.cells #[] 58)).drew 58 (.slice (some ⟨wV.heap.size, 0, none⟩) 0 0) ([] : List Bund) := (Own.emptyG rfl hwV hbz).drew
          have hbE := (hbV.alloc (.cells #[] 58)).drew
          have xE := (xV.alloc (.cells #[] 58)).drew
          have hrE := (hrV.alloc (.cells #[] 58)).drew
          have hwE := xE.holds
          have hsE : (wV.alloc (.cells #[] 58)).drew.heap.size = wV.heap.size + 1 := by show (wV.alloc _).heap.size = _; simp
          have hnE : H3 wV.heap.size = none := hwV.none_of_ge (Nat.le_refl _)
          have htl : (h.bs.take q).length ≤ 5 := by rw [List.length_take]; omega
          have hdl : (h.bs.drop (q + 1)).length ≤ 5 := by rw [List.length_drop]; omega
          have hwrp : IntKind.i64.wrap ((q : Int) + 1) = (q : Int) + 1 := by rw [IntKind.wrap_i64]; omega
          generalize htke : h.bs.take q = tk at *
          generalize hdke : h.bs.drop (q + 1) = dk at *
          go_region_held3 (fun w' => Holds H3 w' ∧ Ext w H w' H3) (first | assumption | exact ⟨by assumption, by assumption⟩ | (go_split_ands; exact ⟨Holds.drew (by assumption), Ext.drew (by assumption)⟩) | (go_split_ands; exact ⟨Holds.alloc (by assumption) _, Ext.alloc (by assumption) _⟩) | (go_split_ands; exact ⟨Holds.setCell (by assumption) hCn _, Ext.setCell (by assumption) hCw hCn _⟩)) (first
            | (have hgd := own1; clear hgd; go_split_ands; refine step_app (H := H3) (base := wz.heap.size) eBund rfl _ _ rfl rfl own1 rfl hdk hwA (by simp [Enc.by_]; omega) (by simp; omega) (by have := hg1.size; omega) ?_; intro v2 wB own2 hg2 hwB hat2; have hbB := hbA.grownHigh hCl hmN hbN htN hg2 hv1; have xB : Ext w H wB H3 := xA.grown hg2 (fun k e => Nat.le_trans (Nat.le_trans hwb hbz) (hv1 k e)) (fun k e => own1.free k e); have hrB := hrA.grown hg2 (fun e => by have := hv1 _ e; omega); have hcB : wB.cell? ⟨C, 1, none⟩ = _ := cell_of_row wB C 1 _ _ _ hbB.row; have hfB := hbB.fz 1; obtain ⟨a2, c2, rfl, _, _⟩ := own2.form)
            | (go_split_ands; refine step_app (H := H3) (base := wz.heap.size) eBund rfl _ _ rfl rfl hE rfl htk hwE (by simp [Enc.by_]; omega) (by simp; omega) (by omega) ?_; intro v1 wA own1 hg1 hwA hat1; replace hg1 : World.grownBy (wV.alloc (.cells #[] 58)).drew wA (some wV.heap.size) := hg1; replace hat1 : v1.ownBlock = some wV.heap.size ∨ v1.ownBlock = some (wV.alloc (.cells #[] 58)).drew.heap.size := hat1; have hbA := hbE.grownHigh hCl hmN hbN htN hg1 (fun k e => by cases e; exact Nat.le_refl _); have xA : Ext w H wA H3 := xE.grown hg1 (fun k e => by cases e; omega) (fun k e => by cases e; exact hnE); have hrA := hrE.grown hg1 (fun e => by simp at e; omega); have hv1 : ∀ k, v1.ownBlock = some k → wV.heap.size ≤ k := (fun k e => by rcases hat1 with e1 | e1 <;> rw [e1] at e <;> simp only [Option.some.injEq] at e <;> omega); obtain ⟨a1, c1, rfl, _, _⟩ := own1.form))
          have hbF := hbB.putB own2
          have xF := xB.setCell (a := ⟨C, 1, none⟩) hCw hCn (.slice a2 (([] : List Bund) ++ tk ++ dk).length c2)
          have hrF := hrB.other (a := ⟨C, 1, none⟩) (fun e => by have := hbV.ge; simp at e; omega) (.slice a2 (([] : List Bund) ++ tk ++ dk).length c2)
          rw [show (([] : List Bund) ++ tk ++ dk).length = tk.length + dk.length by simp] at hbF xF hrF
          obtain ⟨bs9, hbs9⟩ : ∃ x, Hid (betterBs h (q : Int) = x) := ⟨_, rfl⟩
          have hsB : ([] : List Bund) ++ tk ++ dk = bs9 := by
            rw [← hbs9.out]; unfold betterBs; simp only [hB]
            rw [Int.toNat_natCast, htke, hdke]; rfl
          have hbW : HBox H3 wz.heap.size (wB.setCell ⟨C, 1, none⟩ (.slice a2 (tk.length + dk.length) c2)) C um (.slice a2 (tk.length + dk.length) c2) ut ⟨ms9, bs9, ts9, h.ch - cg⟩ := by rw [← hsB]; exact hbF
          have xW := xF
          have hrW := hrF
          clear hbF xF hrF hsB hbB xB hrB hcB hfB own2 hg2 hwB hat2 own1 hg1 hwA hat1 hbA xA hrA hv1 hE hbE xE hrE hwE hsE hnE htl hdl hwrp htk hdk hmN hbN htN hbV xV hrV hwV hB
          generalize Value.slice (if vbc = q + 1 then some (⟨vbb, vbo, none⟩ : Addr) else some ⟨vbb, vbo + (q + 1) * 3, none⟩) (h.bs.length - (q + 1)) (vbc - (q + 1)) = vdk at *
          go_upto_region 14 with fail
          generalize wB.setCell ⟨C, 1, none⟩ (.slice a2 (tk.length + dk.length) c2) = wW at *
          generalize Value.slice a2 (tk.length + dk.length) c2 = ub at *
          have hwW := xW.holds
          generalize ho : (⟨ms9, bs9, ts9, h.ch - cg⟩ : House) = o at hbW
          obtain ⟨am9, cm9, rfl, _, _⟩ := hbW.m.form
          obtain ⟨ab9, cb9, rfl, _, _⟩ := hbW.b.form
          obtain ⟨at9, ct9, rfl, _, _⟩ := hbW.t.form
          obtain ⟨H4, x4c, _, hho⟩ := (hbW.weaken hwb).close xW
          obtain ⟨c0, c1, c2, c3⟩ := hbW.cells
          clear hhm' hX0 hX1 hX2 hX3 hX4 hX5 hX6 hc0 hc1 hc2 hc3
          replace ho := Lib.hid ho
          cases hvo : valid o
          all_goals
            have he := errT_val o
            rw [hvo] at he
            go_region_with (go_at_call 35; refine (check4_any _ _ _ _ H4 _ (by first | exact x4c.holds | exact x4c.holds.drew) hho).mono ?_; rintro e w9 ⟨rfl, hb9⟩; have hbW2 := HBox.below (by first | exact hbW | exact hbW.drew) (by first | exact hwW | exact hwW.drew) hb9; have xW2 := Ext.step (by first | exact xW | exact xW.drew) (hb9.mono xW.below.size) (Holds.below (by first | exact hwW | exact hwW.drew) hb9); have hrW2 := Rdy.below (by first | exact hrW | exact hrW.drew) hb9 hrW.lt; obtain ⟨c0, c1, c2, c3⟩ := hbW2.cells; obtain ⟨r0, hr0⟩ := hrW2.cell 0 (by omega); obtain ⟨r1, hr1⟩ := hrW2.cell 1 (by omega); obtain ⟨r2, hr2⟩ := hrW2.cell 2 (by omega); obtain ⟨r3, hr3⟩ := hrW2.cell 3 (by omega); have hf0 := hrW2.fz 0; have hf1 := hrW2.fz 1; have hf2 := hrW2.fz 2; have hf3 := hrW2.fz 3; obtain ⟨hrow, H', hx', hh'⟩ := hbW2.out xW2 hrW2 hRn hwb hRb hgr; replace hrow := Lib.hid hrow; replace hx' := Lib.hid hx')
            all_goals
              go_wp2_with fail
              refine bodyPost_ret (results_cell_slot rfl _ _ R 26 _ (0, 0) _ rfl hrow.out Try.underlying26 rfl (by kernel_rfl)) rfl ?_
              exact ⟨_, H', rfl, hx'.out, .slice am9 o.ms.length cm9, .slice ab9 o.bs.length cb9, .slice at9 o.ts.length ct9, o, valid o, by first | rfl | (simp [hvo, errT]; done) | (simp [hvo, errT]; rfl), hh', fun e => ⟨by rw [← ho.out, ← hms9.out, ← hts9.out, ← hbs9.out]; rfl, valid_iff.1 e, by first | exact hok | exact ⟨by omega, by omega, by omega, by omega⟩⟩⟩
    · have hmb := within_iff.1 hm
      obtain ⟨k, rfl⟩ := Int.eq_ofNat_of_zero_le hmb.1
      have hkl : k < h.ms.length := by omega
      have hk0 : 0 ≤ (k : Int) := by omega
      have hk1 : (k : Int) < (h.ms.length : Int) := by omega
      obtain ⟨z, hzk⟩ := At.mk hkl
      have hzr := ready_bd hv hzk
      have hzp := mach_ok hv hkl
      rw [hzk.mach] at hzp
      have hzm := List.all_eq_true.1 hv.ms z hzk.mem
      simp only [okMach, Bool.and_eq_true, within_iff] at hzm
      obtain ⟨g, c, hev, hi, q0, q1, q2, hgl, hgC, hgb, hgn, hgf⟩ := hb4.getM hzk
      cases hev
      go_upto_region 8 with (go_at_call 65; refine (isMachine4_any _ _ _ _ _ H3 _ hw4 hhm').mono ?_; rintro e w5 ⟨rfl, hb5⟩; rw [hm]; have hw5 := hw4.below hb5; have hbr := hb4.below hw4 hb5; have hxr := x4.step (hb5.mono x4.below.size) hw5; have hrr := hr4.below hb5 hr4.lt; obtain ⟨g', c', hev, hi', p0, p1, p2, hgl', _, _, _, hgf'⟩ := hbr.getM hzk; cases hev; obtain ⟨c0, c1, c2, c3⟩ := hbr.cells)
      have hb7 := hbr.alloc (.cells #[.int .i64 (z.r - rd), .int .i64 (z.p - pc), .int .i64 z.s] 54)
      have x7 := hxr.alloc (.cells #[.int .i64 (z.r - rd), .int .i64 (z.p - pc), .int .i64 z.s] 54)
      have hr7 := hrr.alloc (.cells #[.int .i64 (z.r - rd), .int .i64 (z.p - pc), .int .i64 z.s] 54)
      have hM := heap_alloc_new w5 (.cells #[.int .i64 (z.r - rd), .int .i64 (z.p - pc), .int .i64 z.s] 54)
      clear hbr hxr hrr p0 p1 p2 c0 c1 c2 c3 hgf' hgl' q0 q1 q2 hgf hgl hb4 x4 hr4 hw4 hb5 hw5
      generalize w5.alloc (.cells #[.int .i64 (z.r - rd), .int .i64 (z.p - pc), .int .i64 z.s] 54) = w7 at *
      generalize w5.heap.size = M at *
      have hw7 := x7.holds
      obtain ⟨g', c', hev, _, q0, q1, q2, hgl, _, _, _, hgf⟩ := hb7.getM hzk
      cases hev
      obtain ⟨c0, c1, c2, c3⟩ := hb7.cells
      have m0 := cell_of_row w7 M 0 _ _ _ hM
      have m1 := cell_of_row w7 M 1 _ _ _ hM
      have m2 := cell_of_row w7 M 2 _ _ _ hM
      simp at m0 m1 m2
      have f0 := hgf (k * 3)
      have f1 := hgf (k * 3 + 1)
      have f2 := hgf (k * 3 + 2)
      obtain ⟨g', c', cur, hev, _, _, _, _, _, hset⟩ := hb7.setM (i := k) hkl
      cases hev
      have hb8 := hset ⟨z.r - rd, z.p - pc, z.s⟩ (show I64 (z.r - rd) by unfold I64; omega) (show I64 (z.p - pc) by unfold I64; omega) hi.2.2
      have x8 := ((x7.setCell (a := ⟨g, k * 3, none⟩) (Nat.le_trans hwb hgb) hgn (.int .i64 (z.r - rd))).setCell (a := ⟨g, k * 3 + 1, none⟩) (Nat.le_trans hwb hgb) hgn (.int .i64 (z.p - pc))).setCell (a := ⟨g, k * 3 + 2, none⟩) (Nat.le_trans hwb hgb) hgn (.int .i64 z.s)
      have hgR : g ≠ R := by omega
      have hr8 := ((hr7.other (a := ⟨g, k * 3, none⟩) hgR (.int .i64 (z.r - rd))).other (a := ⟨g, k * 3 + 1, none⟩) hgR (.int .i64 (z.p - pc))).other (a := ⟨g, k * 3 + 2, none⟩) hgR (.int .i64 z.s)
      obtain ⟨ms9, hms9⟩ : ∃ x, Hid ((betterH h (k : Int) pc rd t lt cg bn).ms = x) := ⟨_, rfl⟩
      have hsame : h.ms.set k ⟨z.r - rd, z.p - pc, z.s⟩ = ms9 := by
        rw [← hms9.out]; unfold betterH; simp only [hm]
        rw [Int.toNat_natCast, hzk.mach]; rfl
      rw [hsame] at hb8
      replace hb8 := Lib.hid hb8
      replace x8 := Lib.hid x8
      replace hr8 := Lib.hid hr8
      clear hset hb7 x7 hr7
      go_upto_region 9 with fail
      have hb9' := hb8.out
      have x9 := x8.out
      have hr9 := hr8.out
      have hw9 := x9.holds
      clear hb8 x8 hr8 hM hsame m0 m1 m2 f0 f1 f2 q0 q1 q2 hgf hgl c0 c1 c2 c3 hm
      generalize ((w7.setCell ⟨g, k * 3, none⟩ (.int .i64 (z.r - rd))).setCell ⟨g, k * 3 + 1, none⟩ (.int .i64 (z.p - pc))).setCell ⟨g, k * 3 + 2, none⟩ (.int .i64 z.s) = w9 at *
      generalize Value.slice (some ⟨g, 0, none⟩) h.ms.length cm = um at *
      cases hT : within t 0 ((h.ts.length : Int) - 1)
      · go_upto_region 11 with (go_at_call 22; refine (isTrain4_any _ _ _ _ _ H3 _ hw9 hhm').mono ?_; rintro e w10 ⟨rfl, hb10⟩; rw [hT]; have hw10 := hw9.below hb10; have hbT := hb9'.below hw9 hb10; have xT := x9.step (hb10.mono x9.below.size) hw10; have hrT := hr9.below hb10 hr9.lt)
        obtain ⟨ts9, hts9⟩ : ∃ x, Hid (h.ts = x) := ⟨_, rfl⟩
        have hbU : HBox H3 wz.heap.size w10 C um (.slice ab h.bs.length cb) (.slice at' h.ts.length ct) { h with ms := ms9, ts := ts9 } := by rw [← hts9.out]; exact hbT
        replace hts9 : Hid (betterTs h t lt = ts9) := by show _ = _; rw [← hts9.out]; unfold betterTs; simp only [hT]; rfl
        have xU := xT
        have hrU := hrT
        clear hbT xT hrT hb9' x9 hr9 hw9 hb10 hT
        generalize Value.slice at' h.ts.length ct = ut at *
        generalize w10 = wU at *
        have hwU := xU.holds
        obtain ⟨e0, e1, e2, e3⟩ := hbU.cells
        have hfU := hbU.fz 3
        dsimp only at e3
        go_upto_region 12 with fail
        have hbV := hbU.putC (h.ch - cg) (by omega)
        have xV := xU.setCell (a := ⟨C, 3, none⟩) (Nat.le_trans hwb hbU.ge) hbU.hC (.int .i64 (h.ch - cg))
        have hrV := hrU.other (a := ⟨C, 3, none⟩) (fun e => by have := hbU.ge; simp at e; omega) (.int .i64 (h.ch - cg))
        replace hbV : HBox H3 wz.heap.size (wU.setCell ⟨C, 3, none⟩ (.int .i64 (h.ch - cg))) C um (.slice ab h.bs.length cb) ut ⟨ms9, h.bs, ts9, h.ch - cg⟩ := hbV
        clear hbU xU hrU hwU e0 e1 e2 e3 hfU
        generalize wU.setCell ⟨C, 3, none⟩ (.int .i64 (h.ch - cg)) = wV at *
        have hwV := xV.holds
        cases hB : within bn 0 ((h.bs.length : Int) - 1)
        · obtain ⟨_, _, rfl, _, _⟩ := hhm'.b.form
          go_upto_region 14 with (go_at_call 25; refine (within_any _ _ _ _).mono ?_; rintro e w6 ⟨rfl, rfl⟩; rw [hB])
          obtain ⟨bs9, hbs9⟩ : ∃ x, Hid (h.bs = x) := ⟨_, rfl⟩
          have hbW : HBox H3 wz.heap.size wV C um (.slice ab h.bs.length cb) ut ⟨ms9, bs9, ts9, h.ch - cg⟩ := by rw [← hbs9.out]; exact hbV
          replace hbs9 : Hid (betterBs h bn = bs9) := by show _ = _; rw [← hbs9.out]; unfold betterBs; simp only [hB]; rfl
          have xW := xV
          have hrW := hrV
          clear hbV xV hrV hB
          generalize Value.slice ab h.bs.length cb = ub at *
          generalize wV = wW at *
          have hwW := xW.holds
          generalize ho : (⟨ms9, bs9, ts9, h.ch - cg⟩ : House) = o at hbW
          obtain ⟨am9, cm9, rfl, _, _⟩ := hbW.m.form
          obtain ⟨ab9, cb9, rfl, _, _⟩ := hbW.b.form
          obtain ⟨at9, ct9, rfl, _, _⟩ := hbW.t.form
          obtain ⟨H4, x4c, _, hho⟩ := (hbW.weaken hwb).close xW
          obtain ⟨c0, c1, c2, c3⟩ := hbW.cells
          clear hhm' hX0 hX1 hX2 hX3 hX4 hX5 hX6 hc0 hc1 hc2 hc3
          replace ho := Lib.hid ho
          cases hvo : valid o
          all_goals
            have he := errT_val o
            rw [hvo] at he
            go_region_with (go_at_call 35; refine (check4_any _ _ _ _ H4 _ (by first | exact x4c.holds | exact x4c.holds.drew) hho).mono ?_; rintro e w9 ⟨rfl, hb9⟩; have hbW2 := HBox.below (by first | exact hbW | exact hbW.drew) (by first | exact hwW | exact hwW.drew) hb9; have xW2 := Ext.step (by first | exact xW | exact xW.drew) (hb9.mono xW.below.size) (Holds.below (by first | exact hwW | exact hwW.drew) hb9); have hrW2 := Rdy.below (by first | exact hrW | exact hrW.drew) hb9 hrW.lt; obtain ⟨c0, c1, c2, c3⟩ := hbW2.cells; obtain ⟨r0, hr0⟩ := hrW2.cell 0 (by omega); obtain ⟨r1, hr1⟩ := hrW2.cell 1 (by omega); obtain ⟨r2, hr2⟩ := hrW2.cell 2 (by omega); obtain ⟨r3, hr3⟩ := hrW2.cell 3 (by omega); have hf0 := hrW2.fz 0; have hf1 := hrW2.fz 1; have hf2 := hrW2.fz 2; have hf3 := hrW2.fz 3; obtain ⟨hrow, H', hx', hh'⟩ := hbW2.out xW2 hrW2 hRn hwb hRb hgr; replace hrow := Lib.hid hrow; replace hx' := Lib.hid hx')
            all_goals
              go_wp2_with fail
              refine bodyPost_ret (results_cell_slot rfl _ _ R 26 _ (0, 0) _ rfl hrow.out Try.underlying26 rfl (by kernel_rfl)) rfl ?_
              exact ⟨_, H', rfl, hx'.out, .slice am9 o.ms.length cm9, .slice ab9 o.bs.length cb9, .slice at9 o.ts.length ct9, o, valid o, by first | rfl | (simp [hvo, errT]; done) | (simp [hvo, errT]; rfl), hh', fun e => ⟨by rw [← ho.out, ← hms9.out, ← hts9.out, ← hbs9.out]; rfl, valid_iff.1 e, by first | exact hok | exact ⟨by omega, by omega, by omega, by omega⟩⟩⟩
        · have hbb := within_iff.1 hB
          obtain ⟨q, rfl⟩ := Int.eq_ofNat_of_zero_le hbb.1
          have hql : q < h.bs.length := by omega
          have hq0 : 0 ≤ (q : Int) := by omega
          have hq1 : (q : Int) < (h.bs.length : Int) := by omega
          obtain ⟨zb, hzb⟩ := At.mk hql
          obtain ⟨vbb, vbo, vbc, hev, _, _⟩ := hhm'.b.bund hzb
          cases hev
          obtain ⟨_, _, hev, hcap1, hcap2⟩ := hhm'.b.form
          cases hev
          have hbs5 := hv.b5
          go_upto_region 13 with (go_at_call 25; refine (within_any _ _ _ _).mono ?_; rintro e w6 ⟨rfl, rfl⟩; rw [hB])
          have htk := hhm'.b.take (k := q) (by omega)
          have hdk : Sl H3 (.slice (if vbc = q + 1 then some ⟨vbb, vbo, none⟩ else some ⟨vbb, vbo + (q + 1) * 3, none⟩) (h.bs.length - (q + 1)) (vbc - (q + 1))) (h.bs.drop (q + 1)) := by
            split
            · have e1 : h.bs.length - (q + 1) = 0 := by omega
              rw [e1, List.drop_eq_nil_of_le (by omega)]
              exact Sl.nil _ _ (by omega)
            · exact hhm'.b.drop (k := q + 1) (by omega)
          have hq2 : (q : Int) ≤ (vbc : Int) := by omega
          have hq3 : (q : Int) + 1 ≤ (h.bs.length : Int) := by omega
          have hq4 : 0 ≤ (q : Int) + 1 := by omega
          have hCn := hbV.hC
          have hCw : w.heap.size ≤ C := Nat.le_trans hwb hbV.ge
          have hCl := hbV.lt
          have hbz : wz.heap.size ≤ wV.heap.size := by have := hbV.ge; omega
          have hmN : ∀ k, um.ownBlock = some k → k < wV.heap.size := fun k e => (hbV.m.lt k e).2
          have hbN : ∀ k, (Value.slice ab h.bs.length cb).ownBlock = some k → k < wV.heap.size := fun k e => (hbV.b.lt k e).2
          have htN : ∀ k, ut.ownBlock = some k → k < wV.heap.size := fun k e => (hbV.t.lt k e).2
          have hRl := hrV.lt
          have hE : Own H3 wz.heap.size (wV.alloc (.cells #[] 58)).drew 58 (.slice (some ⟨wV.heap.size, 0, none⟩) 0 0) ([] : List Bund) := (Own.emptyG rfl hwV hbz).drew
          have hbE := (hbV.alloc (.cells #[] 58)).drew
          have xE := (xV.alloc (.cells #[] 58)).drew
          have hrE := (hrV.alloc (.cells #[] 58)).drew
          have hwE := xE.holds
          have hsE : (wV.alloc (.cells #[] 58)).drew.heap.size = wV.heap.size + 1 := by show (wV.alloc _).heap.size = _; simp
          have hnE : H3 wV.heap.size = none := hwV.none_of_ge (Nat.le_refl _)
          have htl : (h.bs.take q).length ≤ 5 := by rw [List.length_take]; omega
          have hdl : (h.bs.drop (q + 1)).length ≤ 5 := by rw [List.length_drop]; omega
          have hwrp : IntKind.i64.wrap ((q : Int) + 1) = (q : Int) + 1 := by rw [IntKind.wrap_i64]; omega
          generalize htke : h.bs.take q = tk at *
          generalize hdke : h.bs.drop (q + 1) = dk at *
          go_region_held3 (fun w' => Holds H3 w' ∧ Ext w H w' H3) (first | assumption | exact ⟨by assumption, by assumption⟩ | (go_split_ands; exact ⟨Holds.drew (by assumption), Ext.drew (by assumption)⟩) | (go_split_ands; exact ⟨Holds.alloc (by assumption) _, Ext.alloc (by assumption) _⟩) | (go_split_ands; exact ⟨Holds.setCell (by assumption) hCn _, Ext.setCell (by assumption) hCw hCn _⟩)) (first
            | (have hgd := own1; clear hgd; go_split_ands; refine step_app (H := H3) (base := wz.heap.size) eBund rfl _ _ rfl rfl own1 rfl hdk hwA (by simp [Enc.by_]; omega) (by simp; omega) (by have := hg1.size; omega) ?_; intro v2 wB own2 hg2 hwB hat2; have hbB := hbA.grownHigh hCl hmN hbN htN hg2 hv1; have xB : Ext w H wB H3 := xA.grown hg2 (fun k e => Nat.le_trans (Nat.le_trans hwb hbz) (hv1 k e)) (fun k e => own1.free k e); have hrB := hrA.grown hg2 (fun e => by have := hv1 _ e; omega); have hcB : wB.cell? ⟨C, 1, none⟩ = _ := cell_of_row wB C 1 _ _ _ hbB.row; have hfB := hbB.fz 1; obtain ⟨a2, c2, rfl, _, _⟩ := own2.form)
            | (go_split_ands; refine step_app (H := H3) (base := wz.heap.size) eBund rfl _ _ rfl rfl hE rfl htk hwE (by simp [Enc.by_]; omega) (by simp; omega) (by omega) ?_; intro v1 wA own1 hg1 hwA hat1; replace hg1 : World.grownBy (wV.alloc (.cells #[] 58)).drew wA (some wV.heap.size) := hg1; replace hat1 : v1.ownBlock = some wV.heap.size ∨ v1.ownBlock = some (wV.alloc (.cells #[] 58)).drew.heap.size := hat1; have hbA := hbE.grownHigh hCl hmN hbN htN hg1 (fun k e => by cases e; exact Nat.le_refl _); have xA : Ext w H wA H3 := xE.grown hg1 (fun k e => by cases e; omega) (fun k e => by cases e; exact hnE); have hrA := hrE.grown hg1 (fun e => by simp at e; omega); have hv1 : ∀ k, v1.ownBlock = some k → wV.heap.size ≤ k := (fun k e => by rcases hat1 with e1 | e1 <;> rw [e1] at e <;> simp only [Option.some.injEq] at e <;> omega); obtain ⟨a1, c1, rfl, _, _⟩ := own1.form))
          have hbF := hbB.putB own2
          have xF := xB.setCell (a := ⟨C, 1, none⟩) hCw hCn (.slice a2 (([] : List Bund) ++ tk ++ dk).length c2)
          have hrF := hrB.other (a := ⟨C, 1, none⟩) (fun e => by have := hbV.ge; simp at e; omega) (.slice a2 (([] : List Bund) ++ tk ++ dk).length c2)
          rw [show (([] : List Bund) ++ tk ++ dk).length = tk.length + dk.length by simp] at hbF xF hrF
          obtain ⟨bs9, hbs9⟩ : ∃ x, Hid (betterBs h (q : Int) = x) := ⟨_, rfl⟩
          have hsB : ([] : List Bund) ++ tk ++ dk = bs9 := by
            rw [← hbs9.out]; unfold betterBs; simp only [hB]
            rw [Int.toNat_natCast, htke, hdke]; rfl
          have hbW : HBox H3 wz.heap.size (wB.setCell ⟨C, 1, none⟩ (.slice a2 (tk.length + dk.length) c2)) C um (.slice a2 (tk.length + dk.length) c2) ut ⟨ms9, bs9, ts9, h.ch - cg⟩ := by rw [← hsB]; exact hbF
          have xW := xF
          have hrW := hrF
          clear hbF xF hrF hsB hbB xB hrB hcB hfB own2 hg2 hwB hat2 own1 hg1 hwA hat1 hbA xA hrA hv1 hE hbE xE hrE hwE hsE hnE htl hdl hwrp htk hdk hmN hbN htN hbV xV hrV hwV hB
          generalize Value.slice (if vbc = q + 1 then some (⟨vbb, vbo, none⟩ : Addr) else some ⟨vbb, vbo + (q + 1) * 3, none⟩) (h.bs.length - (q + 1)) (vbc - (q + 1)) = vdk at *
          go_upto_region 14 with fail
          generalize wB.setCell ⟨C, 1, none⟩ (.slice a2 (tk.length + dk.length) c2) = wW at *
          generalize Value.slice a2 (tk.length + dk.length) c2 = ub at *
          have hwW := xW.holds
          generalize ho : (⟨ms9, bs9, ts9, h.ch - cg⟩ : House) = o at hbW
          obtain ⟨am9, cm9, rfl, _, _⟩ := hbW.m.form
          obtain ⟨ab9, cb9, rfl, _, _⟩ := hbW.b.form
          obtain ⟨at9, ct9, rfl, _, _⟩ := hbW.t.form
          obtain ⟨H4, x4c, _, hho⟩ := (hbW.weaken hwb).close xW
          obtain ⟨c0, c1, c2, c3⟩ := hbW.cells
          clear hhm' hX0 hX1 hX2 hX3 hX4 hX5 hX6 hc0 hc1 hc2 hc3
          replace ho := Lib.hid ho
          cases hvo : valid o
          all_goals
            have he := errT_val o
            rw [hvo] at he
            go_region_with (go_at_call 35; refine (check4_any _ _ _ _ H4 _ (by first | exact x4c.holds | exact x4c.holds.drew) hho).mono ?_; rintro e w9 ⟨rfl, hb9⟩; have hbW2 := HBox.below (by first | exact hbW | exact hbW.drew) (by first | exact hwW | exact hwW.drew) hb9; have xW2 := Ext.step (by first | exact xW | exact xW.drew) (hb9.mono xW.below.size) (Holds.below (by first | exact hwW | exact hwW.drew) hb9); have hrW2 := Rdy.below (by first | exact hrW | exact hrW.drew) hb9 hrW.lt; obtain ⟨c0, c1, c2, c3⟩ := hbW2.cells; obtain ⟨r0, hr0⟩ := hrW2.cell 0 (by omega); obtain ⟨r1, hr1⟩ := hrW2.cell 1 (by omega); obtain ⟨r2, hr2⟩ := hrW2.cell 2 (by omega); obtain ⟨r3, hr3⟩ := hrW2.cell 3 (by omega); have hf0 := hrW2.fz 0; have hf1 := hrW2.fz 1; have hf2 := hrW2.fz 2; have hf3 := hrW2.fz 3; obtain ⟨hrow, H', hx', hh'⟩ := hbW2.out xW2 hrW2 hRn hwb hRb hgr; replace hrow := Lib.hid hrow; replace hx' := Lib.hid hx')
            all_goals
              go_wp2_with fail
              refine bodyPost_ret (results_cell_slot rfl _ _ R 26 _ (0, 0) _ rfl hrow.out Try.underlying26 rfl (by kernel_rfl)) rfl ?_
              exact ⟨_, H', rfl, hx'.out, .slice am9 o.ms.length cm9, .slice ab9 o.bs.length cb9, .slice at9 o.ts.length ct9, o, valid o, by first | rfl | (simp [hvo, errT]; done) | (simp [hvo, errT]; rfl), hh', fun e => ⟨by rw [← ho.out, ← hms9.out, ← hts9.out, ← hbs9.out]; rfl, valid_iff.1 e, by first | exact hok | exact ⟨by omega, by omega, by omega, by omega⟩⟩⟩
      · have htb := within_iff.1 hT
        obtain ⟨j, rfl⟩ := Int.eq_ofNat_of_zero_le htb.1
        have hjl : j < h.ts.length := by omega
        have hj0 : 0 ≤ (j : Int) := by omega
        have hj1 : (j : Int) < (h.ts.length : Int) := by omega
        obtain ⟨y, hyj⟩ := At.mk hjl
        have hyb := ts_bd hv hyj
        go_upto_region 10 with (go_at_call 22; refine (isTrain4_any _ _ _ _ _ H3 _ hw9 hhm').mono ?_; rintro e w10 ⟨rfl, hb10⟩; rw [hT]; have hw10 := hw9.below hb10; have hbT := hb9'.below hw9 hb10; have xT := x9.step (hb10.mono x9.below.size) hw10; have hrT := hr9.below hb10 hr9.lt; obtain ⟨e0, e1, e2, e3⟩ := hbT.cells; obtain ⟨gt, ct', hev, _, hgc, hgf, hgtb, hgtn, hsetT⟩ := hbT.setT hyj; cases hev)
        go_region
        have hyI : -9223372036854775808 ≤ y + lt ∧ y + lt ≤ 9223372036854775807 := by omega
        have hbU0 := (hsetT (y + lt) hyI).drew
        have xU := (xT.setCell (a := ⟨gt, j, none⟩) (Nat.le_trans hwb hgtb) hgtn (.int .i64 (y + lt))).drew
        have hrU := (hrT.other (a := ⟨gt, j, none⟩) (fun e => by simp at e; omega) (.int .i64 (y + lt))).drew
        obtain ⟨ts9, hts9⟩ : ∃ x, Hid (betterTs h (j : Int) lt = x) := ⟨_, rfl⟩
        have hsT : h.ts.set j (y + lt) = ts9 := by
          rw [← hts9.out]; unfold betterTs; simp only [hT]
          rw [Int.toNat_natCast, hyj.getD]; rfl
        have hbU : HBox H3 wz.heap.size (w10.setCell ⟨gt, j, none⟩ (.int .i64 (y + lt))).drew C um (.slice ab h.bs.length cb) (.slice (some ⟨gt, 0, none⟩) h.ts.length ct) { h with ms := ms9, ts := ts9 } := by rw [← hsT]; exact hbU0
        clear hbU0 hsetT hbT xT hrT hb9' x9 hr9 hw9 hb10 hT hsT hgc hgf e0 e1 e2 e3
        generalize Value.slice (some ⟨gt, 0, none⟩) h.ts.length ct = ut at *
        generalize (w10.setCell ⟨gt, j, none⟩ (.int .i64 (y + lt))).drew = wU at *
        have hwU := xU.holds
        obtain ⟨e0, e1, e2, e3⟩ := hbU.cells
        have hfU := hbU.fz 3
        dsimp only at e3
        go_upto_region 12 with fail
        have hbV := hbU.putC (h.ch - cg) (by omega)
        have xV := xU.setCell (a := ⟨C, 3, none⟩) (Nat.le_trans hwb hbU.ge) hbU.hC (.int .i64 (h.ch - cg))
        have hrV := hrU.other (a := ⟨C, 3, none⟩) (fun e => by have := hbU.ge; simp at e; omega) (.int .i64 (h.ch - cg))
        replace hbV : HBox H3 wz.heap.size (wU.setCell ⟨C, 3, none⟩ (.int .i64 (h.ch - cg))) C um (.slice ab h.bs.length cb) ut ⟨ms9, h.bs, ts9, h.ch - cg⟩ := hbV
        clear hbU xU hrU hwU e0 e1 e2 e3 hfU
        generalize wU.setCell ⟨C, 3, none⟩ (.int .i64 (h.ch - cg)) = wV at *
        have hwV := xV.holds
        cases hB : within bn 0 ((h.bs.length : Int) - 1)
        · obtain ⟨_, _, rfl, _, _⟩ := hhm'.b.form
          go_upto_region 14 with (go_at_call 25; refine (within_any _ _ _ _).mono ?_; rintro e w6 ⟨rfl, rfl⟩; rw [hB])
          obtain ⟨bs9, hbs9⟩ : ∃ x, Hid (h.bs = x) := ⟨_, rfl⟩
          have hbW : HBox H3 wz.heap.size wV C um (.slice ab h.bs.length cb) ut ⟨ms9, bs9, ts9, h.ch - cg⟩ := by rw [← hbs9.out]; exact hbV
          replace hbs9 : Hid (betterBs h bn = bs9) := by show _ = _; rw [← hbs9.out]; unfold betterBs; simp only [hB]; rfl
          have xW := xV
          have hrW := hrV
          clear hbV xV hrV hB
          generalize Value.slice ab h.bs.length cb = ub at *
          generalize wV = wW at *
          have hwW := xW.holds
          generalize ho : (⟨ms9, bs9, ts9, h.ch - cg⟩ : House) = o at hbW
          obtain ⟨am9, cm9, rfl, _, _⟩ := hbW.m.form
          obtain ⟨ab9, cb9, rfl, _, _⟩ := hbW.b.form
          obtain ⟨at9, ct9, rfl, _, _⟩ := hbW.t.form
          obtain ⟨H4, x4c, _, hho⟩ := (hbW.weaken hwb).close xW
          obtain ⟨c0, c1, c2, c3⟩ := hbW.cells
          clear hhm' hX0 hX1 hX2 hX3 hX4 hX5 hX6 hc0 hc1 hc2 hc3
          replace ho := Lib.hid ho
          cases hvo : valid o
          all_goals
            have he := errT_val o
            rw [hvo] at he
            go_region_with (go_at_call 35; refine (check4_any _ _ _ _ H4 _ (by first | exact x4c.holds | exact x4c.holds.drew) hho).mono ?_; rintro e w9 ⟨rfl, hb9⟩; have hbW2 := HBox.below (by first | exact hbW | exact hbW.drew) (by first | exact hwW | exact hwW.drew) hb9; have xW2 := Ext.step (by first | exact xW | exact xW.drew) (hb9.mono xW.below.size) (Holds.below (by first | exact hwW | exact hwW.drew) hb9); have hrW2 := Rdy.below (by first | exact hrW | exact hrW.drew) hb9 hrW.lt; obtain ⟨c0, c1, c2, c3⟩ := hbW2.cells; obtain ⟨r0, hr0⟩ := hrW2.cell 0 (by omega); obtain ⟨r1, hr1⟩ := hrW2.cell 1 (by omega); obtain ⟨r2, hr2⟩ := hrW2.cell 2 (by omega); obtain ⟨r3, hr3⟩ := hrW2.cell 3 (by omega); have hf0 := hrW2.fz 0; have hf1 := hrW2.fz 1; have hf2 := hrW2.fz 2; have hf3 := hrW2.fz 3; obtain ⟨hrow, H', hx', hh'⟩ := hbW2.out xW2 hrW2 hRn hwb hRb hgr; replace hrow := Lib.hid hrow; replace hx' := Lib.hid hx')
            all_goals
              go_wp2_with fail
              refine bodyPost_ret (results_cell_slot rfl _ _ R 26 _ (0, 0) _ rfl hrow.out Try.underlying26 rfl (by kernel_rfl)) rfl ?_
              exact ⟨_, H', rfl, hx'.out, .slice am9 o.ms.length cm9, .slice ab9 o.bs.length cb9, .slice at9 o.ts.length ct9, o, valid o, by first | rfl | (simp [hvo, errT]; done) | (simp [hvo, errT]; rfl), hh', fun e => ⟨by rw [← ho.out, ← hms9.out, ← hts9.out, ← hbs9.out]; rfl, valid_iff.1 e, by first | exact hok | exact ⟨by omega, by omega, by omega, by omega⟩⟩⟩
        · have hbb := within_iff.1 hB
          obtain ⟨q, rfl⟩ := Int.eq_ofNat_of_zero_le hbb.1
          have hql : q < h.bs.length := by omega
          have hq0 : 0 ≤ (q : Int) := by omega
          have hq1 : (q : Int) < (h.bs.length : Int) := by omega
          obtain ⟨zb, hzb⟩ := At.mk hql
          obtain ⟨vbb, vbo, vbc, hev, _, _⟩ := hhm'.b.bund hzb
          cases hev
          obtain ⟨_, _, hev, hcap1, hcap2⟩ := hhm'.b.form
          cases hev
          have hbs5 := hv.b5
          go_upto_region 13 with (go_at_call 25; refine (within_any _ _ _ _).mono ?_; rintro e w6 ⟨rfl, rfl⟩; rw [hB])
          have htk := hhm'.b.take (k := q) (by omega)
          have hdk : Sl H3 (.slice (if vbc = q + 1 then some ⟨vbb, vbo, none⟩ else some ⟨vbb, vbo + (q + 1) * 3, none⟩) (h.bs.length - (q + 1)) (vbc - (q + 1))) (h.bs.drop (q + 1)) := by
            split
            · have e1 : h.bs.length - (q + 1) = 0 := by omega
              rw [e1, List.drop_eq_nil_of_le (by omega)]
              exact Sl.nil _ _ (by omega)
            · exact hhm'.b.drop (k := q + 1) (by omega)
          have hq2 : (q : Int) ≤ (vbc : Int) := by omega
          have hq3 : (q : Int) + 1 ≤ (h.bs.length : Int) := by omega
          have hq4 : 0 ≤ (q : Int) + 1 := by omega
          have hCn := hbV.hC
          have hCw : w.heap.size ≤ C := Nat.le_trans hwb hbV.ge
          have hCl := hbV.lt
          have hbz : wz.heap.size ≤ wV.heap.size := by have := hbV.ge; omega
          have hmN : ∀ k, um.ownBlock = some k → k < wV.heap.size := fun k e => (hbV.m.lt k e).2
          have hbN : ∀ k, (Value.slice ab h.bs.length cb).ownBlock = some k → k < wV.heap.size := fun k e => (hbV.b.lt k e).2
          have htN : ∀ k, ut.ownBlock = some k → k < wV.heap.size := fun k e => (hbV.t.lt k e).2
          have hRl := hrV.lt
          have hE : Own H3 wz.heap.size (wV.alloc (.cells #[] 58)).drew 58 (.slice (some ⟨wV.heap.size, 0, none⟩) 0 0) ([] : List Bund) := (Own.emptyG rfl hwV hbz).drew
          have hbE := (hbV.alloc (.cells #[] 58)).drew
          have xE := (xV.alloc (.cells #[] 58)).drew
          have hrE := (hrV.alloc (.cells #[] 58)).drew
          have hwE := xE.holds
          have hsE : (wV.alloc (.cells #[] 58)).drew.heap.size = wV.heap.size + 1 := by show (wV.alloc _).heap.size = _; simp
          have hnE : H3 wV.heap.size = none := hwV.none_of_ge (Nat.le_refl _)
          have htl : (h.bs.take q).length ≤ 5 := by rw [List.length_take]; omega
          have hdl : (h.bs.drop (q + 1)).length ≤ 5 := by rw [List.length_drop]; omega
          have hwrp : IntKind.i64.wrap ((q : Int) + 1) = (q : Int) + 1 := by rw [IntKind.wrap_i64]; omega
          generalize htke : h.bs.take q = tk at *
          generalize hdke : h.bs.drop (q + 1) = dk at *
          go_region_held3 (fun w' => Holds H3 w' ∧ Ext w H w' H3) (first | assumption | exact ⟨by assumption, by assumption⟩ | (go_split_ands; exact ⟨Holds.drew (by assumption), Ext.drew (by assumption)⟩) | (go_split_ands; exact ⟨Holds.alloc (by assumption) _, Ext.alloc (by assumption) _⟩) | (go_split_ands; exact ⟨Holds.setCell (by assumption) hCn _, Ext.setCell (by assumption) hCw hCn _⟩)) (first
            | (have hgd := own1; clear hgd; go_split_ands; refine step_app (H := H3) (base := wz.heap.size) eBund rfl _ _ rfl rfl own1 rfl hdk hwA (by simp [Enc.by_]; omega) (by simp; omega) (by have := hg1.size; omega) ?_; intro v2 wB own2 hg2 hwB hat2; have hbB := hbA.grownHigh hCl hmN hbN htN hg2 hv1; have xB : Ext w H wB H3 := xA.grown hg2 (fun k e => Nat.le_trans (Nat.le_trans hwb hbz) (hv1 k e)) (fun k e => own1.free k e); have hrB := hrA.grown hg2 (fun e => by have := hv1 _ e; omega); have hcB : wB.cell? ⟨C, 1, none⟩ = _ := cell_of_row wB C 1 _ _ _ hbB.row; have hfB := hbB.fz 1; obtain ⟨a2, c2, rfl, _, _⟩ := own2.form)
            | (go_split_ands; refine step_app (H := H3) (base := wz.heap.size) eBund rfl _ _ rfl rfl hE rfl htk hwE (by simp [Enc.by_]; omega) (by simp; omega) (by omega) ?_; intro v1 wA own1 hg1 hwA hat1; replace hg1 : World.grownBy (wV.alloc (.cells #[] 58)).drew wA (some wV.heap.size) := hg1; replace hat1 : v1.ownBlock = some wV.heap.size ∨ v1.ownBlock = some (wV.alloc (.cells #[] 58)).drew.heap.size := hat1; have hbA := hbE.grownHigh hCl hmN hbN htN hg1 (fun k e => by cases e; exact Nat.le_refl _); have xA : Ext w H wA H3 := xE.grown hg1 (fun k e => by cases e; omega) (fun k e => by cases e; exact hnE); have hrA := hrE.grown hg1 (fun e => by simp at e; omega); have hv1 : ∀ k, v1.ownBlock = some k → wV.heap.size ≤ k := (fun k e => by rcases hat1 with e1 | e1 <;> rw [e1] at e <;> simp only [Option.some.injEq] at e <;> omega); obtain ⟨a1, c1, rfl, _, _⟩ := own1.form))
          have hbF := hbB.putB own2
          have xF := xB.setCell (a := ⟨C, 1, none⟩) hCw hCn (.slice a2 (([] : List Bund) ++ tk ++ dk).length c2)
          have hrF := hrB.other (a := ⟨C, 1, none⟩) (fun e => by have := hbV.ge; simp at e; omega) (.slice a2 (([] : List Bund) ++ tk ++ dk).length c2)
          rw [show (([] : List Bund) ++ tk ++ dk).length = tk.length + dk.length by simp] at hbF xF hrF
          obtain ⟨bs9, hbs9⟩ : ∃ x, Hid (betterBs h (q : Int) = x) := ⟨_, rfl⟩
          have hsB : ([] : List Bund) ++ tk ++ dk = bs9 := by
            rw [← hbs9.out]; unfold betterBs; simp only [hB]
            rw [Int.toNat_natCast, htke, hdke]; rfl
          have hbW : HBox H3 wz.heap.size (wB.setCell ⟨C, 1, none⟩ (.slice a2 (tk.length + dk.length) c2)) C um (.slice a2 (tk.length + dk.length) c2) ut ⟨ms9, bs9, ts9, h.ch - cg⟩ := by rw [← hsB]; exact hbF
          have xW := xF
          have hrW := hrF
          clear hbF xF hrF hsB hbB xB hrB hcB hfB own2 hg2 hwB hat2 own1 hg1 hwA hat1 hbA xA hrA hv1 hE hbE xE hrE hwE hsE hnE htl hdl hwrp htk hdk hmN hbN htN hbV xV hrV hwV hB
          generalize Value.slice (if vbc = q + 1 then some (⟨vbb, vbo, none⟩ : Addr) else some ⟨vbb, vbo + (q + 1) * 3, none⟩) (h.bs.length - (q + 1)) (vbc - (q + 1)) = vdk at *
          go_upto_region 14 with fail
          generalize wB.setCell ⟨C, 1, none⟩ (.slice a2 (tk.length + dk.length) c2) = wW at *
          generalize Value.slice a2 (tk.length + dk.length) c2 = ub at *
          have hwW := xW.holds
          generalize ho : (⟨ms9, bs9, ts9, h.ch - cg⟩ : House) = o at hbW
          obtain ⟨am9, cm9, rfl, _, _⟩ := hbW.m.form
          obtain ⟨ab9, cb9, rfl, _, _⟩ := hbW.b.form
          obtain ⟨at9, ct9, rfl, _, _⟩ := hbW.t.form
          obtain ⟨H4, x4c, _, hho⟩ := (hbW.weaken hwb).close xW
          obtain ⟨c0, c1, c2, c3⟩ := hbW.cells
          clear hhm' hX0 hX1 hX2 hX3 hX4 hX5 hX6 hc0 hc1 hc2 hc3
          replace ho := Lib.hid ho
          cases hvo : valid o
          all_goals
            have he := errT_val o
            rw [hvo] at he
            go_region_with (go_at_call 35; refine (check4_any _ _ _ _ H4 _ (by first | exact x4c.holds | exact x4c.holds.drew) hho).mono ?_; rintro e w9 ⟨rfl, hb9⟩; have hbW2 := HBox.below (by first | exact hbW | exact hbW.drew) (by first | exact hwW | exact hwW.drew) hb9; have xW2 := Ext.step (by first | exact xW | exact xW.drew) (hb9.mono xW.below.size) (Holds.below (by first | exact hwW | exact hwW.drew) hb9); have hrW2 := Rdy.below (by first | exact hrW | exact hrW.drew) hb9 hrW.lt; obtain ⟨c0, c1, c2, c3⟩ := hbW2.cells; obtain ⟨r0, hr0⟩ := hrW2.cell 0 (by omega); obtain ⟨r1, hr1⟩ := hrW2.cell 1 (by omega); obtain ⟨r2, hr2⟩ := hrW2.cell 2 (by omega); obtain ⟨r3, hr3⟩ := hrW2.cell 3 (by omega); have hf0 := hrW2.fz 0; have hf1 := hrW2.fz 1; have hf2 := hrW2.fz 2; have hf3 := hrW2.fz 3; obtain ⟨hrow, H', hx', hh'⟩ := hbW2.out xW2 hrW2 hRn hwb hRb hgr; replace hrow := Lib.hid hrow; replace hx' := Lib.hid hx')
            all_goals
              go_wp2_with fail
              refine bodyPost_ret (results_cell_slot rfl _ _ R 26 _ (0, 0) _ rfl hrow.out Try.underlying26 rfl (by kernel_rfl)) rfl ?_
              exact ⟨_, H', rfl, hx'.out, .slice am9 o.ms.length cm9, .slice ab9 o.bs.length cb9, .slice at9 o.ts.length ct9, o, valid o, by first | rfl | (simp [hvo, errT]; done) | (simp [hvo, errT]; rfl), hh', fun e => ⟨by rw [← ho.out, ← hms9.out, ← hts9.out, ← hbs9.out]; rfl, valid_iff.1 e, by first | exact hok | exact ⟨by omega, by omega, by omega, by omega⟩⟩⟩

end Go.Proofs.Yteijmboophnmgaa
