/- Arrays of numbers that a call has made for itself. The times of a plan in an array of five. The walk of trains.timed. -/
import Derived.Test.YteijmboophnmgaaBase
import Derived.Test.YteijmboophnmgaaPlain
import Derived.Test.YteijmboophnmgaaTr10

namespace Go.Proofs.Yteijmboophnmgaa
open Go.RowKit

/-- Block b is an array of the call's own: these numbers. -/
structure Row (H : Snap) (base : Nat) (w : World) (t : TypeId) (b : Nat) (xs : List Int) : Prop where
  at_ : w.heap[b]? = some (.cells (xs.map (Value.int .i64)).toArray t (0, 0))
  base : base ≤ b
  free : H b = none

section
variable {H H' : Snap} {base b : Nat} {w w' : World} {t : TypeId} {xs : List Int}
theorem Row.lt (h : Row H base w t b xs) : b < w.heap.size := (Array.getElem?_eq_some_iff.1 h.at_).1
theorem Row.cell (h : Row H base w t b xs) {i : Nat} {x : Int} (hx : At xs i x) : w.cell? ⟨b, i, none⟩ = some (.int .i64 x) := by
  rw [cell_of_row w b i _ _ _ h.at_]
  simp [show xs[i]? = some x from hx]
theorem Row.fz (h : Row H base w t b xs) (i : Nat) : w.frozen? ⟨b, i, none⟩ = false := by simp [World.frozen?, h.at_]
theorem Row.set (h : Row H base w t b xs) (i : Nat) (y : Int) : Row H base (w.setCell ⟨b, i, none⟩ (.int .i64 y)) t b (xs.set i y) := by
  refine ⟨?_, h.base, h.free⟩
  have := heap_setCell_row (i := i) h.at_ (.int .i64 y)
  rw [this]
  simp [List.map_set]
theorem Row.ext (h : Row H base w t b xs) (hx : Ext w H w' H') : Row H' base w' t b xs :=
  ⟨(hx.below.block b h.lt).trans h.at_, h.base, (hx.same b h.lt).trans h.free⟩
theorem Row.snap (h : Row H base w t b xs) (hf : H' b = none) : Row H' base w t b xs := ⟨h.at_, h.base, hf⟩
theorem Row.drew (h : Row H base w t b xs) : Row H base w.drew t b xs := ⟨h.at_, h.base, h.free⟩
theorem Row.alloc (h : Row H base w t b xs) (o : Obj) : Row H base (w.alloc o) t b xs := ⟨(heap_alloc_old w o h.lt).trans h.at_, h.base, h.free⟩
theorem Row.other (h : Row H base w t b xs) {a : Addr} (ha : a.block ≠ b) (v : Value) : Row H base (w.setCell a v) t b xs := by
  refine ⟨?_, h.base, h.free⟩
  show (w.heap.modify a.block _)[b]? = _
  rw [Array.getElem?_modify, if_neg ha]
  exact h.at_
end

end Go.Proofs.Yteijmboophnmgaa

namespace Go.Proofs.Yteijmboophnmgaa

def padT (h : House) (plan : List (List Int)) : List Int := timesTo h 0 plan (List.replicate 5 (-1))

theorem runTo_pad (h : House) (mc : Mach) (r : List Int) : ∀ (l : List Int) (ts : List Int) (now : Int) (prev : Option Int), (∀ x ∈ l, 0 ≤ x ∧ x < (ts.length : Int)) → runTo h mc l (ts ++ r, now, prev) = ((runTo h mc l (ts, now, prev)).1 ++ r, (runTo h mc l (ts, now, prev)).2)
  | [], _, _, _, _ => rfl
  | b :: l, ts, now, prev, hl => by
    have hb := hl b (by simp)
    simp only [runTo]
    rw [List.set_append_left _ _ (by omega)]
    exact runTo_pad h mc r l _ _ _ (fun x hx => by rw [List.length_set]; exact hl x (by simp [hx]))
theorem timesTo_pad (h : House) (r : List Int) : ∀ (p : List (List Int)) (m : Nat) (ts : List Int), (∀ x ∈ p.flatten, 0 ≤ x ∧ x < (ts.length : Int)) → timesTo h m p (ts ++ r) = timesTo h m p ts ++ r
  | [], _, _, _ => rfl
  | l :: p, m, ts, hp => by
    simp only [timesTo, runList]
    rw [runTo_pad h (mach h m) r l ts _ none (fun x hx => hp x (by simp [hx]))]
    exact timesTo_pad h r p (m + 1) _ (fun x hx => by rw [runTo_len]; exact hp x (by simp [hx]))
theorem padT_eq {h : House} (hb : h.bs.length ≤ 5) {plan : List (List Int)} (hp : isPlan h plan = true) : padT h plan = timesOf h plan ++ List.replicate (5 - h.bs.length) (-1) := by
  unfold padT timesOf
  rw [show List.replicate 5 (-1 : Int) = List.replicate h.bs.length (-1) ++ List.replicate (5 - h.bs.length) (-1) by rw [List.replicate_append_replicate, show h.bs.length + (5 - h.bs.length) = 5 by omega]]
  refine timesTo_pad h _ plan 0 _ (fun x hx => ?_)
  simp only [isPlan, Bool.and_eq_true] at hp
  have := (goodAll_iff.1 hp.2).1 x hx
  rw [List.length_replicate]; omega
theorem padT_len (h : House) (plan : List (List Int)) : (padT h plan).length = 5 := by unfold padT; rw [timesTo_len]; rfl

end Go.Proofs.Yteijmboophnmgaa

namespace Go.Proofs.Yteijmboophnmgaa
open Go.RowKit

attribute [local go_sem] Holds.drew Holds.alloc Holds.drewN WB.holds

/-- An array of numbers as a value. -/
def arr (xs : List Int) : Value := .agg (xs.map (Value.int .i64)).toArray

set_option maxRecDepth 100000 in
set_option maxHeartbeats 4000000 in
theorem timed_any (vm vb vt vp : Value) (h : House) (plan : List (List Int)) (H : Snap) (w : World) (hw : Holds H w) (hh : Hou H vm vb vt h) (hp : Sl H vp plan) (hv : Valid h) (hpl : isPlan h plan = true) :
    Calls Try.prog 79 #[houV vm vb vt h, vp] w (PostV w (arr (padT h plan))) := by
  obtain ⟨am, cm, rfl, hm1, hm2⟩ := hh.m.form
  obtain ⟨ab, cb, rfl, hb1, hb2⟩ := hh.b.form
  obtain ⟨ap, cp, rfl, hp1, hp2⟩ := hp.form
  have hb5 := hv.b5
  go_enter Try.func79, Try.ntmps79
  go_upto_region 2 with (refine wpList_boxF rfl _ rfl (Ext.refl hw) ?_; intro B w1 H1 hle hx hB hBw; obtain ⟨hc0, hc1, hc2, hc3⟩ := cellsHou hB; clear hB hw; have hw1 := hx.holds)
  have hrow0 : Row H1 w.heap.size ((w1.alloc (.cells #[.int .i64 0, .int .i64 0, .int .i64 0, .int .i64 0, .int .i64 0] 96)).alloc (.cells #[.int .i64 0, .int .i64 0, .int .i64 0, .int .i64 0, .int .i64 0] 96)) 96 w1.heap.size (List.replicate 5 0) :=
    ⟨(heap_alloc_old _ _ (by simp)).trans (heap_alloc_new _ _), hx.below.size, hw1.none_of_ge (Nat.le_refl _)⟩
  have hrow1 : Row H1 w.heap.size ((w1.alloc (.cells #[.int .i64 0, .int .i64 0, .int .i64 0, .int .i64 0, .int .i64 0] 96)).alloc (.cells #[.int .i64 0, .int .i64 0, .int .i64 0, .int .i64 0, .int .i64 0] 96)) 96 (w1.heap.size + 1) (List.replicate 5 0) :=
    ⟨by have h := heap_alloc_new (w1.alloc (.cells #[.int .i64 0, .int .i64 0, .int .i64 0, .int .i64 0, .int .i64 0] 96)) (.cells #[.int .i64 0, .int .i64 0, .int .i64 0, .int .i64 0, .int .i64 0] 96); rw [World.size_alloc] at h; exact h, by have := hx.below.size; omega, hw1.none_of_ge (by omega)⟩
  have hxz := (hx.alloc (.cells #[.int .i64 0, .int .i64 0, .int .i64 0, .int .i64 0, .int .i64 0] 96)).alloc (.cells #[.int .i64 0, .int .i64 0, .int .i64 0, .int .i64 0, .int .i64 0] 96)
  have hne : w1.heap.size ≠ w1.heap.size + 1 := by omega
  generalize (w1.alloc (.cells #[.int .i64 0, .int .i64 0, .int .i64 0, .int .i64 0, .int .i64 0] 96)).alloc (.cells #[.int .i64 0, .int .i64 0, .int .i64 0, .int .i64 0, .int .i64 0] 96) = wz at *
  generalize w1.heap.size + 1 = ob at *
  generalize w1.heap.size = rb at *
  have hpm := hp.mono hle
  have hmm := hh.m.mono hle
  have hbm := hh.b.mono hle
  clear hx hw1 hle
  go_wp2_with fail
  go_loopw [6, 14] (fun _ i wr => ∃ (k : Nat) (acc : List Int), k ≤ 5 ∧ i = .int .i64 k ∧ Hid (acc = List.replicate k (-1) ++ List.replicate (5 - k) 0) ∧ Ext w H wr H1 ∧ Row H1 w.heap.size wr 96 rb (List.replicate 5 0) ∧ Row H1 w.heap.size wr 96 ob acc) (fun _ i _ => 5 - (intOf i).toNat)
  case atStart => exact ⟨0, _, Nat.zero_le _, rfl, rfl, hxz, hrow0, hrow1⟩
  case round =>
    clear hxz hrow0 hrow1
    obtain ⟨k, acc, hk, rfl, hacc, hxr, hrow0, hrow1⟩ := hrel
    have hwr := hxr.holds
    by_cases hlk : k < 5
    · obtain ⟨z, hz⟩ := At.mk (xs := acc) (k := k) (by rw [hacc.out]; simp; omega)
      have hcz := hrow1.cell hz
      have hfz := hrow1.fz k
      go_wp2_with fail
      go_roundw
      case rel =>
        refine ⟨k + 1, acc.set k (-1), by omega, by go_num, ?_, hxr.setCell (a := ⟨ob, k, none⟩) hrow1.base hrow1.free _, hrow0.other (Ne.symm hne) _, hrow1.set k (-1)⟩
        show acc.set k (-1) = _
        rw [hacc.out]
        apply List.ext_getElem
        · simp; omega
        · intro j h1 h2
          simp only [List.getElem_set, List.getElem_append, List.getElem_replicate, List.length_replicate]
          split <;> split <;> (try split) <;> first | rfl | omega
      case measure => simp [intOf]; omega
    · have hk5 : k = 5 := by omega
      replace hacc : Hid (acc = List.replicate 5 (-1)) := by show _ = _; rw [hacc.out, hk5]; rfl
      replace hk5 := Lib.hid hk5
      go_wp2_with fail
      go_loopw [7, 8, 9, 10, 12, 13, 22] (fun _ _ _ _ _ _ i wr => ∃ (m : Nat) (acc : List Int), m ≤ plan.length ∧ i = .int .i64 m ∧ Hid (acc = timesTo h 0 (plan.take m) (List.replicate 5 (-1))) ∧ Ext w H wr H1 ∧ Row H1 w.heap.size wr 96 rb (List.replicate 5 0) ∧ Row H1 w.heap.size wr 96 ob acc) (fun _ _ _ _ _ _ i _ => plan.length - (intOf i).toNat)
      case atStart => exact ⟨0, acc, Nat.zero_le _, rfl, hacc, hxr, hrow0, hrow1⟩
      case round =>
        clear hxr hwr hacc hrow0 hrow1
        obtain ⟨m, acc0, hm, rfl, hacc0, hxr, hrow0, hrow1⟩ := hrel
        have hwr := hxr.holds
        by_cases hlm : m < plan.length
        · obtain ⟨l, hml⟩ := At.mk hlm
          obtain ⟨b, o, c, u, he, hu, hr⟩ := hpm.list hml
          cases he
          obtain ⟨al, cl, rfl, hl1, hl2⟩ := hu.form
          have hpl' := hpl
          simp only [isPlan, Bool.and_eq_true, decide_eq_true_eq] at hpl'
          obtain ⟨mc, hmc⟩ := At.mk (show m < h.ms.length by omega)
          have hmlt := hmc.lt
          obtain ⟨bm, om, cm', he, ⟨hmr, hmp, hms⟩, hcr, hcp, hcs⟩ := hmm.mach hmc
          cases he
          have hlen5 : l.length ≤ 5 := Nat.le_trans (isPlan_one hpl hml) hb5
          have hrd := ready_bd hv hmc
          have hgood : ∀ x ∈ l, 0 ≤ x ∧ x ≤ (h.bs.length : Int) - 1 := fun x hx => (goodAll_iff.1 hpl'.2).1 x (List.mem_flatten.2 ⟨l, hml.mem, hx⟩)
          clear hpl'
          go_wp2_with fail
          go_loopw [9, 10, 12, 13, 35] (fun nw bf _ _ i wr => ∃ (k : Nat) (acc : List Int) (now : Int) (prev : Option Int) (pe : Int), k ≤ l.length ∧ i = .int .i64 k ∧ nw = .int .i64 now ∧ bf = .int .i64 pe ∧ Hid ((prev = none ∧ pe = -1) ∨ (prev = some pe ∧ 0 ≤ pe)) ∧ (0 ≤ now ∧ now ≤ 100 + 90 * k) ∧ Hid ((acc, now, prev) = runTo h mc (l.take k) (acc0, mc.r, none)) ∧ Ext w H wr H1 ∧ Row H1 w.heap.size wr 96 rb (List.replicate 5 0) ∧ Row H1 w.heap.size wr 96 ob acc) (fun _ _ _ _ i _ => l.length - (intOf i).toNat)
          case atStart => exact ⟨0, acc0, mc.r, none, -1, Nat.zero_le _, rfl, rfl, rfl, .inl ⟨rfl, rfl⟩, by omega, rfl, hxr, hrow0, hrow1⟩
          case round =>
            clear hxr hwr hrow0 hrow1
            obtain ⟨k, acc, now, prev, pe, hk, rfl, rfl, rfl, hpe, hnow, hst, hxr, hrow0, hrow1⟩ := hrel
            have hwr := hxr.holds
            by_cases hlk : k < l.length
            · obtain ⟨x, hxk⟩ := At.mk hlk
              obtain ⟨b', o', c', he, hi, hr'⟩ := hu.int hxk
              cases he
              obtain ⟨hx0, hx1⟩ := hgood x hxk.mem
              obtain ⟨j, rfl⟩ := Int.eq_ofNat_of_zero_le hx0
              obtain ⟨y, hyj⟩ := At.mk (show j < h.bs.length by omega)
              have hjlt := hyj.lt
              clear hx0 hx1
              obtain ⟨bb, ob', cb', he, ⟨hy1, hy2, hy3⟩, hct, hchh, hce⟩ := hbm.bund hyj
              cases he
              have hyb := List.all_eq_true.1 hv.bs y hyj.mem
              simp only [okBund, Bool.and_eq_true, within_iff] at hyb
              obtain ⟨hq1, hq2, hq3, hq4⟩ := prod_bd hv hmc hyj
              go_upto_region 15 with fail
              have hncx : H1 wr.heap.size = none := hwr.none_of_ge (Nat.le_refl _)
              have hxx := (hxr.alloc (.cells #[.int .i64 y.t, .int .i64 y.h, .int .i64 y.e] 58)).freeze hxr.below.size (heap_alloc_new wr _)
              have hlex := Snap.le_put hncx (.cells #[.int .i64 y.t, .int .i64 y.h, .int .i64 y.e] 58 (0, 0))
              have hcx := fun (w : World) (hw : Holds (H1.put wr.heap.size (.cells #[.int .i64 y.t, .int .i64 y.h, .int .i64 y.e] 58 (0, 0))) w) (i : Nat) => cellH (Snap.put_same _ _ _) hw i
              have hob2 : (H1.put wr.heap.size (.cells #[.int .i64 y.t, .int .i64 y.h, .int .i64 y.e] 58 (0, 0))) ob = none := (Snap.put_other _ _ (by have := hrow1.lt; omega)).trans hrow1.free
              have hrb2 : (H1.put wr.heap.size (.cells #[.int .i64 y.t, .int .i64 y.h, .int .i64 y.e] 58 (0, 0))) rb = none := (Snap.put_other _ _ (by have := hrow0.lt; omega)).trans hrow0.free
              have hrow0x := (hrow0.alloc (.cells #[.int .i64 y.t, .int .i64 y.h, .int .i64 y.e] 58)).snap hrb2
              have hrow1x := (hrow1.alloc (.cells #[.int .i64 y.t, .int .i64 y.h, .int .i64 y.e] 58)).snap hob2
              have hcxp := Snap.put_same H1 wr.heap.size (.cells #[.int .i64 y.t, .int .i64 y.h, .int .i64 y.e] 58 (0, 0))
              generalize H1.put wr.heap.size (.cells #[.int .i64 y.t, .int .i64 y.h, .int .i64 y.e] 58 (0, 0)) = H2 at *
              generalize wr.alloc (.cells #[.int .i64 y.t, .int .i64 y.h, .int .i64 y.e] 58) = wx at *
              generalize wr.heap.size = cx at *
              have hcx1 : ∀ w, Holds H2 w → w.cell? ⟨cx, 1, none⟩ = some (.int .i64 y.h) := fun w hw => hcx w hw 1
              have hcx2 : ∀ w, Holds H2 w → w.cell? ⟨cx, 2, none⟩ = some (.int .i64 y.e) := fun w hw => hcx w hw 2
              have hwx := hxx.holds
              have hd0 := lift hlex hc0
              have hd1 := lift hlex hc1
              have hd2 := lift hlex hc2
              have hd3 := lift hlex hc3
              have hcp' := lift hlex hcp
              have hst1 := congrArg (fun s => s.1) hst.out
              have hst2 := congrArg (fun s => s.2.1) hst.out
              have hst3 := congrArg (fun s => s.2.2) hst.out
              simp only at hst1 hst2 hst3
              have hstep : ∀ (d : Bool), prev.any (fun e => e != y.e) = d → Hid (stepT h mc now prev (j : Int) = now + (if d then h.ch else 0) + y.h * mc.p) := fun d hd => by
                show stepT h mc now prev (j : Int) = _
                unfold stepT; rw [hyj.bund, hd]
              have hfin : ∀ (n2 : Int), n2 = stepT h mc now prev (j : Int) → Hid ((acc.set j n2, n2, some y.e) = runTo h mc (l.take (k + 1)) (acc0, mc.r, none)) := fun n2 hn => by
                show _ = _
                rw [runTo_take hxk, ← hst1, ← hst2, ← hst3, ← hn, Int.toNat_natCast, hyj.bund]
              have hal : Hid (acc.length = 5) := Lib.hid (by rw [hst1, runTo_len, hacc0.out, timesTo_len]; rfl)
              clear hst1 hst2 hst3 hst
              obtain ⟨z, hz⟩ := At.mk (xs := acc) (k := j) (by rw [hal.out]; omega)
              have hocx : ob ≠ cx := by rintro rfl; exact absurd hob2 (by rw [hcxp]; simp)
              have tail : ∀ (now' : Int), now' = stepT h mc now prev (j : Int) → (0 ≤ now' ∧ now' ≤ 100 + 90 * (k + 1 : Nat)) → True := fun _ _ _ => trivial
              clear tail
              rcases hpe.out with ⟨hp0, rfl⟩ | ⟨hp0, hpe0⟩
              · replace hstep := hstep false (by rw [hp0]; rfl)
                replace hp0 := Lib.hid hp0
                · go_wp2_with fail
                  refine wp_region_quietB H2 (by kernel_rfl) (by kernel_rfl) hwx (fun hne => ?_)
                  repeat go_big_quiet_step ((first | fail))
                  refine wpQuiet_nil ?_
                  rintro ⟨w2, hw2, hb2⟩
                  clear hne
                  have hx2 := (Ext.refl hwx).step hb2 hw2
                  have hr0 := hrow0x.ext hx2
                  have hr1 := hrow1x.ext hx2
                  have hxx2 := hxx.trans hx2
                  have hcz := hr1.cell hz
                  have hfz := hr1.fz j
                  have hce2 := hcx2 _ hw2
                  go_wp2_with fail
                  go_region
                  all_goals
                    go_wp2_with fail
                    go_roundw
                    case rel => exact ⟨k + 1, acc.set j _, _, some y.e, y.e, by omega, by go_num, rfl, rfl, .inr ⟨rfl, by omega⟩, by omega, hfin _ (by rw [hstep.out]; simp), ((hxx2.drew.setCell (a := ⟨ob, j, none⟩) hr1.base hr1.free _).back hxr hlex), (hr0.drew.other (a := ⟨ob, j, none⟩) (Ne.symm hne) _).snap hrow0.free, (hr1.drew.set j _).snap hrow1.free⟩
                    case measure => simp [intOf]; omega
              · replace hstep := hstep (y.e != pe) (by rw [hp0]; exact bne_comm)
                replace hp0 := Lib.hid hp0
                cases hd : (y.e != pe)
                all_goals
                  rw [hd] at hstep
                  go_wp2_with fail
                  refine wp_region_quietB H2 (by kernel_rfl) (by kernel_rfl) hwx (fun hne => ?_)
                  repeat go_big_quiet_step ((first | fail))
                  refine wpQuiet_nil ?_
                  rintro ⟨w2, hw2, hb2⟩
                  clear hne
                  have hx2 := (Ext.refl hwx).step hb2 hw2
                  have hr0 := hrow0x.ext hx2
                  have hr1 := hrow1x.ext hx2
                  have hxx2 := hxx.trans hx2
                  have hcz := hr1.cell hz
                  have hfz := hr1.fz j
                  have hce2 := hcx2 _ hw2
                  go_wp2_with fail
                  go_region
                  all_goals
                    go_wp2_with fail
                    go_roundw
                    case rel => exact ⟨k + 1, acc.set j _, _, some y.e, y.e, by omega, by go_num, rfl, rfl, .inr ⟨rfl, by omega⟩, by omega, hfin _ (by rw [hstep.out]; simp), ((hxx2.drew.setCell (a := ⟨ob, j, none⟩) hr1.base hr1.free _).back hxr hlex), (hr0.drew.other (a := ⟨ob, j, none⟩) (Ne.symm hne) _).snap hrow0.free, (hr1.drew.set j _).snap hrow1.free⟩
                    case measure => simp [intOf]; omega
            · have hst1 := congrArg (fun s => s.1) hst.out
              simp only at hst1
              rw [take_all (xs := l) (k := k) (by omega)] at hst1
              replace hst1 := Lib.hid hst1
              go_wp2_with fail
              go_roundw
              case rel => exact ⟨m + 1, acc, by omega, by go_num, by show acc = _; rw [hst1.out, timesTo_take hml, ← hacc0.out, hmc.mach]; rfl, hxr, hrow0, hrow1⟩
              case measure => simp [intOf]; omega
        · have hl5 : acc0.length = 5 := by rw [hacc0.out, timesTo_len]; rfl
          match acc0, hl5, hacc0, hrow1 with
          | [a0, a1, a2, a3, a4], _, hacc0, hrow1 =>
            have hpad : Hid ([a0, a1, a2, a3, a4] = padT h plan) := by
              show _ = _
              rw [hacc0.out, take_all (xs := plan) (k := m) (by omega)]; rfl
            clear hacc0
            have c0 := hrow1.cell (i := 0) (x := a0) rfl
            have c1 := hrow1.cell (i := 1) (x := a1) rfl
            have c2 := hrow1.cell (i := 2) (x := a2) rfl
            have c3 := hrow1.cell (i := 3) (x := a3) rfl
            have c4 := hrow1.cell (i := 4) (x := a4) rfl
            have d0 := hrow0.cell (i := 0) (x := 0) rfl
            have d1 := hrow0.cell (i := 1) (x := 0) rfl
            have d2 := hrow0.cell (i := 2) (x := 0) rfl
            have d3 := hrow0.cell (i := 3) (x := 0) rfl
            have d4 := hrow0.cell (i := 4) (x := 0) rfl
            have f0 := hrow0.fz 0
            have f1 := hrow0.fz 1
            have f2 := hrow0.fz 2
            have f3 := hrow0.fz 3
            have f4 := hrow0.fz 4
            go_wp2_with fail
            have hr := ((((hrow0.set 0 a0).set 1 a1).set 2 a2).set 3 a3).set 4 a4
            refine bodyPost_ret (results_cell_row rfl _ _ rb 96 _ (0, 0) _ rfl hr.at_ Try.underlying96 rfl (by kernel_rfl)) rfl ?_
            refine ⟨?_, ?_⟩
            · rw [← hpad.out]; rfl
            · exact (((((hxr.setCell (a := ⟨rb, 0, none⟩) hrow0.base hrow0.free _).setCell (a := ⟨rb, 1, none⟩) hrow0.base hrow0.free _).setCell (a := ⟨rb, 2, none⟩) hrow0.base hrow0.free _).setCell (a := ⟨rb, 3, none⟩) hrow0.base hrow0.free _).setCell (a := ⟨rb, 4, none⟩) hrow0.base hrow0.free _).below

end Go.Proofs.Yteijmboophnmgaa
