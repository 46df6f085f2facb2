/- Proved here: NightByteCardSaid: the law NightByte returns true for all texts, any place and byte, and the texts read afterwards as they did. Conditions: none beyond those of the given statement. -/
import Derived.Test.YthcfhmebikcfpaaDoorG13
import Derived.Test.YthcfhmebikcfpaaDoorG14
import Derived.Test.YthcfhmebikcfpaaDoorG15
import Derived.Laws.IdiomStrings
import Derived.Test.YthcfhmebikcfpaaDoorRows
import Derived.Test.YthcfhmebikcfpaaDoorTie
import Derived.Test.YthcfhmebikcfpaaDoorCards
import Derived.ProofKit
import Derived.SevenTiedAt

set_option linter.all false

namespace Go.Proofs.YthcfhmebikcfpaaDoor
open Go.RowKit
attribute [local go_sem] Holds.drew Holds.alloc Holds.drewN WB.holds Oper.semAt_some

def Other (l : List ByteArray) (t : ByteArray) : Prop :=
    ∃ (k : List ByteArray) (n : Int), (∀ (H' : Snap) (W : World), Holds H' W → Calls Tryd.prog 15 #[.string t] W (PostOE W H' 9 k n)) ∧
      ((n == 0) = false ∧ (n != 0) = true ∨ n = 0 ∧ ∀ (u v : Value) (H' : Snap) (W : World), Holds H' W → Sl H' u k → Sl H' v l → Calls Tryd.prog 16 #[u, v] W (PostV W (.bool false)))
theorem read_other {l : List ByteArray} (_h0 : areE l = 0) {t : ByteArray} (ht : ¬ t = strB (fileA l)) : Other l t := by
  refine ⟨(readA (bys t)).1, (readA (bys t)).2, fun H' W h => nReadT_any t H' W h, ?_⟩
  by_cases h : (readA (bys t)).2 = 0
  · refine .inr ⟨h, fun u v H' W h1 h2 h3 => ?_⟩
    have h4 := sameTexts_any u v _ l H' W h1 h2 h3
    rw [decide_eq_false fun e => ht ?_] at h4
    · exact h4
    · have h2 := (readA_ok h).2
      rw [e] at h2
      rw [h2]
      rfl
  · exact .inl ⟨beq_eq_false_iff_ne.2 h, bne_iff_ne.2 h⟩
theorem cells2 {H : Snap} {B : Nat} {a b : Value} {t : TypeId} (h : H B = some (.cells #[a, b] t (0, 0))) : (∀ w, Holds H w → w.cell? ⟨B, 0, none⟩ = some a) ∧ (∀ w, Holds H w → w.cell? ⟨B, 1, none⟩ = some b) :=
  ⟨fun w hw => by rw [cellH h hw]; rfl, fun w hw => by rw [cellH h hw]; rfl⟩
theorem bytesRow_at (s : ByteArray) (cap : Nat) {j : Nat} (hj : j < s.size) : (bytesRow s cap)[j]? = some (.int .u8 ((s[j]'hj).toNat : Int)) := by
  unfold bytesRow
  have h1 : j < (s.data.map (fun b => Value.int .u8 (b.toNat : Int))).size := by rw [Array.size_map]; exact hj
  rw [Array.getElem?_append_left h1, Array.getElem?_map]
  have : s.data[j]? = some (s[j]'hj) := Array.getElem?_eq_getElem hj
  rw [this]; rfl
theorem bytesRow_size (s : ByteArray) {cap j : Nat} (hj : j < s.size) : j < (bytesRow s cap).size := by
  unfold bytesRow
  rw [Array.size_append, Array.size_map]
  have : s.data.size = s.size := rfl
  omega
theorem bytes_turned {w : World} {s : ByteArray} {cap k g : Nat} {T : TypeId} {fr : Nat × Nat} (hg : w.heap[g]? = some (.cells (bytesRow s cap) T fr)) (y : UInt8) :
    ∀ j (hj : j < ((bys s).set k y).length), (w.setCell ⟨g, k, none⟩ (.int .u8 (y.toNat : Int))).cell? ((Addr.mk g 0 none).add j) = some (.int .u8 ((((bys s).set k y)[j]'hj).toNat : Int)) := fun j hj => by
  have hrow := heap_set_same (i := k) hg (.int .u8 (y.toNat : Int))
  have hj2 : j < s.size := by rw [List.length_set, bys_len] at hj; exact hj
  have e0 : (Addr.mk g 0 none).add j = ⟨g, j, none⟩ := by simp [Addr.add]; omega
  rw [e0, Lib.cell_of_heap (j := j) hrow]
  rw [List.getElem_set]
  by_cases e : k = j
  · subst e
    rw [if_pos rfl, Array.getElem?_setIfInBounds_self_of_lt (bytesRow_size s hj2)]
  · rw [if_neg e, Array.getElem?_setIfInBounds_ne e, bytesRow_at s cap hj2]
    rfl
theorem set_ne {q : ByteArray} {k : Nat} (hk : k < q.size) {y : UInt8} (h : ¬ q[k] = y) : ¬ strB ((bys q).set k y) = q := fun e => by
  have h1 : (bys q).set k y = bys q := congrArg bys e
  have h2 := congrArg (fun l => l[k]?) h1
  simp only [List.getElem?_set_self (show k < (bys q).length from hk)] at h2
  rw [List.getElem?_eq_getElem (show k < (bys q).length from hk)] at h2
  exact h (Option.some.inj h2).symm
theorem app_ne (q : ByteArray) (y : UInt8) : ¬ q ++ strB [y] = q := fun e => by
  have := congrArg ByteArray.size e
  rw [ByteArray.size_append] at this
  have h : (strB [y]).size = 1 := rfl
  omega
theorem cut_ne {q : ByteArray} {n : Nat} (h : n < q.size) : ¬ q.extract 0 n = q := fun e => by
  have := congrArg ByteArray.size e
  rw [ByteArray.size_extract] at this
  omega
theorem byte_sizes {q : ByteArray} {n : Nat} (h : q.size = n) (h1 : n ≤ 1340) (h4 : 4 ≤ n) (y : UInt8) :
    ∃ Q1, q.size = Q1 + 1 ∧ wrap64 ((q.size : Int) - 1) = (Q1 : Int) ∧ (0 : Int) ≤ (Q1 : Int) ∧ (Q1 : Int) ≤ (q.size : Int) ∧ ¬ 9223372036854775807 < q.size + (strB [y]).size ∧ (1 : Int) ≤ (q.size : Int) ∧ (q.size : Int) - 1 ≤ (q.size : Int) ∧ ((q.size : Int) - 1).toNat = Q1 ∧ q.size - 1 = Q1 := by
  have h2 : (strB [y]).size = 1 := rfl
  refine ⟨n - 1, by omega, ?_, by omega, by omega, by omega, by omega, by omega, by omega, by omega⟩
  rw [show (q.size : Int) - 1 = ((n - 1 : Nat) : Int) by omega]
  exact wrap64_in _ (by omega) (by omega)
theorem byte_k (k n : Nat) : (0 : Int) ≤ (k : Int) ∧ decide ((k : Int) < 0) = false ∧ (n ≤ k ∨ k < n) := ⟨by omega, decide_eq_false (by omega), by omega⟩
theorem byte_lt {k n : Nat} (h : k < n) : (k : Int) < (n : Int) ∧ ¬ (n : Int) ≤ (k : Int) ∧ ¬ n ≤ k := ⟨by omega, by omega, by omega⟩
theorem byte_val (z y : UInt8) : wrap64 (z.toNat : Int) = (z.toNat : Int) ∧ (¬ z = y → ((z.toNat : Int) == (y.toNat : Int)) = false ∧ ¬ (z.toNat : Int) = (y.toNat : Int) ∧ ¬ z.toNat = y.toNat) := by
  have h := z.toNat_lt
  refine ⟨wrap64_in _ (by omega) (by omega), fun hne => ?_⟩
  have h2 : ¬ z.toNat = y.toNat := fun e => hne (UInt8.toNat_inj.1 e)
  exact ⟨beq_eq_false_iff_ne.2 (by omega), by omega, h2⟩
theorem row_cell {w : World} {q : ByteArray} {cap g k : Nat} {T : TypeId} {fr : Nat × Nat} (hrow : w.heap[g]? = some (.cells (bytesRow q cap) T fr)) (hk : k < q.size) : w.cell? ⟨g, k, none⟩ = some (.int .u8 ((q[k]'hk).toNat : Int)) := by
  rw [Lib.cell_of_heap (j := k) hrow]; exact bytesRow_at q cap hk
theorem row_free {w : World} {cs : Array Value} {g k : Nat} {T : TypeId} (hrow : w.heap[g]? = some (.cells cs T (cs.size, cs.size + 1))) (hk : k < cs.size) : w.frozen? ⟨g, k, none⟩ = false := by
  simp [World.frozen?, hrow]
  omega
set_option maxRecDepth 100000 in
set_option maxHeartbeats 4000000 in
theorem nightByte_any (v : Value) (l : List ByteArray) (ma mb : Int) (H : Snap) (w : World) (hw : Holds H w) (hs : Sl H v l) (_hp : I64 ma) (_hq : I64 mb) :
    Calls Tryd.prog 8 #[v, .agg #[.int .i64 ma, .int .i64 mb]] w (PostV w (.bool true)) := by
  have cW : ∀ (H' : Snap) (W : World), Holds H' W → Calls Tryd.prog 13 #[] W (PostV W (.bool true)) := fun H' W h => works14_any H' W h
  have cR := fun (H' : Snap) (W : World) (h1 : Holds H' W) (h2 : Sl H' v l) => ready14_any v l H' W h1 h2
  have cWi := fun W => within_any mb 0 255 W
  obtain ⟨a, c, rfl, _, _⟩ := hs.form
  by_cases h0 : areE l = 0
  case neg =>
    rw [decide_eq_false h0] at cR
    replace cR := Lib.hid cR
    replace cW := Lib.hid cW
    clear h0
    go_enter Tryd.func8, Tryd.ntmps8
    go_wp2_with (first | ((have hgd := hw2; clear hgd; go_at_call 13; go_must (refine (cW.out H1 _ hw2).mono ?_); rintro e w3 ⟨rfl, hb3⟩)) | ((have hgd := hx; clear hgd; go_at_call 12; go_must (refine (cR.out H1 _ hx.holds (hs.mono hle)).mono ?_); rintro e w2 ⟨rfl, hb2⟩; have hw2 := hx.holds.below hb2)) | ((refine wpList_boxF rfl _ rfl (Ext.refl hw) ?_; intro B w1 H1 hle hx hB hBw; obtain ⟨hc0, hc1⟩ := cells2 hB; clear hB)))
    go_ret
    exact ⟨rfl, hx.below.trans ((hb2.trans (hb3.mono hb2.size)).mono hx.below.size)⟩
  case pos =>
  rw [decide_eq_true h0] at cR
  replace cR := Lib.hid cR
  by_cases hm0 : ma < 0
  · replace cW := Lib.hid cW
    clear h0
    go_enter Tryd.func8, Tryd.ntmps8
    go_wp2_with (first | ((have hgd := hw2; clear hgd; go_at_call 13; go_must (refine (cW.out H1 _ hw2).mono ?_); rintro e w3 ⟨rfl, hb3⟩)) | ((have hgd := hx; clear hgd; go_at_call 12; go_must (refine (cR.out H1 _ hx.holds (hs.mono hle)).mono ?_); rintro e w2 ⟨rfl, hb2⟩; have hw2 := hx.holds.below hb2)) | ((refine wpList_boxF rfl _ rfl (Ext.refl hw) ?_; intro B w1 H1 hle hx hB hBw; obtain ⟨hc0, hc1⟩ := cells2 hB; clear hB)))
    go_ret
    exact ⟨rfl, hx.below.trans ((hb2.trans (hb3.mono hb2.size)).mono hx.below.size)⟩
  obtain ⟨k, rfl⟩ := Int.eq_ofNat_of_zero_le (Int.not_lt.1 hm0)
  cases hwi : within mb 0 255 with
  | false =>
    rw [hwi] at cWi
    replace cW := Lib.hid cW
    replace cWi := Lib.hid cWi
    clear h0 hwi
    go_enter Tryd.func8, Tryd.ntmps8
    go_wp2_with (first | ((have hgd := hw3; clear hgd; go_at_call 13; go_must (refine (cW.out H1 _ hw3).mono ?_); rintro e w4 ⟨rfl, hb4⟩)) | ((have hgd := hw2; clear hgd; go_at_call 28; go_must (refine (cWi.out _).mono ?_); rintro e w3 ⟨rfl, rfl⟩; have hw3 := hw2)) | ((have hgd := hx; clear hgd; go_at_call 12; go_must (refine (cR.out H1 _ hx.holds (hs.mono hle)).mono ?_); rintro e w2 ⟨rfl, hb2⟩; have hw2 := hx.holds.below hb2)) | ((refine wpList_boxF rfl _ rfl (Ext.refl hw) ?_; intro B w1 H1 hle hx hB hBw; obtain ⟨hc0, hc1⟩ := cells2 hB; clear hB)))
    go_ret
    exact ⟨rfl, hx.below.trans ((hb2.trans (hb4.mono hb2.size)).mono hx.below.size)⟩
  | true =>
  rw [hwi] at cWi
  obtain ⟨hb0, hb1⟩ := within_iff.1 hwi
  obtain ⟨y, rfl⟩ : ∃ y : UInt8, mb = (y.toNat : Int) := ⟨mb.toNat.toUInt8, by rw [UInt8.toNat_ofNat']; omega⟩
  have hcb : (y.toNat : Int) % 256 = (y.toNat : Int) := by omega
  have cWr := fun (u : Value) (H' : Snap) (W : World) (h1 : Holds H' W) (h2 : Sl H' u l) => written14_any u l h0 H' W h1 h2
  have hfl := file_le h0
  have hqs : (strB (fileA l)).size = (fileA l).length := rfl
  obtain ⟨q, hq⟩ : ∃ q, q = strB (fileA l) := ⟨_, rfl⟩
  have hro : ∀ t : ByteArray, ¬ t = q → Other l t := fun t ht => read_other h0 (t := t) (by rw [← hq]; exact ht)
  rw [← hq] at cWr hqs
  obtain ⟨Q1, hQ1, hg1, hQ0, hQ2, hadd, hQ4, hQ5, hQ6, hQ7⟩ := byte_sizes hqs hfl.1 hfl.2 y
  obtain ⟨k1, n1, cR1, hn1⟩ := hro _ (app_ne q y)
  obtain ⟨k2, n2, cR2, hn2⟩ := hro _ (cut_ne (q := q) (n := Q1) (hQ1 ▸ Nat.lt_succ_self Q1))
  have hcvA : ∀ W : World, (convert 56 9 (.slice (some ⟨W.heap.size, 0, none⟩) 1 1)).run Tryd.prog (W.alloc (.cells #[.int .u8 (y.toNat : Int)] 5)) = .ok (.string (strB [y])) (W.alloc (.cells #[.int .u8 (y.toNat : Int)] 5)) := fun W =>
    run_convert_bytes_back _ 56 9 5 ⟨W.heap.size, 0, none⟩ 1 [y] Tryd.underlying56 Tryd.underlying5 Tryd.underlying9 (fun j hj => by
      have hnew := heap_alloc_new W (.cells #[.int .u8 (y.toNat : Int)] 5)
      match j, hj with
      | 0, _ => show World.cell? _ ⟨W.heap.size, 0, none⟩ = _; rw [Lib.cell_of_heap hnew]; rfl)
  obtain ⟨hk0, hk1, hkq⟩ := byte_k k q.size
  replace cW := Lib.hid cW
  replace cWi := Lib.hid cWi
  replace cWr := Lib.hid cWr
  replace cR1 := Lib.hid cR1
  replace cR2 := Lib.hid cR2
  replace hn1 := Lib.hid hn1
  replace hn2 := Lib.hid hn2
  clear hg1 hQ0 hQ2
  replace hQ1 := Lib.hid hQ1
  replace hkq := Lib.hid hkq
  replace hq := Lib.hid hq
  replace hqs := Lib.hid hqs
  replace hro := Lib.hid hro
  clear h0 hwi hfl hb0 hb1 hm0
  go_enter Tryd.func8, Tryd.ntmps8
  go_upto_region 3 with (first | (have hgd := hw2; clear hgd; go_at_call 28; go_must (refine (cWi.out _).mono ?_); rintro e w3 ⟨rfl, rfl⟩) | (have hgd := hx; clear hgd; go_at_call 12; go_must (refine (cR.out H1 _ hx.holds (hs.mono hle)).mono ?_); rintro e w2 ⟨rfl, hb2⟩; have hw2 := hx.holds.below hb2) | (refine wpList_boxF rfl _ rfl (Ext.refl hw) ?_; intro B w1 H1 hle hx hB hBw; obtain ⟨hc0, hc1⟩ := cells2 hB; clear hB))
  have x2 := hx.step (hb2.mono hx.below.size) hw2
  have s2 := hs.mono hle
  clear hx hb2 hw2 hs hBw hle
  go_upto_region 6 with (go_at_call 14; go_must (refine (cWr.out _ H1 _ x2.holds s2).mono ?_); rintro e w3 ⟨rfl, hb3⟩; have x3 := x2.step (hb3.mono x2.below.size) (x2.holds.below hb3); have hw3 := x3.holds; have hcv := hcvA w3)
  clear x2 hb3 hcvA
  go_upto_region 7 with (go_at_call 15; go_must (refine (cR1.out H1 _ (x3.alloc _).holds).mono ?_); rintro e w4 ⟨v4, H4, rfl, y4, o4⟩; obtain ⟨H5, y5, _, s5, _⟩ := o4.close y4; obtain ⟨a4, c4, rfl, _, _⟩ := o4.form; have x5 := (x3.alloc _).trans y5; have l5 := y5.le (x3.alloc _).holds; have sT := s2.mono l5; have hc0 := lift l5 hc0; have hc1 := lift l5 hc1)
  clear x3 hw3 hcv y4 o4 y5 s2 l5
  go_upto_region 8 with (go_at_call 15; go_must (refine (cR2.out H5 _ x5.holds).mono ?_); rintro e w6 ⟨v6, H6, rfl, y6, o6⟩; obtain ⟨H7, y7, _, s7, _⟩ := o6.close y6; obtain ⟨a6, c6, rfl, _, _⟩ := o6.form; have x9 := x5.trans y7; have l7 := y7.le x5.holds; have s9 := s5.mono l7; have sT9 := sT.mono l7; have hc0 := lift l7 hc0; have hc1 := lift l7 hc1)
  clear x5 y6 o6 y7 s5 sT l7 hQ4 hQ5 hQ6 hQ7 hadd
  have hq0 := toList_same q
  rcases hn1.out with ⟨p1, p2⟩ | ⟨rfl, cS1⟩
  · rcases hn2.out with ⟨r1, r2⟩ | ⟨rfl, cS2⟩
    · go_upto_region 10 with fail
      clear p1 p2 r1 r2
      rcases hkq.out with hkge | hklt
      · have hI : (q.size : Int) ≤ (k : Int) := Int.ofNat_le.2 hkge
        refine wp_region_quietB H7 (by kernel_rfl) (by kernel_rfl) x9.holds (fun hne => ?_)
        repeat go_big_quiet_step ((first | fail))
        refine wpQuiet_nil ?_
        rintro ⟨w2, hw2, hb2⟩
        clear hne
        have x11 := x9.step (hb2.mono x9.below.size) hw2
        go_wp2_with (first | ((go_at_call 13; go_must (refine (cW.out H7 _ x11.holds).mono ?_); rintro e w12 ⟨rfl, hb12⟩)))
        go_ret
        exact ⟨rfl, x11.below.trans (hb12.mono x11.below.size)⟩
      · obtain ⟨hkI, hkI2, hkI3⟩ := byte_lt hklt
        obtain ⟨z, hz⟩ : ∃ z, q[k] = z := ⟨_, rfl⟩
        obtain ⟨hzw, hzn⟩ := byte_val z y
        by_cases hzy : z = y
        · subst hzy
          clear hzn
          refine wp_region_quietB H7 (by kernel_rfl) (by kernel_rfl) x9.holds (fun hne => ?_)
          repeat go_big_quiet_step ((first | fail))
          refine wpQuiet_nil ?_
          rintro ⟨w2, hw2, hb2⟩
          clear hne
          have x11 := x9.step (hb2.mono x9.below.size) hw2
          go_wp2_with (first | ((go_at_call 13; go_must (refine (cW.out H7 _ x11.holds).mono ?_); rintro e w12 ⟨rfl, hb12⟩)))
          go_ret
          exact ⟨rfl, x11.below.trans (hb12.mono x11.below.size)⟩
        · obtain ⟨hz1, hz2, hz3⟩ := hzn hzy
          obtain ⟨k3, n3, cR3, hn3⟩ := hro.out _ (set_ne hklt (y := y) (by rw [hz]; exact hzy))
          replace cR3 := Lib.hid cR3
          replace hn3 := Lib.hid hn3
          clear hzn
          refine wp_region_quietB H7 (by kernel_rfl) (by kernel_rfl) x9.holds (fun hne => ?_)
          repeat go_big_quiet_step ((first | fail))
          refine wpQuiet_nil ?_
          rintro ⟨w2, hw2, hb2⟩
          clear hne
          have x11 := x9.step (hb2.mono x9.below.size) hw2
          have hcvB := run_bytes_of_string (P := Tryd.prog) w2 9 56 5 q Tryd.underlying9 Tryd.underlying56 Tryd.underlying5
          generalize grownCap w2 q.size 0 5 = cap at *
          have hrow : (w2.drew.alloc (.cells (bytesRow q cap) 5 ((bytesRow q cap).size, (bytesRow q cap).size + 1))).heap[w2.heap.size]? = some (.cells (bytesRow q cap) 5 ((bytesRow q cap).size, (bytesRow q cap).size + 1)) := heap_alloc_new w2.drew _
          have x12 := x11.drew.alloc (.cells (bytesRow q cap) 5 ((bytesRow q cap).size, (bytesRow q cap).size + 1))
          have hgb := x11.below.size
          have hgn : H7 w2.heap.size = none := hw2.none_of_ge (Nat.le_refl _)
          have hfz := row_free hrow (bytesRow_size q hklt)
          have hcell := row_cell hrow hklt
          rw [hz] at hcell
          clear x9
          go_upto_region 13 with fail
          rw [show (w2.alloc (.cells (bytesRow q cap) 5 ((bytesRow q cap).size, (bytesRow q cap).size + 1))).drew = w2.drew.alloc (.cells (bytesRow q cap) 5 ((bytesRow q cap).size, (bytesRow q cap).size + 1)) from rfl]
          clear hz1 hz2 hz3 hkI3 hq0 hb2 x11
          generalize w2.drew.alloc (.cells (bytesRow q cap) 5 ((bytesRow q cap).size, (bytesRow q cap).size + 1)) = wB at *
          generalize w2.heap.size = g at *
          clear hcvB
          have x13 := x12.setCell (a := ⟨g, k, none⟩) hgb hgn (.int .u8 (y.toNat : Int))
          have hcvC : (convert 56 9 (.slice (some ⟨g, 0, none⟩) q.size cap)).run Tryd.prog (wB.setCell ⟨g, k, none⟩ (.int .u8 (y.toNat : Int))) = .ok (.string (strB ((bys q).set k y))) (wB.setCell ⟨g, k, none⟩ (.int .u8 (y.toNat : Int))) := by
            have h5 := run_convert_bytes_back (P := Tryd.prog) (wB.setCell ⟨g, k, none⟩ (.int .u8 (y.toNat : Int))) 56 9 5 ⟨g, 0, none⟩ cap ((bys q).set k y) Tryd.underlying56 Tryd.underlying5 Tryd.underlying9 (bytes_turned hrow y)
            rw [List.length_set, bys_len] at h5
            exact h5
          have hw12 := x12.holds
          replace hcvC := Lib.hid hcvC
          clear hrow hgb hgn
          go_upto_region 14 with fail
          clear hfz hcell hw12 x12
          have hcvC := hcvC.out
          generalize wB.setCell ⟨g, k, none⟩ (.int .u8 (y.toNat : Int)) = wC at *
          generalize strB ((bys q).set k y) = q3 at *
          rcases hn3.out with ⟨t1, t2⟩ | ⟨rfl, cS3⟩
          · go_wp2_with (first | ((have hgd := x15; clear hgd; go_at_call 13; go_must (refine (cW.out H14 _ x15.holds).mono ?_); rintro e w16 ⟨rfl, hb16⟩)) | ((go_at_call 15; go_must (refine (cR3.out H7 _ x13.holds).mono ?_); rintro e w14 ⟨v14, H14, rfl, x14, o14⟩; have x15 := x13.trans x14)))
            go_ret
            exact ⟨rfl, x15.below.trans (hb16.mono x15.below.size)⟩
          · replace cS3 := Lib.hid cS3
            go_wp2_with (first | ((have hgd := x16; clear hgd; go_at_call 13; go_must (refine (cW.out H15 _ x16.holds).mono ?_); rintro e w17 ⟨rfl, hb17⟩)) | ((have hgd := x15; clear hgd; go_at_call 16; go_must (refine (cS3.out _ _ H15 _ x15.holds s15 sT15).mono ?_); rintro e w16 ⟨rfl, hb16⟩; have x16 := x15.step (hb16.mono x15.below.size) (x15.holds.below hb16))) | ((go_at_call 15; go_must (refine (cR3.out H7 _ x13.holds).mono ?_); rintro e w14 ⟨v14, H14, rfl, x14, o14⟩; obtain ⟨H15, y15, _, s15, _⟩ := o14.close x14; obtain ⟨a14, c14, rfl, _, _⟩ := o14.form; have x15 := x13.trans y15; have sT15 := sT9.mono (y15.le x13.holds))))
            go_ret
            exact ⟨rfl, x16.below.trans (hb17.mono x16.below.size)⟩
    · replace cS2 := Lib.hid cS2
      go_upto_region 10 with (go_at_call 16; go_must (refine (cS2.out _ _ H7 _ x9.holds s7 sT9).mono ?_); rintro e w10 ⟨rfl, hb10⟩; have x9 := x9.step (hb10.mono x9.below.size) (x9.holds.below hb10); clear cS2)
      clear p1 p2
      rcases hkq.out with hkge | hklt
      · have hI : (q.size : Int) ≤ (k : Int) := Int.ofNat_le.2 hkge
        refine wp_region_quietB H7 (by kernel_rfl) (by kernel_rfl) x9.holds (fun hne => ?_)
        repeat go_big_quiet_step ((first | fail))
        refine wpQuiet_nil ?_
        rintro ⟨w2, hw2, hb2⟩
        clear hne
        have x11 := x9.step (hb2.mono x9.below.size) hw2
        go_wp2_with (first | ((go_at_call 13; go_must (refine (cW.out H7 _ x11.holds).mono ?_); rintro e w12 ⟨rfl, hb12⟩)))
        go_ret
        exact ⟨rfl, x11.below.trans (hb12.mono x11.below.size)⟩
      · obtain ⟨hkI, hkI2, hkI3⟩ := byte_lt hklt
        obtain ⟨z, hz⟩ : ∃ z, q[k] = z := ⟨_, rfl⟩
        obtain ⟨hzw, hzn⟩ := byte_val z y
        by_cases hzy : z = y
        · subst hzy
          clear hzn
          refine wp_region_quietB H7 (by kernel_rfl) (by kernel_rfl) x9.holds (fun hne => ?_)
          repeat go_big_quiet_step ((first | fail))
          refine wpQuiet_nil ?_
          rintro ⟨w2, hw2, hb2⟩
          clear hne
          have x11 := x9.step (hb2.mono x9.below.size) hw2
          go_wp2_with (first | ((go_at_call 13; go_must (refine (cW.out H7 _ x11.holds).mono ?_); rintro e w12 ⟨rfl, hb12⟩)))
          go_ret
          exact ⟨rfl, x11.below.trans (hb12.mono x11.below.size)⟩
        · obtain ⟨hz1, hz2, hz3⟩ := hzn hzy
          obtain ⟨k3, n3, cR3, hn3⟩ := hro.out _ (set_ne hklt (y := y) (by rw [hz]; exact hzy))
          replace cR3 := Lib.hid cR3
          replace hn3 := Lib.hid hn3
          clear hzn
          refine wp_region_quietB H7 (by kernel_rfl) (by kernel_rfl) x9.holds (fun hne => ?_)
          repeat go_big_quiet_step ((first | fail))
          refine wpQuiet_nil ?_
          rintro ⟨w2, hw2, hb2⟩
          clear hne
          have x11 := x9.step (hb2.mono x9.below.size) hw2
          have hcvB := run_bytes_of_string (P := Tryd.prog) w2 9 56 5 q Tryd.underlying9 Tryd.underlying56 Tryd.underlying5
          generalize grownCap w2 q.size 0 5 = cap at *
          have hrow : (w2.drew.alloc (.cells (bytesRow q cap) 5 ((bytesRow q cap).size, (bytesRow q cap).size + 1))).heap[w2.heap.size]? = some (.cells (bytesRow q cap) 5 ((bytesRow q cap).size, (bytesRow q cap).size + 1)) := heap_alloc_new w2.drew _
          have x12 := x11.drew.alloc (.cells (bytesRow q cap) 5 ((bytesRow q cap).size, (bytesRow q cap).size + 1))
          have hgb := x11.below.size
          have hgn : H7 w2.heap.size = none := hw2.none_of_ge (Nat.le_refl _)
          have hfz := row_free hrow (bytesRow_size q hklt)
          have hcell := row_cell hrow hklt
          rw [hz] at hcell
          clear x9
          go_upto_region 13 with fail
          rw [show (w2.alloc (.cells (bytesRow q cap) 5 ((bytesRow q cap).size, (bytesRow q cap).size + 1))).drew = w2.drew.alloc (.cells (bytesRow q cap) 5 ((bytesRow q cap).size, (bytesRow q cap).size + 1)) from rfl]
          clear hz1 hz2 hz3 hkI3 hq0 hb2 x11
          generalize w2.drew.alloc (.cells (bytesRow q cap) 5 ((bytesRow q cap).size, (bytesRow q cap).size + 1)) = wB at *
          generalize w2.heap.size = g at *
          clear hcvB
          have x13 := x12.setCell (a := ⟨g, k, none⟩) hgb hgn (.int .u8 (y.toNat : Int))
          have hcvC : (convert 56 9 (.slice (some ⟨g, 0, none⟩) q.size cap)).run Tryd.prog (wB.setCell ⟨g, k, none⟩ (.int .u8 (y.toNat : Int))) = .ok (.string (strB ((bys q).set k y))) (wB.setCell ⟨g, k, none⟩ (.int .u8 (y.toNat : Int))) := by
            have h5 := run_convert_bytes_back (P := Tryd.prog) (wB.setCell ⟨g, k, none⟩ (.int .u8 (y.toNat : Int))) 56 9 5 ⟨g, 0, none⟩ cap ((bys q).set k y) Tryd.underlying56 Tryd.underlying5 Tryd.underlying9 (bytes_turned hrow y)
            rw [List.length_set, bys_len] at h5
            exact h5
          have hw12 := x12.holds
          replace hcvC := Lib.hid hcvC
          clear hrow hgb hgn
          go_upto_region 14 with fail
          clear hfz hcell hw12 x12
          have hcvC := hcvC.out
          generalize wB.setCell ⟨g, k, none⟩ (.int .u8 (y.toNat : Int)) = wC at *
          generalize strB ((bys q).set k y) = q3 at *
          rcases hn3.out with ⟨t1, t2⟩ | ⟨rfl, cS3⟩
          · go_wp2_with (first | ((have hgd := x15; clear hgd; go_at_call 13; go_must (refine (cW.out H14 _ x15.holds).mono ?_); rintro e w16 ⟨rfl, hb16⟩)) | ((go_at_call 15; go_must (refine (cR3.out H7 _ x13.holds).mono ?_); rintro e w14 ⟨v14, H14, rfl, x14, o14⟩; have x15 := x13.trans x14)))
            go_ret
            exact ⟨rfl, x15.below.trans (hb16.mono x15.below.size)⟩
          · replace cS3 := Lib.hid cS3
            go_wp2_with (first | ((have hgd := x16; clear hgd; go_at_call 13; go_must (refine (cW.out H15 _ x16.holds).mono ?_); rintro e w17 ⟨rfl, hb17⟩)) | ((have hgd := x15; clear hgd; go_at_call 16; go_must (refine (cS3.out _ _ H15 _ x15.holds s15 sT15).mono ?_); rintro e w16 ⟨rfl, hb16⟩; have x16 := x15.step (hb16.mono x15.below.size) (x15.holds.below hb16))) | ((go_at_call 15; go_must (refine (cR3.out H7 _ x13.holds).mono ?_); rintro e w14 ⟨v14, H14, rfl, x14, o14⟩; obtain ⟨H15, y15, _, s15, _⟩ := o14.close x14; obtain ⟨a14, c14, rfl, _, _⟩ := o14.form; have x15 := x13.trans y15; have sT15 := sT9.mono (y15.le x13.holds))))
            go_ret
            exact ⟨rfl, x16.below.trans (hb17.mono x16.below.size)⟩
  · replace cS1 := Lib.hid cS1
    rcases hn2.out with ⟨r1, r2⟩ | ⟨rfl, cS2⟩
    · go_upto_region 10 with (go_at_call 16; go_must (refine (cS1.out _ _ H7 _ x9.holds s9 sT9).mono ?_); rintro e w10 ⟨rfl, hb10⟩; have x9 := x9.step (hb10.mono x9.below.size) (x9.holds.below hb10); clear cS1)
      clear r1 r2
      rcases hkq.out with hkge | hklt
      · have hI : (q.size : Int) ≤ (k : Int) := Int.ofNat_le.2 hkge
        refine wp_region_quietB H7 (by kernel_rfl) (by kernel_rfl) x9.holds (fun hne => ?_)
        repeat go_big_quiet_step ((first | fail))
        refine wpQuiet_nil ?_
        rintro ⟨w2, hw2, hb2⟩
        clear hne
        have x11 := x9.step (hb2.mono x9.below.size) hw2
        go_wp2_with (first | ((go_at_call 13; go_must (refine (cW.out H7 _ x11.holds).mono ?_); rintro e w12 ⟨rfl, hb12⟩)))
        go_ret
        exact ⟨rfl, x11.below.trans (hb12.mono x11.below.size)⟩
      · obtain ⟨hkI, hkI2, hkI3⟩ := byte_lt hklt
        obtain ⟨z, hz⟩ : ∃ z, q[k] = z := ⟨_, rfl⟩
        obtain ⟨hzw, hzn⟩ := byte_val z y
        by_cases hzy : z = y
        · subst hzy
          clear hzn
          refine wp_region_quietB H7 (by kernel_rfl) (by kernel_rfl) x9.holds (fun hne => ?_)
          repeat go_big_quiet_step ((first | fail))
          refine wpQuiet_nil ?_
          rintro ⟨w2, hw2, hb2⟩
          clear hne
          have x11 := x9.step (hb2.mono x9.below.size) hw2
          go_wp2_with (first | ((go_at_call 13; go_must (refine (cW.out H7 _ x11.holds).mono ?_); rintro e w12 ⟨rfl, hb12⟩)))
          go_ret
          exact ⟨rfl, x11.below.trans (hb12.mono x11.below.size)⟩
        · obtain ⟨hz1, hz2, hz3⟩ := hzn hzy
          obtain ⟨k3, n3, cR3, hn3⟩ := hro.out _ (set_ne hklt (y := y) (by rw [hz]; exact hzy))
          replace cR3 := Lib.hid cR3
          replace hn3 := Lib.hid hn3
          clear hzn
          refine wp_region_quietB H7 (by kernel_rfl) (by kernel_rfl) x9.holds (fun hne => ?_)
          repeat go_big_quiet_step ((first | fail))
          refine wpQuiet_nil ?_
          rintro ⟨w2, hw2, hb2⟩
          clear hne
          have x11 := x9.step (hb2.mono x9.below.size) hw2
          have hcvB := run_bytes_of_string (P := Tryd.prog) w2 9 56 5 q Tryd.underlying9 Tryd.underlying56 Tryd.underlying5
          generalize grownCap w2 q.size 0 5 = cap at *
          have hrow : (w2.drew.alloc (.cells (bytesRow q cap) 5 ((bytesRow q cap).size, (bytesRow q cap).size + 1))).heap[w2.heap.size]? = some (.cells (bytesRow q cap) 5 ((bytesRow q cap).size, (bytesRow q cap).size + 1)) := heap_alloc_new w2.drew _
          have x12 := x11.drew.alloc (.cells (bytesRow q cap) 5 ((bytesRow q cap).size, (bytesRow q cap).size + 1))
          have hgb := x11.below.size
          have hgn : H7 w2.heap.size = none := hw2.none_of_ge (Nat.le_refl _)
          have hfz := row_free hrow (bytesRow_size q hklt)
          have hcell := row_cell hrow hklt
          rw [hz] at hcell
          clear x9
          go_upto_region 13 with fail
          rw [show (w2.alloc (.cells (bytesRow q cap) 5 ((bytesRow q cap).size, (bytesRow q cap).size + 1))).drew = w2.drew.alloc (.cells (bytesRow q cap) 5 ((bytesRow q cap).size, (bytesRow q cap).size + 1)) from rfl]
          clear hz1 hz2 hz3 hkI3 hq0 hb2 x11
          generalize w2.drew.alloc (.cells (bytesRow q cap) 5 ((bytesRow q cap).size, (bytesRow q cap).size + 1)) = wB at *
          generalize w2.heap.size = g at *
          clear hcvB
          have x13 := x12.setCell (a := ⟨g, k, none⟩) hgb hgn (.int .u8 (y.toNat : Int))
          have hcvC : (convert 56 9 (.slice (some ⟨g, 0, none⟩) q.size cap)).run Tryd.prog (wB.setCell ⟨g, k, none⟩ (.int .u8 (y.toNat : Int))) = .ok (.string (strB ((bys q).set k y))) (wB.setCell ⟨g, k, none⟩ (.int .u8 (y.toNat : Int))) := by
            have h5 := run_convert_bytes_back (P := Tryd.prog) (wB.setCell ⟨g, k, none⟩ (.int .u8 (y.toNat : Int))) 56 9 5 ⟨g, 0, none⟩ cap ((bys q).set k y) Tryd.underlying56 Tryd.underlying5 Tryd.underlying9 (bytes_turned hrow y)
            rw [List.length_set, bys_len] at h5
            exact h5
          have hw12 := x12.holds
          replace hcvC := Lib.hid hcvC
          clear hrow hgb hgn
          go_upto_region 14 with fail
          clear hfz hcell hw12 x12
          have hcvC := hcvC.out
          generalize wB.setCell ⟨g, k, none⟩ (.int .u8 (y.toNat : Int)) = wC at *
          generalize strB ((bys q).set k y) = q3 at *
          rcases hn3.out with ⟨t1, t2⟩ | ⟨rfl, cS3⟩
          · go_wp2_with (first | ((have hgd := x15; clear hgd; go_at_call 13; go_must (refine (cW.out H14 _ x15.holds).mono ?_); rintro e w16 ⟨rfl, hb16⟩)) | ((go_at_call 15; go_must (refine (cR3.out H7 _ x13.holds).mono ?_); rintro e w14 ⟨v14, H14, rfl, x14, o14⟩; have x15 := x13.trans x14)))
            go_ret
            exact ⟨rfl, x15.below.trans (hb16.mono x15.below.size)⟩
          · replace cS3 := Lib.hid cS3
            go_wp2_with (first | ((have hgd := x16; clear hgd; go_at_call 13; go_must (refine (cW.out H15 _ x16.holds).mono ?_); rintro e w17 ⟨rfl, hb17⟩)) | ((have hgd := x15; clear hgd; go_at_call 16; go_must (refine (cS3.out _ _ H15 _ x15.holds s15 sT15).mono ?_); rintro e w16 ⟨rfl, hb16⟩; have x16 := x15.step (hb16.mono x15.below.size) (x15.holds.below hb16))) | ((go_at_call 15; go_must (refine (cR3.out H7 _ x13.holds).mono ?_); rintro e w14 ⟨v14, H14, rfl, x14, o14⟩; obtain ⟨H15, y15, _, s15, _⟩ := o14.close x14; obtain ⟨a14, c14, rfl, _, _⟩ := o14.form; have x15 := x13.trans y15; have sT15 := sT9.mono (y15.le x13.holds))))
            go_ret
            exact ⟨rfl, x16.below.trans (hb17.mono x16.below.size)⟩
    · replace cS2 := Lib.hid cS2
      go_upto_region 10 with (first | (have hgd := cS1; clear hgd; (go_at_call 16; go_must (refine (cS1.out _ _ H7 _ x9.holds s9 sT9).mono ?_); rintro e w10 ⟨rfl, hb10⟩; have x9 := x9.step (hb10.mono x9.below.size) (x9.holds.below hb10); clear cS1)) | (go_at_call 16; go_must (refine (cS2.out _ _ H7 _ x9.holds s7 sT9).mono ?_); rintro e w10 ⟨rfl, hb10⟩; have x9 := x9.step (hb10.mono x9.below.size) (x9.holds.below hb10); clear cS2))
      rcases hkq.out with hkge | hklt
      · have hI : (q.size : Int) ≤ (k : Int) := Int.ofNat_le.2 hkge
        refine wp_region_quietB H7 (by kernel_rfl) (by kernel_rfl) x9.holds (fun hne => ?_)
        repeat go_big_quiet_step ((first | fail))
        refine wpQuiet_nil ?_
        rintro ⟨w2, hw2, hb2⟩
        clear hne
        have x11 := x9.step (hb2.mono x9.below.size) hw2
        go_wp2_with (first | ((go_at_call 13; go_must (refine (cW.out H7 _ x11.holds).mono ?_); rintro e w12 ⟨rfl, hb12⟩)))
        go_ret
        exact ⟨rfl, x11.below.trans (hb12.mono x11.below.size)⟩
      · obtain ⟨hkI, hkI2, hkI3⟩ := byte_lt hklt
        obtain ⟨z, hz⟩ : ∃ z, q[k] = z := ⟨_, rfl⟩
        obtain ⟨hzw, hzn⟩ := byte_val z y
        by_cases hzy : z = y
        · subst hzy
          clear hzn
          refine wp_region_quietB H7 (by kernel_rfl) (by kernel_rfl) x9.holds (fun hne => ?_)
          repeat go_big_quiet_step ((first | fail))
          refine wpQuiet_nil ?_
          rintro ⟨w2, hw2, hb2⟩
          clear hne
          have x11 := x9.step (hb2.mono x9.below.size) hw2
          go_wp2_with (first | ((go_at_call 13; go_must (refine (cW.out H7 _ x11.holds).mono ?_); rintro e w12 ⟨rfl, hb12⟩)))
          go_ret
          exact ⟨rfl, x11.below.trans (hb12.mono x11.below.size)⟩
        · obtain ⟨hz1, hz2, hz3⟩ := hzn hzy
          obtain ⟨k3, n3, cR3, hn3⟩ := hro.out _ (set_ne hklt (y := y) (by rw [hz]; exact hzy))
          replace cR3 := Lib.hid cR3
          replace hn3 := Lib.hid hn3
          clear hzn
          refine wp_region_quietB H7 (by kernel_rfl) (by kernel_rfl) x9.holds (fun hne => ?_)
          repeat go_big_quiet_step ((first | fail))
          refine wpQuiet_nil ?_
          rintro ⟨w2, hw2, hb2⟩
          clear hne
          have x11 := x9.step (hb2.mono x9.below.size) hw2
          have hcvB := run_bytes_of_string (P := Tryd.prog) w2 9 56 5 q Tryd.underlying9 Tryd.underlying56 Tryd.underlying5
          generalize grownCap w2 q.size 0 5 = cap at *
          have hrow : (w2.drew.alloc (.cells (bytesRow q cap) 5 ((bytesRow q cap).size, (bytesRow q cap).size + 1))).heap[w2.heap.size]? = some (.cells (bytesRow q cap) 5 ((bytesRow q cap).size, (bytesRow q cap).size + 1)) := heap_alloc_new w2.drew _
          have x12 := x11.drew.alloc (.cells (bytesRow q cap) 5 ((bytesRow q cap).size, (bytesRow q cap).size + 1))
          have hgb := x11.below.size
          have hgn : H7 w2.heap.size = none := hw2.none_of_ge (Nat.le_refl _)
          have hfz := row_free hrow (bytesRow_size q hklt)
          have hcell := row_cell hrow hklt
          rw [hz] at hcell
          clear x9
          go_upto_region 13 with fail
          rw [show (w2.alloc (.cells (bytesRow q cap) 5 ((bytesRow q cap).size, (bytesRow q cap).size + 1))).drew = w2.drew.alloc (.cells (bytesRow q cap) 5 ((bytesRow q cap).size, (bytesRow q cap).size + 1)) from rfl]
          clear hz1 hz2 hz3 hkI3 hq0 hb2 x11
          generalize w2.drew.alloc (.cells (bytesRow q cap) 5 ((bytesRow q cap).size, (bytesRow q cap).size + 1)) = wB at *
          generalize w2.heap.size = g at *
          clear hcvB
          have x13 := x12.setCell (a := ⟨g, k, none⟩) hgb hgn (.int .u8 (y.toNat : Int))
          have hcvC : (convert 56 9 (.slice (some ⟨g, 0, none⟩) q.size cap)).run Tryd.prog (wB.setCell ⟨g, k, none⟩ (.int .u8 (y.toNat : Int))) = .ok (.string (strB ((bys q).set k y))) (wB.setCell ⟨g, k, none⟩ (.int .u8 (y.toNat : Int))) := by
            have h5 := run_convert_bytes_back (P := Tryd.prog) (wB.setCell ⟨g, k, none⟩ (.int .u8 (y.toNat : Int))) 56 9 5 ⟨g, 0, none⟩ cap ((bys q).set k y) Tryd.underlying56 Tryd.underlying5 Tryd.underlying9 (bytes_turned hrow y)
            rw [List.length_set, bys_len] at h5
            exact h5
          have hw12 := x12.holds
          replace hcvC := Lib.hid hcvC
          clear hrow hgb hgn
          go_upto_region 14 with fail
          clear hfz hcell hw12 x12
          have hcvC := hcvC.out
          generalize wB.setCell ⟨g, k, none⟩ (.int .u8 (y.toNat : Int)) = wC at *
          generalize strB ((bys q).set k y) = q3 at *
          rcases hn3.out with ⟨t1, t2⟩ | ⟨rfl, cS3⟩
          · go_wp2_with (first | ((have hgd := x15; clear hgd; go_at_call 13; go_must (refine (cW.out H14 _ x15.holds).mono ?_); rintro e w16 ⟨rfl, hb16⟩)) | ((go_at_call 15; go_must (refine (cR3.out H7 _ x13.holds).mono ?_); rintro e w14 ⟨v14, H14, rfl, x14, o14⟩; have x15 := x13.trans x14)))
            go_ret
            exact ⟨rfl, x15.below.trans (hb16.mono x15.below.size)⟩
          · replace cS3 := Lib.hid cS3
            go_wp2_with (first | ((have hgd := x16; clear hgd; go_at_call 13; go_must (refine (cW.out H15 _ x16.holds).mono ?_); rintro e w17 ⟨rfl, hb17⟩)) | ((have hgd := x15; clear hgd; go_at_call 16; go_must (refine (cS3.out _ _ H15 _ x15.holds s15 sT15).mono ?_); rintro e w16 ⟨rfl, hb16⟩; have x16 := x15.step (hb16.mono x15.below.size) (x15.holds.below hb16))) | ((go_at_call 15; go_must (refine (cR3.out H7 _ x13.holds).mono ?_); rintro e w14 ⟨v14, H14, rfl, x14, o14⟩; obtain ⟨H15, y15, _, s15, _⟩ := o14.close x14; obtain ⟨a14, c14, rfl, _, _⟩ := o14.form; have x15 := x13.trans y15; have sT15 := sT9.mono (y15.le x13.holds))))
            go_ret
            exact ⟨rfl, x16.below.trans (hb17.mono x16.below.size)⟩
end Go.Proofs.YthcfhmebikcfpaaDoor

namespace Go.Proofs.YthcfhmebikcfpaaDoor
open Go.ChangeShapes Go.WideShapes Go.ChangeAt Go.RowKit

theorem nightByte_own : ownKnob Tryd.prog.godebug = none := by kernel_rfl
theorem nightByte_laid : laidOutB Tryd.prog = true := by kernel_rfl

set_option maxHeartbeats 1600000 in
set_option maxRecDepth 100000 in
theorem nightByte_lifted (os : Os) (started : os.Started) (H : Type) (enc : TypeId × Value → H) :
    ReturnsInHanded {} Tryd.checked os 8 .any (fun w args => (Rows.nightByteSpec.pre enc Tryd.prog Tryd.f8 [] false w args ∧ laidMetH Tryd.prog laidN w) ∧ sizedMet enc Tryd.prog Tryd.f8 (OpenSpec.ofChange Rows.nightByteSpec) false w args)
      (Rows.nightByteSpec.post enc Tryd.prog Tryd.f8 false true false false) := by
  refine returnsInHanded_of_change_and (C := Tryd.checked) (X := fun w _ => laidMetH Tryd.prog laidN w) (fun _ _ _ hh h => h.of_heap hh) nightByte_own started (by kernel_rfl) Tryd.func8
    (ChangeSpec.witness_shaped (enc := enc) (C := Tryd.checked) (os := os) (X := fun w _ => laidMetH Tryd.prog laidN w) false (doorN os) #[.slice none 0 0, .agg #[.int .i64 0, .int .i64 0]] 8 rfl (door_shaped os _) (by kernel_rfl) (by kernel_rfl) (by kernel_rfl) (door_met os _)) ?_
  intro W base args ds gs before hval0 hW _ hsz _ _
  have hval : ∀ (j : Nat) t v, Tryd.f8.params[j]? = some t → args[j]? = some v → Value.okWide Tryd.prog W .any base t v := hval0
  have hW' := hW
  obtain ⟨p, q, hA0, hV, rfl, _, _⟩ := hW
  have hA : DataW.TrodAll enc Tryd.prog W 0 (fun _ => true) true Tryd.f8.params.toList args.toList ds p := hA0
  have hS : (DataW.weightsEach Tryd.prog (Tryd.f8.params.toList ++ []) (ds ++ gs)).all (· ≤ reachBytes) = true := hsz
  rw [Tryd.params8] at hA hval hS
  obtain ⟨v0, v1, d0, d1, p0, p1, rfl, rfl, rfl, h0, h1⟩ := trodAll_two hA
  obtain ⟨rfl, rfl⟩ := trodVars_none hV
  clear hA0 hval0 hsz
  simp only [List.append_nil] at hW' hS
  have hlt : ∀ x ∈ p0 ++ p1, x.block < W.heap.size := fun x hx => by simpa using hW'.lt x hx
  have harg0 : ∀ W', Below W.heap.size W W' → DataW.Trod enc Tryd.prog W' 0 (fun b => decide (b < W.heap.size)) true 22 v0 d0 p0 := fun W' hb =>
    Below.trod nightByte_laid (by kernel_rfl) (of_decide_eq_true (by kernel_rfl)) h0 hb (fun x hx => hlt x (List.mem_append.2 (.inl hx)))
  have hw0 : ∀ k ∈ d0.weights Tryd.prog 22, k ≤ reachBytes := fun k hk => by
    simpa using List.all_eq_true.1 hS k (DataW.weights_mem_each (j := 0) rfl rfl k hk)
  have harg1 : ∀ W', Below W.heap.size W W' → DataW.Trod enc Tryd.prog W' 0 (fun b => decide (b < W.heap.size)) true 55 v1 d1 p1 := fun W' hb =>
    Below.trod nightByte_laid (by kernel_rfl) (of_decide_eq_true (by kernel_rfl)) h1 hb (fun x hx => hlt x (List.mem_append.2 (.inr hx)))
  have hw1 : ∀ k ∈ d1.weights Tryd.prog 55, k ≤ reachBytes := fun k hk => by
    simpa using List.all_eq_true.1 hS k (DataW.weights_mem_each (j := 1) rfl rfl k hk)
  obtain ⟨a0, l0, c0, rfl⟩ := okWide_slice Tryd.underlying22 (hval 0 22 v0 rfl rfl)
  obtain ⟨n0, h0'⟩ := h0
  obtain ⟨xs0, hx0⟩ := texts_opened (by simpa [Value.cells] using h0') hw0
  obtain ⟨ma1, mb1, rfl, hp1, hq1⟩ := blot_opened (hval 1 55 v1 rfl rfl) h1
  refine (nightByte_any _ xs0 ma1 mb1 (snapOf W) W (snapOf_holds W) hx0 hp1 hq1).mono fun e W' ⟨he, hb⟩ => ?_
  subst he
  refine ⟨_, rfl, _, _, _, [], _, [], hW', ?_, trodAll_mk2 (harg0 W' hb) (harg1 W' hb), rfl, hb.frame _, fun h => by cases h⟩
  exact trodAll_mk1 (shut_bool Tryd.underlying4 _)

theorem nightByte_said : Rows.NightByteSaid :=
  OpenClaim.holds_of_wide 8 Tryd.f8 rfl rfl rfl rfl rfl rfl rfl ⟨rfl, rfl, rfl, rfl, rfl⟩ rfl rfl rfl rfl rfl (by kernel_rfl) Tryd.func8 (by kernel_rfl)
    (of_decide_eq_true (by kernel_rfl)) (by unfold Func.isWrapper; first | (rw [if_pos (by decide +kernel)]; kernel_rfl) | (rw [if_neg (by decide +kernel)]; exact ⟨rfl, rfl⟩))
    (fun os started H enc _ => nightByte_lifted os started H enc)
theorem nightByte_card : Rows.NightByteCardSaid :=
  Claim7.holds_tied_plain_at .later [] [.data, .pinned] true (true, "939a424db51006e050b52def13aedbed6d4c52175fd3e7427ddbb41609789fdc") false
    nightByte_said (fun _ h => by cases h) (by kernel_rfl) (fun _ h => by cases h) nightByte_row_tie rfl ⟨rfl, rfl⟩ (by kernel_rfl) rfl
    (fun f fn hf hfn => by
      obtain rfl : f = 8 := Option.some.inj ((show Tryd.prog.funcNamed "flong/flonglaw14.NightByte" = some 8 by kernel_rfl).symm.trans hf) |>.symm
      obtain rfl : fn = Tryd.f8 := (Option.some.inj (Tryd.func8.symm.trans hfn)).symm
      exact ⟨by kernel_rfl, fun j t ht => by
        rw [Tryd.params8] at ht
        have hm : t ∈ [22, 55] := by simpa using Array.mem_of_getElem? ht
        have hall : ([22, 55].all fun u => !Tryd.prog.wantsStandIn u) = true := by kernel_rfl
        exact (show Tryd.prog.wantsStandIn t = false by simpa using List.all_eq_true.1 hall t hm)⟩)
    (by kernel_rfl)
end Go.Proofs.YthcfhmebikcfpaaDoor
