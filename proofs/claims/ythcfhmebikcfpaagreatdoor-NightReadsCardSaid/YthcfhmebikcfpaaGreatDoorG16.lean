/- Lemmas and walks on which the claims of this seat lean: NGa NGd NGe. -/
import Derived.Test.YthcfhmebikcfpaaGreatDoorG05
import Derived.Test.YthcfhmebikcfpaaGreatDoorG07
import Derived.Test.YthcfhmebikcfpaaGreatDoorG09

set_option linter.all false

namespace Go.Proofs.YthcfhmebikcfpaaGreatDoor
open Go.RowKit

attribute [local go_sem] Holds.drew Holds.alloc Holds.drewN WB.holds Oper.semAt_some

set_option maxRecDepth 100000 in
set_option maxHeartbeats 1000000 in
theorem times14_any (s : ByteArray) (hsz : s.size ≤ 100000) (c : Nat) (w : World) :
    Calls Tryz.prog 62 #[.string s, .int .i64 (c : Int)] w (PostV w (.int .i64 (cnt (bys s) c : Int))) := by
  go_enter Tryz.func62, Tryz.ntmps62
  go_wp2
  go_loopw [5, 6] (fun nv i wr => ∃ k : Nat, k ≤ s.size ∧ i = .int .i64 (k : Int) ∧ nv = .int .i64 (cnt ((bys s).take k) c : Int) ∧ Below w.heap.size w wr) (fun _ i _ => s.size - (intOf i).toNat)
  case atStart => exact ⟨0, Nat.zero_le _, rfl, rfl, Below.refl _ _⟩
  case round =>
    obtain ⟨k, hk, rfl, rfl, xr⟩ := hrel
    by_cases hlk : k < s.size
    · obtain ⟨x, hx⟩ := At.mk (show k < (bys s).length from hlk)
      have hk0 : (0 : Int) ≤ (k : Int) := by omega
      have hk1 : (k : Int) < (s.size : Int) := by omega
      have hsk : s[k] = x := by
        have h1 : (bys s)[k]? = some x := hx
        rw [List.getElem?_eq_getElem (show k < (bys s).length from hlk)] at h1
        exact Option.some.inj h1
      have hxl : x.toNat < 256 := x.toNat_lt
      have hwx : wrap64 (x.toNat : Int) = (x.toNat : Int) := wrap64_in _ (by omega) (by omega)
      have hwk : wrap64 ((k : Int) + 1) = (k : Int) + 1 := wrap64_in _ (by omega) (by omega)
      have hcl := cnt_le ((bys s).take k) c
      rw [List.length_take, bys_len] at hcl
      have hsn := cnt_snoc ((bys s).take k) x c
      rw [← hx.take] at hsn
      have hwn : wrap64 ((cnt ((bys s).take k) c : Int) + 1) = (cnt ((bys s).take k) c : Int) + 1 := wrap64_in _ (by omega) (by omega)
      generalize cnt ((bys s).take k) c = n at *
      clear hcl
      by_cases hcx : c = x.toNat
      · have hb1 : ((x.toNat : Int) == (c : Int)) = true := by rw [beq_iff_eq]; omega
        rw [if_pos hcx] at hsn
        replace hsn := Lib.hid hsn
        clear hcx
        go_wp2_with fail
        go_roundw
        case rel => exact ⟨k + 1, by omega, by go_num, by rw [hsn.out]; go_num, xr⟩
        case measure => simp [intOf]; omega
      · have hb1 : ((x.toNat : Int) == (c : Int)) = false := by rw [beq_eq_false_iff_ne]; omega
        rw [if_neg hcx] at hsn
        replace hsn := Lib.hid hsn
        clear hcx
        go_wp2_with fail
        go_roundw
        case rel => exact ⟨k + 1, by omega, by go_num, by rw [hsn.out]; rfl, xr⟩
        case measure => simp [intOf]; omega
    · have hall : (bys s).take k = bys s := List.take_of_length_le (by rw [bys_len]; omega)
      rw [hall]
      go_wp2_with fail
      go_ret
      exact ⟨rfl, xr⟩

set_option maxRecDepth 100000 in
set_option maxHeartbeats 1000000 in
theorem weightsOf14_any (s : ByteArray) (hsz : s.size ≤ 100000) (H : Snap) (w : World) (hw : Holds H w) :
    Calls Tryz.prog 41 #[.string s] w (PostO w H 69 (wtsA (bys s))) := by
  have ht := fun (c : Nat) (W : World) => times14_any s hsz c W
  have hcb : ∀ c, cnt (bys s) c ≤ 100000 := fun c => Nat.le_trans (cnt_le _ c) (by rw [bys_len]; exact hsz)
  generalize bys s = m at *
  replace ht := Lib.hid ht
  replace hcb := Lib.hid hcb
  clear hsz
  go_enter Tryz.func41, Tryz.ntmps41
  go_wp2
  go_loopw [3, 4] (fun ov i wq => ∃ k : Nat, k ≤ 256 ∧ i = .int .i64 (k : Int) ∧ Own H w.heap.size wq 69 ov (wtsTo m k) ∧ Ext w H wq H) (fun _ i _ => 256 - (intOf i).toNat)
  case atStart => exact ⟨0, Nat.zero_le _, rfl, Own.nil _ _ _ _, Ext.refl hw⟩
  case round =>
    obtain ⟨j, hj, rfl, own, xq⟩ := hrel
    by_cases hlj : j < 256
    · have hj0 : (0 : Int) ≤ (j : Int) := by omega
      have hj1 : (j : Int) < 256 := by omega
      have hcm := hcb.out j
      have htj := Lib.hid (ht.out j)
      have hwq := xq.holds
      have hwk : wrap64 ((j : Int) + 1) = (j : Int) + 1 := wrap64_in _ (by omega) (by omega)
      by_cases hpos : 0 < cnt m j
      · have hpi : (0 : Int) < (cnt m j : Int) := by omega
        have hnext := wtsTo_pos hpos
        have hln := wtsTo_len m j
        have hrep : I64 (j : Int) ∧ I64 (cnt m j : Int) := ⟨by unfold I64; omega, by unfold I64; omega⟩
        replace hrep := Lib.hid hrep
        replace hnext := Lib.hid hnext
        clear hpos hcm
        go_wp2_with (first | ((at_builtin; have hgd := own2; clear hgd; go_must (refine wpList_app1P eWt _ _ x2 own2 (j : Int) (cnt m j : Int) hrep.out (by omega) rfl rfl rfl rfl ?_); intro vA wA ownA xA hwA)) | ((go_at_call 62; refine (htj.out _).mono ?_; rintro e w2 ⟨rfl, hb2⟩; have hw2 := hwq.below hb2; have x2 := xq.step (hb2.mono xq.below.size) hw2; have own2 := own.ext hwq ((Ext.refl hwq).step hb2 hw2))))
        go_roundw
        case rel => exact ⟨j + 1, by omega, by go_num, by rw [hnext.out]; exact ownA, xA⟩
        case measure => simp [intOf]; omega
      · have hpi : ¬ (0 : Int) < (cnt m j : Int) := by omega
        have hnext := wtsTo_zero hpos
        replace hnext := Lib.hid hnext
        clear hpos hcm
        go_wp2_with (first | ((go_at_call 62; refine (htj.out _).mono ?_; rintro e w2 ⟨rfl, hb2⟩; have hw2 := hwq.below hb2; have x2 := xq.step (hb2.mono xq.below.size) hw2; have own2 := own.ext hwq ((Ext.refl hwq).step hb2 hw2))))
        go_roundw
        case rel => exact ⟨j + 1, by omega, by go_num, by rw [hnext.out]; exact own2, x2⟩
        case measure => simp [intOf]; omega
    · have : j = 256 := by omega
      subst this
      go_wp2_with fail
      go_ret
      exact ⟨_, H, rfl, xq, own⟩

set_option maxRecDepth 100000 in
theorem weightsT14_any (v : Value) (l : List ByteArray) (H : Snap) (w : World) (hw : Holds H w) (hs : Sl H v l) :
    Calls Tryz.prog 12 #[v] w (PostOE w H 69 (wtsR l) (areE l)) := by
  have hc := areTexts14_any v l H w hw hs
  by_cases h : areE l = 0
  · have e : wtsR l = wtsA (msgOf l) := by unfold wtsR; rw [if_pos h]
    have hl := (areE_zero h).1
    have hsz := areE_size h
    have hml : (strB (msgOf l)).size ≤ 100000 := Nat.le_trans (msgOf_len h) (by decide)
    rw [h] at hc
    rw [e, h]
    clear e h
    replace hc := Lib.hid hc
    go_enter Tryz.func12, Tryz.ntmps12
    go_wp2_with (first | ((go_at_call 41; refine (weightsOf14_any _ hml H _ hw3).mono ?_; rintro e w4 ⟨v4, H4, rfl, x4, o4⟩)) | ((go_at_call 42; refine (message14_any _ l H _ hw2 hs (by omega) hsz).mono ?_; rintro e w3 ⟨rfl, hb3⟩; have hw3 := hw2.below hb3; have x3 := x2.step (hb3.mono x2.below.size) hw3)) | ((go_at_call 37; refine hc.out.mono ?_; rintro e w2 ⟨rfl, hb2⟩; have hw2 := hw.below hb2; have x2 := (Ext.refl hw).step hb2 hw2)))
    go_ret2
    exact ⟨v4, H4, rfl, x3.trans x4, o4.weaken x3.below.size⟩
  · have e : wtsR l = [] := by unfold wtsR; rw [if_neg h]
    have hb : (areE l == 0) = false := by rw [beq_eq_false_iff_ne]; exact h
    have hb2 : (areE l != 0) = true := by rw [bne_iff_ne]; exact h
    rw [e]
    generalize areE l = n at *
    clear e h
    replace hc := Lib.hid hc
    go_enter Tryz.func12, Tryz.ntmps12
    go_wp2_with (first | ((go_at_call 37; refine hc.out.mono ?_; rintro e w2 ⟨rfl, hb2⟩; have hw2 := hw.below hb2; have x2 := (Ext.refl hw).step hb2 hw2)))
    go_ret2
    exact ⟨_, H, rfl, x2, Own.nil _ _ _ _⟩
end Go.Proofs.YthcfhmebikcfpaaGreatDoor

namespace Go.Proofs.YthcfhmebikcfpaaGreatDoor
open Go.RowKit

attribute [local go_sem] Holds.drew Holds.alloc Holds.drewN WB.holds Oper.semAt_some

theorem eNod14 : ElemT Tryz.prog 98 100 Nod := .mk' (.agg #[.int .i64 0, .slice none 0 0]) Tryz.underlying98 (by kernel_rfl) rfl (by decide)
theorem Sl.nod {H : Snap} {v : Value} {xs : List Nod} {k : Nat} {x : Nod} (h : Sl H v xs) (hx : At xs k x) :
    ∃ b o c u, v = .slice (some ⟨b, o, none⟩) xs.length c ∧ x.w ≤ 1000000 ∧ Sl H u (ints x.s) ∧ (∀ w, Holds H w → w.cell? ⟨b, o + k * 2, none⟩ = some (.int .i64 (x.w : Int))) ∧ (∀ w, Holds H w → w.cell? ⟨b, o + k * 2 + 1, none⟩ = some u) := by
  obtain ⟨b, o, c, ds, hv, ⟨u, hd, hi, hs⟩, hc⟩ := h.get hx
  refine ⟨b, o, c, u, hv, hi, hs, fun w hw => ?_, fun w hw => ?_⟩
  · exact hc w hw 0 _ (by rw [hd]; rfl)
  · exact hc w hw 1 _ (by rw [hd]; rfl)
theorem lightTo_one {l : List Nod} : lightTo l 1 = 0 := by
  unfold lightTo
  split
  · rfl
  · rfl

set_option maxRecDepth 100000 in
set_option maxHeartbeats 2000000 in
theorem lightest14_any (v : Value) (l : List Nod) (hl : l ≠ []) (hl2 : l.length ≤ 1000) (H : Snap) (w : World) (hw : Holds H w) (hs : Sl H v l) :
    Calls Tryz.prog 65 #[v] w (PostV w (.int .i64 ((lightest l : Nat) : Int))) := by
  obtain ⟨a, c, rfl, _, _⟩ := hs.form
  have hpos : 0 < l.length := List.length_pos_iff.2 hl
  unfold lightest
  go_enter Tryz.func65, Tryz.ntmps65
  go_wp2
  go_loopw [3, 4] (fun bv i wr => ∃ k : Nat, 1 ≤ k ∧ k ≤ l.length ∧ i = .int .i64 (k : Int) ∧ bv = .int .i64 ((lightTo l k : Nat) : Int) ∧ Ext w H wr H) (fun _ i _ => l.length - (intOf i).toNat)
  case atStart => exact ⟨1, Nat.le_refl _, hpos, rfl, by rw [lightTo_one]; rfl, Ext.refl hw⟩
  case round =>
    obtain ⟨k, hk1', hk, rfl, rfl, xr⟩ := hrel
    have hwr := xr.holds
    have hk0 : (0 : Int) ≤ (k : Int) := by omega
    by_cases hlk : k < l.length
    · have hk1 : (k : Int) < (l.length : Int) := by omega
      obtain ⟨x, hx⟩ := At.mk hlk
      have hlb := lightTo_bd l k hk
      obtain ⟨y, hy⟩ := At.mk (show lightTo l k < l.length by omega)
      obtain ⟨b, o, c', u, he, hxw, _, cx, _⟩ := hs.nod hx
      obtain ⟨b2, o2, c2, u2, he2, hyw, _, cy, _⟩ := hs.nod hy
      cases he
      cases he2
      have hb0 : (0 : Int) ≤ ((lightTo l k : Nat) : Int) := by omega
      have hb1 : ((lightTo l k : Nat) : Int) < (l.length : Int) := by omega
      have hyes := lightTo_yes hx hy
      have hno := lightTo_no hx hy
      replace hyes := Lib.hid hyes
      replace hno := Lib.hid hno
      generalize hq : lightTo l k = q at *
      have hwk : wrap64 ((k : Int) + 1) = (k : Int) + 1 := wrap64_in _ (by omega) (by omega)
      clear hlb hl hpos hxw hyw hk1'
      by_cases hc : x.w < y.w
      · have hci : (x.w : Int) < (y.w : Int) := by omega
        go_upto_region 5 with fail
        refine wp_region_quietB H (by kernel_rfl) (by kernel_rfl) hwr (fun hne => ?_)
        repeat go_big_quiet_step ((first | fail))
        refine wpQuiet_nil ?_
        rintro ⟨w2, hw2, hb2⟩
        clear hne
        have x2 := xr.step (hb2.mono xr.below.size) hw2
        go_wp2_with fail
        go_roundw
        case rel => exact ⟨k + 1, by omega, by omega, by go_num, by rw [hyes.out hc], x2⟩
        case measure => simp [intOf]; omega
      · have hci : ¬ (x.w : Int) < (y.w : Int) := by omega
        go_upto_region 5 with fail
        refine wp_region_quietB H (by kernel_rfl) (by kernel_rfl) hwr (fun hne => ?_)
        repeat go_big_quiet_step ((first | fail))
        refine wpQuiet_nil ?_
        rintro ⟨w2, hw2, hb2⟩
        clear hne
        have x2 := xr.step (hb2.mono xr.below.size) hw2
        go_wp2_with fail
        go_roundw
        case rel => exact ⟨k + 1, by omega, by omega, by go_num, by rw [hno.out hc], x2⟩
        case measure => simp [intOf]; omega
    · have : k = l.length := by omega
      subst this
      go_wp2_with fail
      go_ret
      exact ⟨rfl, xr.below⟩
end Go.Proofs.YthcfhmebikcfpaaGreatDoor

namespace Go.Proofs.YthcfhmebikcfpaaGreatDoor
open Go.RowKit

structure GSt (w0 : World) (H0 : Snap) (w : World) (H : Snap) (lv : Value) (nl : List Nod) (bv : Value) (bits : List Nat) : Prop where
  x : Ext w0 H0 w H
  n : Own H w0.heap.size w 100 lv nl
  b : Own H w0.heap.size w 3 bv (ints bits)
section
variable {w0 w w' : World} {H0 H H' : Snap} {lv bv sv : Value} {nl : List Nod} {bits : List Nat}
theorem GSt.ext (s : GSt w0 H0 w H lv nl bv bits) (y : Ext w H w' H') : GSt w0 H0 w' H' lv nl bv bits := ⟨s.x.trans y, s.n.ext s.x.holds y, s.b.ext s.x.holds y⟩
theorem GSt.alloc (s : GSt w0 H0 w H lv nl bv bits) (o : Obj) : GSt w0 H0 (w.alloc o) H lv nl bv bits := s.ext ((Ext.refl s.x.holds).alloc o)
theorem GSt.apart (s : GSt w0 H0 w H lv nl bv bits) : ∀ g, bv.ownBlock = some g → lv.ownBlock ≠ some g := fun g e1 e2 => by
  obtain ⟨c1, h1⟩ := s.b.row_type e1
  obtain ⟨c2, h2⟩ := s.n.row_type e2
  rw [h1] at h2
  simp at h2
theorem GSt.apartB (s : GSt w0 H0 w H lv nl bv bits) : bv.ownBlock = none ∨ bv.ownBlock ≠ lv.ownBlock := by
  cases h : bv.ownBlock with
  | none => exact .inl rfl
  | some g => exact .inr fun e => s.apart g h e.symm
theorem GSt.apartN (s : GSt w0 H0 w H lv nl bv bits) : lv.ownBlock = none ∨ lv.ownBlock ≠ bv.ownBlock := by
  cases h : lv.ownBlock with
  | none => exact .inl rfl
  | some g => exact .inr fun e => s.apart g e.symm h
/-- The nodes have been appended to. -/
theorem GSt.putN {lv' : Value} {nl' : List Nod} (s : GSt w0 H0 w H lv nl bv bits) (hg : w.grownBy w' lv.ownBlock) (o : Own H w0.heap.size w' 100 lv' nl') : GSt w0 H0 w' H lv' nl' bv bits :=
  ⟨s.x.grown hg (fun k hk => (s.n.lt k hk).1) (fun k hk => s.n.free k hk), o, s.b.kept hg s.apartB⟩
/-- The bits have been appended to. -/
theorem GSt.putB {bv' : Value} {bits' : List Nat} (s : GSt w0 H0 w H lv nl bv bits) (hg : w.grownBy w' bv.ownBlock) (o : Own H w0.heap.size w' 3 bv' (ints bits')) : GSt w0 H0 w' H lv nl bv' bits' :=
  ⟨s.x.grown hg (fun k hk => (s.b.lt k hk).1) (fun k hk => s.b.free k hk), s.n.kept hg s.apartN, o⟩
theorem ints_at {l : List Nat} {k n : Nat} (h : At l k n) : At (ints l) k (n : Int) := by
  show (ints l)[k]? = _
  unfold ints
  rw [List.getElem?_map, show l[k]? = some n from h]; rfl
theorem ints_set (l : List Nat) (k n : Nat) : (ints l).set k (n : Int) = ints (l.set k n) := by unfold ints; rw [List.map_set]
/-- One of the bits is written. -/
theorem GSt.setB {k b : Nat} (s : GSt w0 H0 w H lv nl bv bits) (hb : At bits k b) :
    ∃ g c, bv = .slice (some ⟨g, 0, none⟩) bits.length c ∧ g < w.heap.size ∧ w.cell? ⟨g, k, none⟩ = some (.int .i64 (b : Int)) ∧ w.frozen? ⟨g, k, none⟩ = false ∧
      ∀ n : Nat, n ≤ 1000000 → GSt w0 H0 (w.setCell ⟨g, k, none⟩ (.int .i64 (n : Int))) H lv nl bv (bits.set k n) := by
  obtain ⟨g, c, hv, hbg, hH, hlt, _, hfz, hset⟩ := s.b.at1 rfl (k := k) (by rw [ints_len]; exact hb.lt)
  obtain ⟨g2, c2, ds, hv2, ⟨hd, _⟩, _, _, _, hc, _⟩ := s.b.getG (ints_at hb)
  rw [hv] at hv2
  cases hv2
  have hob : bv.ownBlock = some g := by rw [hv]; rfl
  refine ⟨g, c, by rw [hv, ints_len], hlt, ?_, hfz, fun n hn => ⟨s.x.setCell (a := ⟨g, k, none⟩) hbg hH _, s.n.setCell (a := ⟨g, k, none⟩) (s.apart g hob) _, ?_⟩⟩
  · have := hc 0 _ (by rw [hd]; rfl)
    simpa [Enc.sz] using this
  · have := hset (n : Int) (.int .i64 (n : Int)) ⟨rfl, by unfold I64; omega⟩
    rw [ints_set] at this
    exact this

/-! ### The node that is made -/

structure TSt (w0 : World) (H0 : Snap) (XB : Nat) (w : World) (H : Snap) (lv : Value) (nl : List Nod) (bv : Value) (bits : List Nat) (xw : Nat) (xs : List Nat) (sv : Value) : Prop where
  g : GSt w0 H0 w H lv nl bv bits
  xb : w.heap[XB]? = some (.cells #[.int .i64 (xw : Int), sv] 100 (0, 0))
  xbH : H XB = none
  xbl : w0.heap.size ≤ XB
  s : Own H XB w 3 sv (ints xs)
  lb : ∀ g, bv.ownBlock = some g → g < XB
  ln : lv.ownBlock ≠ some XB
section
variable {XB xw : Nat} {xs : List Nat}
theorem TSt.lt (t : TSt w0 H0 XB w H lv nl bv bits xw xs sv) : XB < w.heap.size := (Array.getElem?_eq_some_iff.1 t.xb).1
theorem TSt.ext (t : TSt w0 H0 XB w H lv nl bv bits xw xs sv) (y : Ext w H w' H') : TSt w0 H0 XB w' H' lv nl bv bits xw xs sv :=
  ⟨t.g.ext y, (y.below.block XB t.lt).trans t.xb, (y.same XB t.lt).trans t.xbH, t.xbl, t.s.ext t.g.x.holds y, t.lb, t.ln⟩
theorem TSt.sXB (t : TSt w0 H0 XB w H lv nl bv bits xw xs sv) : sv.ownBlock ≠ some XB := fun e => by
  obtain ⟨c, h⟩ := t.s.row_type e
  rw [t.xb] at h
  simp at h
theorem TSt.setW (t : TSt w0 H0 XB w H lv nl bv bits xw xs sv) (n : Nat) : w.cell? ⟨XB, 0, none⟩ = some (.int .i64 (xw : Int)) ∧ w.frozen? ⟨XB, 0, none⟩ = false ∧ TSt w0 H0 XB (w.setCell ⟨XB, 0, none⟩ (.int .i64 (n : Int))) H lv nl bv bits n xs sv := by
  refine ⟨by rw [Lib.cell_of_heap t.xb]; rfl, Lib.frozen_of_heap t.xb 0, ⟨⟨t.g.x.setCell (a := ⟨XB, 0, none⟩) t.xbl t.xbH _, t.g.n.setCell (a := ⟨XB, 0, none⟩) t.ln _, t.g.b.setCell (a := ⟨XB, 0, none⟩) (fun e => Nat.lt_irrefl _ (t.lb XB e)) _⟩, heap_set_same (i := 0) t.xb _, t.xbH, t.xbl, t.s.setCell (a := ⟨XB, 0, none⟩) t.sXB _, t.lb, t.ln⟩⟩
/-- The symbols have been appended to; the variable is written. -/
theorem TSt.putS {sv' : Value} {xs' : List Nat} (t : TSt w0 H0 XB w H lv nl bv bits xw xs sv) (hg : w.grownBy w' sv.ownBlock) (o : Own H XB w' 3 sv' (ints xs')) :
    w'.cell? ⟨XB, 1, none⟩ = some sv ∧ w'.frozen? ⟨XB, 1, none⟩ = false ∧ TSt w0 H0 XB (w'.setCell ⟨XB, 1, none⟩ sv') H lv nl bv bits xw xs' sv' := by
  have hxb := (hg.block XB t.lt (fun e => t.sXB e.symm)).trans t.xb
  have hs' : sv'.ownBlock ≠ some XB := fun e => by
    obtain ⟨c, h⟩ := o.row_type e
    rw [hxb] at h
    simp at h
  have hx := t.g.x.grown hg (fun k hk => Nat.le_trans t.xbl (t.s.lt k hk).1) (fun k hk => t.s.free k hk)
  have hn : lv.ownBlock = none ∨ lv.ownBlock ≠ sv.ownBlock := by
    cases h : lv.ownBlock with
    | none => exact .inl rfl
    | some q =>
      refine .inr fun e => ?_
      obtain ⟨c1, h1⟩ := t.g.n.row_type h
      obtain ⟨c2, h2⟩ := t.s.row_type e.symm
      rw [h1] at h2
      simp at h2
  have hb : bv.ownBlock = none ∨ bv.ownBlock ≠ sv.ownBlock := by
    cases h : bv.ownBlock with
    | none => exact .inl rfl
    | some q =>
      refine .inr fun e => ?_
      have h1 := t.lb q h
      have h2 := (t.s.lt q e.symm).1
      omega
  refine ⟨by rw [Lib.cell_of_heap hxb]; rfl, Lib.frozen_of_heap hxb 1, ⟨⟨hx.setCell (a := ⟨XB, 1, none⟩) t.xbl t.xbH _, (t.g.n.kept hg hn).setCell (a := ⟨XB, 1, none⟩) t.ln _, (t.g.b.kept hg hb).setCell (a := ⟨XB, 1, none⟩) (fun e => Nat.lt_irrefl _ (t.lb XB e)) _⟩, heap_set_same (i := 1) hxb _, t.xbH, t.xbl, o.setCell (a := ⟨XB, 1, none⟩) hs' _, t.lb, t.ln⟩⟩
/-- The nodes have been laid anew. -/
theorem TSt.newN {lv' : Value} {nl' : List Nod} (t : TSt w0 H0 XB w H lv nl bv bits xw xs sv) (y : Ext w H w' H) (o : Own H w.heap.size w' 100 lv' nl') : TSt w0 H0 XB w' H lv' nl' bv bits xw xs sv := by
  have t2 := t.ext y
  refine ⟨⟨t2.g.x, o.weaken t.g.x.below.size, t2.g.b⟩, t2.xb, t2.xbH, t2.xbl, t2.s, t2.lb, fun e => ?_⟩
  have h1 := (o.lt XB e).1
  have h2 := t.lt
  omega
end
end

theorem Own.up {α : Type} [Enc α] {H H' : Snap} {base : Nat} {w : World} {e : TypeId} {v : Value} {xs : List α} (h : Own H base w e v xs) (hle : SLe H H') (hn : ∀ k, v.ownBlock = some k → H' k = none) : Own H' base w e v xs := by
  obtain ⟨cells, ho, hr, _, hb⟩ := h
  exact ⟨cells, ho, hr.mono hle, hn, hb⟩
/-- The nodes have been frozen, and laid anew. -/
theorem TSt.newF {w0 w w' : World} {H0 H Hf : Snap} {XB : Nat} {lv lv' bv sv : Value} {nl nl' : List Nod} {bits xs : List Nat} {xw : Nat} (t : TSt w0 H0 XB w H lv nl bv bits xw xs sv) (hle : SLe H Hf) (hsame : ∀ b, lv.ownBlock ≠ some b → Hf b = H b)
    (y : Ext w Hf w' Hf) (hwf : Holds Hf w) (o : Own Hf w.heap.size w' 100 lv' nl') : TSt w0 H0 XB w' Hf lv' nl' bv bits xw xs sv := by
  have hx : Ext w0 H0 w Hf := ⟨t.g.x.below, hwf, fun b hb => (hsame b (fun e => by have := (t.g.n.lt b e).1; omega)).trans (t.g.x.same b hb)⟩
  have hb : Own Hf w0.heap.size w 3 bv (ints bits) := t.g.b.up hle fun k hk => (hsame k (t.g.apart k hk)).trans (t.g.b.free k hk)
  have hs : Own Hf XB w 3 sv (ints xs) := t.s.up hle fun k hk => by
    refine (hsame k fun e => ?_).trans (t.s.free k hk)
    obtain ⟨c1, h1⟩ := t.g.n.row_type e
    obtain ⟨c2, h2⟩ := t.s.row_type hk
    rw [h1] at h2
    simp at h2
  refine ⟨⟨hx.trans y, o.weaken t.g.x.below.size, hb.ext hwf y⟩, (y.below.block XB t.lt).trans t.xb, (hsame XB t.ln).trans t.xbH, t.xbl, hs.ext hwf y, t.lb, fun e => ?_⟩
  have h1 := (o.lt XB e).1
  have h2 := t.lt
  omega

theorem Sl.dropG {H : Snap} {α : Type} [Enc α] {b o n c : Nat} {xs : List α} (h : Sl H (.slice (some ⟨b, o, none⟩) n c) xs) {k : Nat} (hk : k ≤ xs.length) : Sl H (.slice (some ⟨b, o + k * Enc.sz α, none⟩) (n - k) (c - k)) (xs.drop k) := by
  obtain ⟨a', c', e, h1, h2, h3, h4⟩ := h
  cases e
  have hlen : (xs.drop k).length = xs.length - k := by simp
  refine ⟨_, c - k, by rw [hlen], by omega, by omega, Nat.le_trans (Nat.mul_le_mul_right _ (by omega)) h3, ?_⟩
  rcases h4 with h4 | ⟨b', o', cur, e, fr, ha, hb, ho, hr⟩
  · subst h4; simp
  · cases ha
    have hsub : (xs.length - k) * Enc.sz α + k * Enc.sz α = xs.length * Enc.sz α := by rw [← Nat.add_mul, Nat.sub_add_cancel hk]
    refine .inr ⟨b, o + k * Enc.sz α, cur, e, fr, rfl, hb, by rw [hlen]; omega, ?_⟩
    have e1 : xs = xs.take k ++ xs.drop k := (List.take_append_drop k xs).symm
    rw [e1] at hr
    obtain ⟨c1, c2, e2, hr1, hr2⟩ := hr.split
    have hl1 := hr1.len
    rw [List.length_take, Nat.min_eq_left hk] at hl1
    have : ((cur.toList.drop (o + k * Enc.sz α)).take ((xs.drop k).length * Enc.sz α)) = c2 := by
      have h5 := congrArg (List.drop (k * Enc.sz α)) e2
      rw [← e1, ← hl1, List.drop_left, List.drop_take, List.drop_drop] at h5
      rw [hlen, ← h5, hl1]
      congr 1
      omega
    rw [this]; exact hr2
theorem sl_tail {H : Snap} {α : Type} [Enc α] {g n c q : Nat} {xs : List α} (h : Sl H (.slice (some ⟨g, 0, none⟩) n c) xs) (hn : xs.length = n) (hq : q < n) (hnc : n ≤ c) (hc : c ≤ 9223372036854775807) :
    ∃ A : Addr, (if c = q + 1 then some (⟨g, 0, none⟩ : Addr) else some ⟨g, (q + 1) * Enc.sz α, none⟩) = some A ∧ Sl H (.slice (some A) (n - (q + 1)) (c - (q + 1))) (xs.drop (q + 1)) := by
  by_cases h1 : c = q + 1
  · refine ⟨⟨g, 0, none⟩, by rw [if_pos h1], ?_⟩
    have e : xs.drop (q + 1) = [] := List.drop_of_length_le (by omega)
    rw [e, show n - (q + 1) = 0 by omega]
    exact Sl.nil H _ (by omega)
  · refine ⟨_, by rw [if_neg h1], ?_⟩
    have := Sl.dropG h (k := q + 1) (by omega)
    simpa using this

/-! ### Two nodes are taken -/

def stN (nl : List Nod) : Nat → Nod × List Nod
  | 0 => (⟨0, []⟩, nl)
  | k + 1 => (⟨(stN nl k).1.w + (lightN (stN nl k).2).w, (stN nl k).1.s ++ (lightN (stN nl k).2).s⟩, lightR (stN nl k).2)
theorem stN_two (nl : List Nod) : stN nl 2 = (joinX nl, joinR nl) := by
  simp [stN, joinX, joinR]
theorem stN_len {nl : List Nod} (h : 2 ≤ nl.length) : ∀ k, k ≤ 2 → (stN nl k).2.length + k = nl.length
  | 0, _ => rfl
  | k + 1, hk => by
    have ih := stN_len h k (by omega)
    have hne : (stN nl k).2 ≠ [] := by intro e; rw [e] at ih; simp at ih; omega
    have := light_len hne
    show (lightR (stN nl k).2).length + (k + 1) = _
    omega
theorem stN_flat {nl : List Nod} (h : 2 ≤ nl.length) : ∀ k, k ≤ 2 → (stN nl k).1.s.length + ((stN nl k).2.flatMap Nod.s).length = (nl.flatMap Nod.s).length
  | 0, _ => by simp [stN]
  | k + 1, hk => by
    have ih := stN_flat h k (by omega)
    have hl := stN_len h k (by omega)
    have hne : (stN nl k).2 ≠ [] := by intro e; rw [e] at hl; simp at hl; omega
    have h2 := (flat_perm (light_perm hne)).length_eq
    simp only [List.flatMap_cons, List.length_append] at h2
    show ((stN nl k).1.s ++ (lightN (stN nl k).2).s).length + ((lightR (stN nl k).2).flatMap Nod.s).length = _
    rw [List.length_append]
    omega
theorem stN_few {nl : List Nod} (h : 2 ≤ nl.length) (hf : (nl.flatMap Nod.s).length ≤ 256) {k : Nat} (hk : k < 2) : (stN nl k).2 ≠ [] ∧ (stN nl k).2.length ≤ nl.length ∧ (stN nl k).1.s.length + (lightN (stN nl k).2).s.length ≤ 256 := by
  have h1 := stN_flat h k (by omega)
  have hl := stN_len h k (by omega)
  have hne : (stN nl k).2 ≠ [] := by intro e; rw [e] at hl; simp at hl; omega
  have h2 := (flat_perm (light_perm hne)).length_eq
  simp only [List.flatMap_cons, List.length_append] at h2
  exact ⟨hne, by omega, by omega⟩
end Go.Proofs.YthcfhmebikcfpaaGreatDoor
