/- Lemmas and walks on which the claims of this seat lean: NRdT NLw2 NAdd NCut NEx NWk Open2 NOpen. -/
import Derived.Test.YthcfhmebikcfpaaDoorG01
import Derived.Test.YthcfhmebikcfpaaDoorG02
import Derived.Test.YthcfhmebikcfpaaDoorG05
import Derived.Test.YthcfhmebikcfpaaDoorG10
import Derived.Test.YthcfhmebikcfpaaDoorG11
import Derived.Test.YthcfhmebikcfpaaDoorG12
import Derived.Deep.Slices
import Derived.SizedLaws
import Derived.OpenShut
import Derived.Lib.SmallJoins
import Derived.Deep.Strs

set_option linter.all false

namespace Go.Proofs.YthcfhmebikcfpaaDoor
open Go.RowKit
attribute [local go_sem] Holds.drew Holds.alloc Holds.drewN WB.holds Oper.semAt_some

theorem symsA_len : ∀ {n : Nat} {last : Int} {r : List UInt8} {l : List Pr} {rest : List UInt8}, symsA n last r = some (l, rest) → l.length = n ∧ rest.length + 2 * n = r.length
  | 0, _, r, l, rest, h => by
    unfold symsA at h
    simp only [Option.some.injEq, Prod.mk.injEq] at h
    obtain ⟨rfl, rfl⟩ := h
    exact ⟨rfl, rfl⟩
  | n + 1, last, c :: b :: r, l, rest, h => by
    unfold symsA at h
    split at h
    · rename_i g
      cases hs : symsA n (c.toNat : Int) r with
      | none => rw [hs] at h; cases h
      | some p =>
        obtain ⟨l1, r1⟩ := p
        rw [hs] at h
        simp only [Option.map_some, Option.some.injEq, Prod.mk.injEq] at h
        obtain ⟨rfl, rfl⟩ := h
        obtain ⟨h1, h2⟩ := symsA_len hs
        exact ⟨by rw [List.length_cons, h1], by rw [List.length_cons, List.length_cons, ← h2]; omega⟩
    · cases h
  | n + 1, last, [], l, rest, h => by unfold symsA at h; cases h
  | n + 1, last, [_], l, rest, h => by unfold symsA at h; cases h
theorem formA_some {s : List UInt8} {f : Frm} (h : formA s = some f) : f.many ≤ 20 ∧ f.l.length ≤ 96 ∧ f.rest.length ≤ 1496 ∧ f.rest.all (fun b => (letN b).isSome) = true := by
  match s, h with
  | a :: b :: c :: d :: r, h =>
    unfold formA at h
    simp only [] at h
    split at h
    · rename_i many n e1 e2
      split at h
      · rename_i g
        cases hs : symsA n (-1) r with
        | none => rw [hs] at h; cases h
        | some p =>
          obtain ⟨l1, r1⟩ := p
          rw [hs] at h
          simp only [] at h
          split at h
          · rename_i ga
            simp only [Option.some.injEq] at h
            subst h
            obtain ⟨h1, h2⟩ := symsA_len hs
            exact ⟨g.2.1, by show l1.length ≤ 96; omega, by show r1.length ≤ 1496; omega, ga⟩
          · cases h
      · cases h
    · cases h
  | [], h => cases h
  | [_], h => cases h
  | [_, _], h => cases h
  | [_, _, _], h => cases h
theorem decA_sizes {many : Nat} {l : List Pr} {B : Nat} : ∀ {n : Nat} {out : List ByteArray} {own bs : List UInt8} {o : List ByteArray} {z : List UInt8}, decA many l n out own bs = some (o, z) → (∀ s ∈ out, s.size ≤ B) → own.length + n ≤ B → o.length ≤ max many out.length ∧ ∀ s ∈ o, s.size ≤ B
  | 0, _, _, _, _, _, h, _, _ => by unfold decA at h; cases h
  | n + 1, out, own, bs, o, z, h, hs, hb => by
    unfold decA at h
    split at h
    · rename_i g
      simp only [Option.some.injEq, Prod.mk.injEq] at h
      obtain ⟨rfl, rfl⟩ := h
      exact ⟨by omega, hs⟩
    · rename_i g
      split at h
      · cases h
      · rename_i i e
        split at h
        · obtain ⟨h1, h2⟩ := decA_sizes h (fun s hm => by
            rcases List.mem_append.1 hm with hm | hm
            · exact hs s hm
            · rw [List.mem_singleton.1 hm]; show own.length ≤ B; omega) (by rw [List.length_nil]; omega)
          exact ⟨by rw [List.length_append, List.length_singleton] at h1; omega, h2⟩
        · exact decA_sizes h hs (by rw [List.length_append, List.length_singleton]; omega)
theorem textsA_sizes {many : Nat} {l : List Pr} {bits : List UInt8} {out : List ByteArray} (h : textsA many l bits = some out) : out.length ≤ many ∧ ∀ s ∈ out, s.size ≤ bits.length + 1 := by
  unfold textsA at h
  split at h
  · split at h
    · cases h
    · rename_i o z e
      split at h
      · simp only [Option.some.injEq] at h
        subst h
        have := decA_sizes (B := bits.length + 1) e (by simp) (by simp)
        exact ⟨by simpa using this.1, this.2⟩
      · cases h
  · cases h
theorem readA_none {s : List UInt8} (h : formA s = none) : readA s = ([], 140) := by unfold readA; rw [h]
theorem readA_bits {s : List UInt8} {f : Frm} (h : formA s = some f) (h2 : textsA f.many f.l (unsix f.rest) = none) : readA s = ([], 141) := by unfold readA; rw [h]; simp only []; rw [h2]
theorem readA_yes {s : List UInt8} {f : Frm} {out : List ByteArray} (h : formA s = some f) (h2 : textsA f.many f.l (unsix f.rest) = some out) (h3 : areE out = 0 ∧ fileA out = s) : readA s = (out, 0) := by unfold readA; rw [h]; simp only []; rw [h2]; simp only []; rw [if_pos h3]
theorem readA_code {s : List UInt8} {f : Frm} {out : List ByteArray} (h : formA s = some f) (h2 : textsA f.many f.l (unsix f.rest) = some out) (h3 : ¬ (areE out = 0 ∧ fileA out = s)) : readA s = ([], 142) := by unfold readA; rw [h]; simp only []; rw [h2]; simp only []; rw [if_neg h3]
theorem readA_err (s : List UInt8) : (readA s).2 = 0 ∨ (readA s).2 = 140 ∨ (readA s).2 = 141 ∨ (readA s).2 = 142 := by
  unfold readA
  split
  · exact .inr (.inl rfl)
  · split
    · exact .inr (.inr (.inl rfl))
    · split
      · exact .inl rfl
      · exact .inr (.inr (.inr rfl))
theorem readA_sizes {s : List UInt8} : (readA s).1.length ≤ 20 ∧ ∀ t ∈ (readA s).1, t.size ≤ 200 := by
  by_cases h : (readA s).2 = 0
  · have h1 := (readA_ok h).1
    exact ⟨(areE_zero h1).1, areE_size h1⟩
  · have h2 : (readA s).1 = [] := by
      unfold readA at h ⊢
      split
      · rfl
      · rename_i f e
        rw [e] at h
        simp only [] at h
        split
        · rfl
        · rename_i o e2
          rw [e2] at h
          simp only [] at h
          split
          · rename_i g; rw [if_pos g] at h; exact absurd rfl h
          · rfl
    rw [h2]
    exact ⟨by simp, by simp⟩

theorem Holds.below' {H H2 : Snap} {w w3 w6 : World} (h : Holds H w3) (_x : Ext w H w3 H2) (hw : Holds H w) (hb : Below w.heap.size w3 w6) : Holds H w6 := ⟨fun b o e => (hb.block b (hw.lt e)).trans (h.at_ b o e)⟩

set_option maxRecDepth 100000 in
theorem nReadT_any (s : ByteArray) (H : Snap) (w : World) (hw : Holds H w) :
    Calls Tryd.prog 15 #[.string s] w (PostOE w H 9 (readA (bys s)).1 (readA (bys s)).2) := by
  have hp := nParse_any s H w hw
  cases hf : formA (bys s) with
  | none =>
    rw [readA_none hf]
    rw [hf] at hp
    replace hp := Lib.hid hp
    clear hf
    go_enter Tryd.func15, Tryd.ntmps15
    go_wp2_with (first | ((go_at_call 38; refine hp.out.mono ?_; rintro e w2 ⟨m0, a0, n0, c0, t0, rfl, hb2⟩)))
    go_ret2
    exact ⟨_, H, rfl, ((Ext.refl hw).step hb2 (hw.below hb2)).alloc _, Own.nil _ _ _ _⟩
  | some f =>
    obtain ⟨hm, hl, hrs, hall⟩ := formA_some hf
    rw [hf] at hp
    have hrd : ∀ (W : World) (H' : Snap) (v : Value), Holds H' W → Sl H' v f.l → Calls Tryd.prog 39 #[.agg #[.int .i64 (f.many : Int), v, .string (strB f.rest)]] W (ReadPost W H' (textsA f.many f.l (unsix f.rest))) := fun W H' v h1 h2 => nRead_any f.many hm f.l (by omega) (strB f.rest) (show f.rest.length ≤ 1500 by omega) hall v H' W h1 h2
    cases ht : textsA f.many f.l (unsix f.rest) with
    | none =>
      rw [readA_bits hf ht]
      rw [ht] at hrd
      replace hp := Lib.hid hp
      replace hrd := Lib.hid hrd
      clear hf ht hall hm hl hrs
      go_enter Tryd.func15, Tryd.ntmps15
      go_wp2_with (first | ((have hgd := x3; clear hgd; go_at_call 39; go_must (refine (hrd.out _ H2 _ x3.holds s2).mono ?_); rintro e w4 ⟨x, rfl, hb4⟩)) | ((go_at_call 38; refine hp.out.mono ?_; rintro e w2 ⟨v2, H2, rfl, x2, s2⟩; have x3 := x2.alloc (.cells #[.int .i64 (f.many : Int), v2, .string (strB f.rest)] 68); obtain ⟨a2, c2, rfl, _, _⟩ := s2.form; unfold formV)))
      go_ret2
      exact ⟨_, H, rfl, ⟨x3.below.trans (hb4.mono x3.below.size), (x3.old hw).below hb4, fun _ _ => rfl⟩, Own.nil _ _ _ _⟩
    | some out =>
      rw [ht] at hrd
      have hsz := textsA_sizes ht
      have hz : ∀ s ∈ out, s.size ≤ 1000000 := fun s hs => by
        have h1 := hsz.2 s hs
        rw [unsix_len] at h1
        omega
      obtain ⟨R, hR⟩ : ∃ R, R = readA (bys s) := ⟨_, rfl⟩
      rw [← hR]
      have hcs : (R = (out, 0) ∧ areE out = 0 ∧ fileR out = s) ∨ (R = ([], 142) ∧ (areE out ≠ 0 ∨ (areE out = 0 ∧ ¬ fileR out = s))) := by
        by_cases h0 : areE out = 0
        · have e : fileR out = strB (fileA out) := by unfold fileR; rw [if_pos h0]
          by_cases h1 : fileA out = bys s
          · exact .inl ⟨by rw [hR]; exact readA_yes hf ht ⟨h0, h1⟩, h0, by rw [e, h1]; rfl⟩
          · exact .inr ⟨by rw [hR]; exact readA_code hf ht (fun h => h1 h.2), .inr ⟨h0, fun h2 => h1 (by rw [← h2, e]; rfl)⟩⟩
        · exact .inr ⟨by rw [hR]; exact readA_code hf ht (fun h => h0 h.1), .inl h0⟩
      clear hR
      replace hz := Lib.hid hz
      replace hp := Lib.hid hp
      replace hrd := Lib.hid hrd
      clear hf ht hall hm hl hrs hsz
      have hwr : ∀ (v : Value) (H' : Snap) (W : World), Holds H' W → Sl H' v out → Calls Tryd.prog 37 #[v] W (PostV W (.tuple #[.string (fileR out), .int .i64 (areE out)])) := fun v H' W h1 h2 => nWrite_any v out H' W h1 h2 hz.out
      generalize fileR out = q at *
      generalize areE out = n at *
      replace hwr := Lib.hid hwr
      rcases hcs with ⟨rfl, rfl, rfl⟩ | ⟨rfl, hn⟩
      · go_enter Tryd.func15, Tryd.ntmps15
        go_wp2_with (first | ((have hgd := s5; clear hgd; go_at_call 37; go_must (refine (hwr.out _ H5 _ x5.holds s5).mono ?_); rintro e w6 ⟨rfl, hb6⟩; have hw6 := x4.holds.below hb6; have o6 := o4.ext x4.holds ⟨hb6, hw6, fun _ _ => rfl⟩; have x6 := (x3.trans x4).step (hb6.mono (x3.trans x4).below.size) hw6)) | ((have hgd := x3; clear hgd; go_at_call 39; go_must (refine (hrd.out _ H2 _ x3.holds s2).mono ?_); rintro e w4 ⟨v4, H4, rfl, x4, o4⟩; obtain ⟨H5, x5, _, s5, _⟩ := o4.close x4; obtain ⟨a4, c4, rfl, _, _⟩ := o4.form)) | ((go_at_call 38; refine hp.out.mono ?_; rintro e w2 ⟨v2, H2, rfl, x2, s2⟩; have x3 := x2.alloc (.cells #[.int .i64 (f.many : Int), v2, .string (strB f.rest)] 68); obtain ⟨a2, c2, rfl, _, _⟩ := s2.form; unfold formV)))
        go_ret2
        exact ⟨_, H4, rfl, x6, o6.weaken x3.below.size⟩
      · have fin : ∀ w6 w3 H2, Ext w H w3 H2 → Below w.heap.size w3 w6 → PostOE w H 9 ([] : List ByteArray) 142 (.returned (.tuple #[.slice none 0 0, .int .i64 142])) w6 := fun w6 w3 H2 x3 hb => ⟨_, H, rfl, ⟨x3.below.trans hb, (x3.old hw).below' x3 hw hb, fun _ _ => rfl⟩, Own.nil _ _ _ _⟩
        rcases hn with hn | ⟨rfl, hq⟩
        · have hn1 : (n == 0) = false := beq_eq_false_iff_ne.2 hn
          have hn2 : (n != 0) = true := bne_iff_ne.2 hn
          clear hn
          go_enter Tryd.func15, Tryd.ntmps15
          go_wp2_with (first | ((have hgd := s5; clear hgd; go_at_call 37; go_must (refine (hwr.out _ H5 _ x5.holds s5).mono ?_); rintro e w6 ⟨rfl, hb6⟩; have x6 := x4.below.trans (hb6.mono x4.below.size))) | ((have hgd := x3; clear hgd; go_at_call 39; go_must (refine (hrd.out _ H2 _ x3.holds s2).mono ?_); rintro e w4 ⟨v4, H4, rfl, x4, o4⟩; obtain ⟨H5, x5, _, s5, _⟩ := o4.close x4; obtain ⟨a4, c4, rfl, _, _⟩ := o4.form)) | ((go_at_call 38; refine hp.out.mono ?_; rintro e w2 ⟨v2, H2, rfl, x2, s2⟩; have x3 := x2.alloc (.cells #[.int .i64 (f.many : Int), v2, .string (strB f.rest)] 68); obtain ⟨a2, c2, rfl, _, _⟩ := s2.form; unfold formV)))
          go_ret2
          exact fin _ _ H2 x3 (x6.mono x3.below.size)
        · have hq1 := beq_bytes_ne hq
          have hq2 : (q != s) = true := by unfold bne; rw [hq1]; rfl
          have hq3 : (q.toList == s.toList) = false := by
            rw [ByteArray.toList_eq, ByteArray.toList_eq, beq_eq_false_iff_ne]
            exact fun e => hq (bytes_of_list e)
          clear hq
          go_enter Tryd.func15, Tryd.ntmps15
          go_wp2_with (first | ((have hgd := s5; clear hgd; go_at_call 37; go_must (refine (hwr.out _ H5 _ x5.holds s5).mono ?_); rintro e w6 ⟨rfl, hb6⟩; have x6 := x4.below.trans (hb6.mono x4.below.size))) | ((have hgd := x3; clear hgd; go_at_call 39; go_must (refine (hrd.out _ H2 _ x3.holds s2).mono ?_); rintro e w4 ⟨v4, H4, rfl, x4, o4⟩; obtain ⟨H5, x5, _, s5, _⟩ := o4.close x4; obtain ⟨a4, c4, rfl, _, _⟩ := o4.form)) | ((go_at_call 38; refine hp.out.mono ?_; rintro e w2 ⟨v2, H2, rfl, x2, s2⟩; have x3 := x2.alloc (.cells #[.int .i64 (f.many : Int), v2, .string (strB f.rest)] 68); obtain ⟨a2, c2, rfl, _, _⟩ := s2.form; unfold formV)))
          go_ret2
          exact fin _ _ H2 x3 (x6.mono x3.below.size)

def stateA (s : List UInt8) : Int := if (readA s).2 = 140 then 2 else if (readA s).2 = 141 then 3 else if (readA s).2 = 142 then 4 else 1
set_option maxRecDepth 100000 in
theorem nState_any (s : ByteArray) (H : Snap) (w : World) (hw : Holds H w) : Calls Tryd.prog 17 #[.string s] w (PostV w (.int .i64 (stateA (bys s)))) := by
  have hc := nReadT_any s H w hw
  unfold stateA
  rcases readA_err (bys s) with h | h | h | h
  all_goals
    rw [h] at hc ⊢
    generalize (readA (bys s)).1 = l at *
    clear h
    replace hc := Lib.hid hc
    go_enter Tryd.func17, Tryd.ntmps17
    go_wp2_with (first | ((go_at_call 15; refine hc.out.mono ?_; rintro e w2 ⟨v2, H2, rfl, x2, o2⟩)))
    go_ret
    exact ⟨rfl, x2.below⟩

end Go.Proofs.YthcfhmebikcfpaaDoor

namespace Go.Proofs.YthcfhmebikcfpaaDoor
open Go.RowKit
attribute [local go_sem] Holds.drew Holds.alloc Holds.drewN WB.holds Oper.semAt_some

set_option maxRecDepth 100000 in
theorem written14_any (v : Value) (l : List ByteArray) (h : areE l = 0) (H : Snap) (w : World) (hw : Holds H w) (hs : Sl H v l) :
    Calls Tryd.prog 14 #[v] w (PostV w (.tuple #[.string (strB (fileA l)), .bool true])) := by
  have hz : ∀ s ∈ l, s.size ≤ 1000000 := fun s hs => by have := areE_size h s hs; omega
  have hl := (areE_zero h).1
  have hwr : ∀ (v : Value) (H' : Snap) (W : World), Holds H' W → Sl H' v l → Calls Tryd.prog 37 #[v] W (PostV W (.tuple #[.string (strB (fileA l)), .int .i64 0])) := fun v H' W h1 h2 => by
    have := nWrite_any v l H' W h1 h2 hz
    rw [h, show fileR l = strB (fileA l) by unfold fileR; rw [if_pos h]] at this
    exact this
  have hf := file_le h
  have hq4 : (4 : Int) ≤ ((strB (fileA l)).size : Int) := by have : (strB (fileA l)).size = (fileA l).length := rfl; omega
  have hq5 : ((strB (fileA l)).size : Int) ≤ 1500 := by have : (strB (fileA l)).size = (fileA l).length := rfl; omega
  have hbS : (([] : List ByteArray).length + l.length) * Enc.by_ ByteArray ≤ 140737488355328 := by simp only [Enc.by_, List.length_nil]; omega
  have hb63 : ([] : List ByteArray).length + l.length ≤ 9223372036854775807 := by simp only [List.length_nil]; omega
  generalize strB (fileA l) = q at *
  obtain ⟨a, c, rfl, _, _⟩ := hs.form
  have hmark : Hid True := Lib.hid trivial
  replace hwr := Lib.hid hwr
  replace hbS := Lib.hid hbS
  replace hb63 := Lib.hid hb63
  clear hf hl hz h
  go_enter Tryd.func14, Tryd.ntmps14
  go_wp2_with (first | ((have hgd := sB; clear hgd; go_at_call 37; go_must (refine (hwr.out vB HB _ xB2.holds sB).mono ?_); rintro e w6 ⟨rfl, hb6⟩)) | ((have hgd := hmark; clear hgd; at_builtin; go_must (refine wpList_appX (w0 := w) (H0 := H) eStr rfl _ _ rfl ((Ext.refl hw).alloc _) rfl (Own.emptyAt (heap_alloc_new _ _) (Nat.le_refl _) (hw.none_of_ge (Nat.le_refl _))) rfl hs hbS.out hb63.out ?_); intro vB wB oB xB hwB hgB; rw [List.nil_append] at oB; obtain ⟨HB, xB2, _, sB, _⟩ := oB.close xB; clear hmark xB oB hwB hgB)))
  go_ret2
  exact ⟨rfl, xB2.below.trans (hb6.mono xB2.below.size)⟩

set_option maxRecDepth 100000 in
theorem lengths14_any (v : Value) (l : List ByteArray) (h : areE l = 0) (H : Snap) (w : World) (hw : Holds H w) (hs : Sl H v l) :
    Calls Tryd.prog 19 #[v] w (fun e w' => ∃ u H', e = .returned (.tuple #[u, .bool true]) ∧ Ext w H w' H' ∧ Own H' w.heap.size w' 40 u (lensA (msgOf l))) := by
  have hz : ∀ s ∈ l, s.size ≤ 1000000 := fun s hs => by have := areE_size h s hs; omega
  have hl := (areE_zero h).1
  have F := msg_ok h
  have hlen : (lensA (msgOf l)).length ≤ 96 := by rw [lensA_len]; exact wts_few F.1
  have hic : ∀ (v : Value) (H' : Snap) (W : World), Holds H' W → Sl H' v (lensA (msgOf l)) → Calls Tryd.prog 24 #[v] W (PostV W (.bool true)) := fun v H' W h1 h2 => by
    have := isCode14_any v _ (by omega) H' W h1 h2
    rw [isCode_of (lens_code F)] at this
    exact this
  have hln : ∀ (v : Value) (H' : Snap) (W : World), Holds H' W → Sl H' v l → Calls Tryd.prog 35 #[v] W (PostOE W H' 40 (lensA (msgOf l)) 0) := fun v H' W h1 h2 => by
    have := nLengths_any v l H' W h1 h2 hz
    rw [h, show lensR l = lensA (msgOf l) by unfold lensR; rw [if_pos h]] at this
    exact this
  generalize lensA (msgOf l) = L at *
  have hLI : (L.length : Int) ≤ 96 := by omega
  have hbS : (([] : List ByteArray).length + l.length) * Enc.by_ ByteArray ≤ 140737488355328 := by simp only [Enc.by_, List.length_nil]; omega
  have hb63 : ([] : List ByteArray).length + l.length ≤ 9223372036854775807 := by simp only [List.length_nil]; omega
  obtain ⟨a, c, rfl, _, _⟩ := hs.form
  have hmark : Hid True := Lib.hid trivial
  replace hic := Lib.hid hic
  replace hln := Lib.hid hln
  replace hbS := Lib.hid hbS
  replace hb63 := Lib.hid hb63
  clear hl hz h F
  go_enter Tryd.func19, Tryd.ntmps19
  go_wp2_with (first | ((have hgd := s7; clear hgd; go_at_call 24; go_must (refine (hic.out _ H7 _ x7.holds s7).mono ?_); rintro e w8 ⟨rfl, hb8⟩)) | ((have hgd := sB; clear hgd; go_at_call 35; go_must (refine (hln.out vB HB _ xB2.holds sB).mono ?_); rintro e w6 ⟨v6, H6, rfl, x6, o6⟩; obtain ⟨H7, x7, _, s7, _⟩ := o6.close x6; obtain ⟨a6, c6, rfl, _, _⟩ := o6.form)) | ((have hgd := hmark; clear hgd; at_builtin; go_must (refine wpList_appX (w0 := w) (H0 := H) eStr rfl _ _ rfl ((Ext.refl hw).alloc _) rfl (Own.emptyAt (heap_alloc_new _ _) (Nat.le_refl _) (hw.none_of_ge (Nat.le_refl _))) rfl hs hbS.out hb63.out ?_); intro vB wB oB xB hwB hgB; rw [List.nil_append] at oB; obtain ⟨HB, xB2, _, sB, _⟩ := oB.close xB; clear hmark xB oB hwB hgB)))
  go_ret2
  exact ⟨_, H6, rfl, (xB2.trans x6).step (hb8.mono (xB2.trans x6).below.size) (x6.holds.below hb8), (o6.ext x6.holds ⟨hb8, x6.holds.below hb8, fun _ _ => rfl⟩).weaken xB2.below.size⟩

set_option maxRecDepth 100000 in
theorem bits14_any (v : Value) (l : List ByteArray) (h : areE l = 0) (H : Snap) (w : World) (hw : Holds H w) (hs : Sl H v l) :
    Calls Tryd.prog 22 #[v] w (PostV w (.int .i64 ((bitsA (lensA (msgOf l)) (msgOf l)).length : Int))) := by
  have hz : ∀ s ∈ l, s.size ≤ 1000000 := fun s hs => by have := areE_size h s hs; omega
  have hl := (areE_zero h).1
  have F := msg_ok h
  have hb := bits_bound F
  have hml := msgOf_len h
  have hbt : ∀ (v : Value) (H' : Snap) (W : World), Holds H' W → Sl H' v l → Calls Tryd.prog 36 #[v] W (PostV W (.tuple #[.int .i64 ((bitsA (lensA (msgOf l)) (msgOf l)).length : Int), .int .i64 0])) := fun v H' W h1 h2 => by
    have := nBitsT_any v l H' W h1 h2 hz
    rw [h, show bitsR l = ((bitsA (lensA (msgOf l)) (msgOf l)).length : Int) by unfold bitsR; rw [if_pos h]] at this
    exact this
  generalize (bitsA (lensA (msgOf l)) (msgOf l)).length = n at *
  have hn0 : ¬ (n : Int) < 0 := by omega
  have hn1 : ¬ (100000 : Int) < (n : Int) := by omega
  have hn2 : decide ((n : Int) < 0) = false := decide_eq_false hn0
  have hn3 : decide ((100000 : Int) < (n : Int)) = false := decide_eq_false hn1
  have hbS : (([] : List ByteArray).length + l.length) * Enc.by_ ByteArray ≤ 140737488355328 := by simp only [Enc.by_, List.length_nil]; omega
  have hb63 : ([] : List ByteArray).length + l.length ≤ 9223372036854775807 := by simp only [List.length_nil]; omega
  obtain ⟨a, c, rfl, _, _⟩ := hs.form
  have hmark : Hid True := Lib.hid trivial
  replace hbt := Lib.hid hbt
  replace hbS := Lib.hid hbS
  replace hb63 := Lib.hid hb63
  clear hl hz h F hb hml
  go_enter Tryd.func22, Tryd.ntmps22
  go_wp2_with (first | ((have hgd := sB; clear hgd; go_at_call 36; go_must (refine (hbt.out vB HB _ xB2.holds sB).mono ?_); rintro e w6 ⟨rfl, hb6⟩)) | ((have hgd := hmark; clear hgd; at_builtin; go_must (refine wpList_appX (w0 := w) (H0 := H) eStr rfl _ _ rfl ((Ext.refl hw).alloc _) rfl (Own.emptyAt (heap_alloc_new _ _) (Nat.le_refl _) (hw.none_of_ge (Nat.le_refl _))) rfl hs hbS.out hb63.out ?_); intro vB wB oB xB hwB hgB; rw [List.nil_append] at oB; obtain ⟨HB, xB2, _, sB, _⟩ := oB.close xB; clear hmark xB oB hwB hgB)))
  go_ret
  exact ⟨rfl, xB2.below.trans (hb6.mono xB2.below.size)⟩

theorem readA_nil {s : List UInt8} (h : (readA s).2 ≠ 0) : (readA s).1 = [] := by
  unfold readA at h ⊢
  split
  · rfl
  · rename_i f e
    rw [e] at h
    simp only [] at h
    split
    · rfl
    · rename_i o e2
      rw [e2] at h
      simp only [] at h
      split
      · rename_i g; rw [if_pos g] at h; exact absurd rfl h
      · rfl
set_option maxRecDepth 100000 in
theorem refused14_any (s : ByteArray) (h : (readA (bys s)).2 ≠ 0) (H : Snap) (w : World) (hw : Holds H w) : Calls Tryd.prog 18 #[.string s] w (PostV w (.bool true)) := by
  have h1 := nReadT_any s H w hw
  have h2 : ∀ (H' : Snap) (W : World), Holds H' W → Calls Tryd.prog 17 #[.string s] W (PostV W (.int .i64 (stateA (bys s)))) := fun H' W hW => nState_any s H' W hW
  rw [readA_nil h] at h1
  unfold stateA at h2
  rcases readA_err (bys s) with e | e | e | e
  · exact absurd e h
  all_goals
    rw [e] at h1 h2
    clear h e
    replace h1 := Lib.hid h1
    replace h2 := Lib.hid h2
    go_enter Tryd.func18, Tryd.ntmps18
    go_wp2_with (first | ((have hgd := x2; clear hgd; go_at_call 17; go_must (refine (h2.out H2 _ x2.holds).mono ?_); rintro e w3 ⟨rfl, hb3⟩)) | ((go_at_call 15; refine h1.out.mono ?_; rintro e w2 ⟨v2, H2, rfl, x2, o2⟩; obtain ⟨a2, c2, rfl, _, _⟩ := o2.form)))
    go_ret
    exact ⟨rfl, x2.below.trans (hb3.mono x2.below.size)⟩
end Go.Proofs.YthcfhmebikcfpaaDoor

namespace Go.Proofs.YthcfhmebikcfpaaDoor
open Go.RowKit
attribute [local go_sem] Holds.drew Holds.alloc Holds.drewN WB.holds Oper.semAt_some

def addR (s t : ByteArray) : ByteArray := if (readA (bys s)).2 = 0 then fileR ((readA (bys s)).1 ++ [t]) else ⟨#[]⟩
def addE (s t : ByteArray) : Int := if (readA (bys s)).2 = 0 then areE ((readA (bys s)).1 ++ [t]) else (readA (bys s)).2
set_option maxRecDepth 100000 in
theorem nAdd_any (s t : ByteArray) (ht : t.size ≤ 1000000) (H : Snap) (w : World) (hw : Holds H w) : Calls Tryd.prog 31 #[.string s, .string t] w (PostV w (.tuple #[.string (addR s t), .int .i64 (addE s t)])) := by
  have hc := nReadT_any s H w hw
  obtain ⟨hl, hsz⟩ := readA_sizes (s := bys s)
  by_cases h : (readA (bys s)).2 = 0
  · have e1 : addR s t = fileR ((readA (bys s)).1 ++ [t]) := by unfold addR; rw [if_pos h]
    have e2 : addE s t = areE ((readA (bys s)).1 ++ [t]) := by unfold addE; rw [if_pos h]
    rw [e1, e2]
    rw [h] at hc
    generalize (readA (bys s)).1 = l at *
    have hz : ∀ x ∈ l ++ [t], x.size ≤ 1000000 := fun x hx => by
      rcases List.mem_append.1 hx with hx | hx
      · have := hsz x hx; omega
      · rw [List.mem_singleton.1 hx]; exact ht
    have hwr : ∀ (v : Value) (H' : Snap) (W : World), Holds H' W → Sl H' v (l ++ [t]) → Calls Tryd.prog 37 #[v] W (PostV W (.tuple #[.string (fileR (l ++ [t])), .int .i64 (areE (l ++ [t]))])) := fun v H' W h1 h2 => nWrite_any v (l ++ [t]) H' W h1 h2 hz
    generalize fileR (l ++ [t]) = q at *
    generalize areE (l ++ [t]) = n at *
    have hrep : Enc.rep H t [.string t] := ⟨rfl, by omega⟩
    have hbS : (l.length + 1) * Enc.by_ ByteArray ≤ 140737488355328 := by simp only [Enc.by_]; omega
    have hb63 : l.length + 1 ≤ 9223372036854775807 := by omega
    clear e1 e2 h hsz hz hl ht
    replace hrep := Lib.hid hrep
    replace hbS := Lib.hid hbS
    replace hb63 := Lib.hid hb63
    replace hc := Lib.hid hc
    replace hwr := Lib.hid hwr
    go_enter Tryd.func31, Tryd.ntmps31
    go_wp2_with (first | ((have hgd := s4; clear hgd; go_at_call 37; go_must (refine (hwr.out _ H4 _ x4.holds s4).mono ?_); rintro e w6 ⟨rfl, hb6⟩)) | ((at_builtin; go_must (refine wpList_app1 (c := 1) (cs := [.string t]) eStr rfl _ _ rfl rfl o2 rfl ⟨rfl, hrep.out.2⟩ x2.holds hbS.out hb63.out x2.below.size ?_); intro v3 w3 o3 g3 hw3 _; have x3 := (x2.alloc _).grown g3 (fun k hk => (o2.lt k hk).1) (fun k hk => o2.free k hk); obtain ⟨H4, x4, _, s4, _⟩ := o3.close x3)) | ((go_at_call 15; refine hc.out.mono ?_; rintro e w2 ⟨v2, H2, rfl, x2, o2⟩; obtain ⟨a2, c2, rfl, _, _⟩ := o2.form)))
    go_ret2
    exact ⟨rfl, x4.below.trans (hb6.mono x4.below.size)⟩
  · have e1 : addR s t = ⟨#[]⟩ := by unfold addR; rw [if_neg h]
    have e2 : addE s t = (readA (bys s)).2 := by unfold addE; rw [if_neg h]
    rw [e1, e2]
    generalize (readA (bys s)).1 = l at *
    generalize (readA (bys s)).2 = n at *
    have hn1 : (n == 0) = false := beq_eq_false_iff_ne.2 h
    have hn2 : (n != 0) = true := bne_iff_ne.2 h
    clear e1 e2 h hsz hl
    replace hc := Lib.hid hc
    go_enter Tryd.func31, Tryd.ntmps31
    go_wp2_with (first | ((go_at_call 15; refine hc.out.mono ?_; rintro e w2 ⟨v2, H2, rfl, x2, o2⟩)))
    go_ret2
    exact ⟨rfl, x2.below⟩

end Go.Proofs.YthcfhmebikcfpaaDoor

namespace Go.Proofs.YthcfhmebikcfpaaDoor
open Go.RowKit
attribute [local go_sem] Holds.drew Holds.alloc Holds.drewN WB.holds Oper.semAt_some

def cutR (s : ByteArray) : ByteArray := if (readA (bys s)).2 = 0 then (if (readA (bys s)).1 = [] then ⟨#[]⟩ else fileR (readA (bys s)).1.dropLast) else ⟨#[]⟩
def cutE (s : ByteArray) : Int := if (readA (bys s)).2 = 0 then (if (readA (bys s)).1 = [] then 3 else areE (readA (bys s)).1.dropLast) else (readA (bys s)).2
set_option maxRecDepth 100000 in
set_option maxHeartbeats 1000000 in
theorem nCut_any (s : ByteArray) (H : Snap) (w : World) (hw : Holds H w) : Calls Tryd.prog 32 #[.string s] w (PostV w (.tuple #[.string (cutR s), .int .i64 (cutE s)])) := by
  have hc := nReadT_any s H w hw
  obtain ⟨hl, hsz⟩ := readA_sizes (s := bys s)
  by_cases h : (readA (bys s)).2 = 0
  · by_cases h0 : (readA (bys s)).1 = []
    · have e1 : cutR s = ⟨#[]⟩ := by unfold cutR; rw [if_pos h, if_pos h0]
      have e2 : cutE s = 3 := by unfold cutE; rw [if_pos h, if_pos h0]
      rw [e1, e2]
      rw [h, h0] at hc
      clear e1 e2 h h0 hsz hl
      replace hc := Lib.hid hc
      go_enter Tryd.func32, Tryd.ntmps32
      go_wp2_with (first | ((go_at_call 15; refine hc.out.mono ?_; rintro e w2 ⟨v2, H2, rfl, x2, o2⟩; obtain ⟨a2, c2, rfl, _, _⟩ := o2.form)))
      go_ret2
      exact ⟨rfl, x2.below⟩
    · have e1 : cutR s = fileR (readA (bys s)).1.dropLast := by unfold cutR; rw [if_pos h, if_neg h0]
      have e2 : cutE s = areE (readA (bys s)).1.dropLast := by unfold cutE; rw [if_pos h, if_neg h0]
      rw [e1, e2]
      rw [h] at hc
      generalize (readA (bys s)).1 = l at *
      obtain ⟨k, hk⟩ : ∃ k, l.length = k + 1 := ⟨l.length - 1, by cases l with | nil => exact absurd rfl h0 | cons => simp⟩
      have hdl : l.dropLast = l.take k := by rw [List.dropLast_eq_take, hk]; rfl
      rw [hdl]
      have hz : ∀ x ∈ l.take k, x.size ≤ 1000000 := fun x hx => by have := hsz x (List.mem_of_mem_take hx); omega
      have hwr : ∀ (v : Value) (H' : Snap) (W : World), Holds H' W → Sl H' v (l.take k) → Calls Tryd.prog 37 #[v] W (PostV W (.tuple #[.string (fileR (l.take k)), .int .i64 (areE (l.take k))])) := fun v H' W h1 h2 => nWrite_any v (l.take k) H' W h1 h2 hz
      have hcut : ∀ (H' : Snap) (a : Option Addr) (c : Nat), Sl H' (.slice a l.length c) l → Sl H' (.slice a k c) (l.take k) := fun H' a c hs => hs.take (by omega)
      have hlc : l.length ≤ 20 := hl
      obtain ⟨N, hN⟩ : ∃ N, N = l.length := ⟨_, rfl⟩
      have hw1 : wrap64 ((N : Int) - 1) = (k : Int) := by rw [show (N : Int) - 1 = (k : Int) by omega]; exact wrap64_in _ (by omega) (by omega)
      have hl0 : ¬ N = 0 := by omega
      have hl1 : ((N : Int) == 0) = false := beq_eq_false_iff_ne.2 (by omega)
      have hkl : k ≤ N := by omega
      have hk0 : (0 : Int) ≤ (k : Int) := by omega
      rw [← hN] at hcut
      generalize fileR (l.take k) = q at *
      generalize areE (l.take k) = n at *
      clear e1 e2 h h0 hsz hl hz hdl hk hlc
      replace hN := Lib.hid hN
      replace hcut := Lib.hid hcut
      replace hkl := Lib.hid hkl
      replace hc := Lib.hid hc
      replace hwr := Lib.hid hwr
      go_enter Tryd.func32, Tryd.ntmps32
      go_upto_region 6 with (first | (go_at_call 15; refine hc.out.mono ?_; rintro e w2 ⟨v2, H2, rfl, x2, o2⟩; obtain ⟨H4, x4, _, s4, _⟩ := o2.close x2; obtain ⟨a2, c2, hv2, hlc, _⟩ := o2.form; rw [← hN.out] at hv2 hlc; subst hv2; have hkc : (k : Int) ≤ (c2 : Int) := Int.ofNat_le.2 (Nat.le_trans hkl.out hlc)))
      clear hl0 hl1 hlc x2 o2
      go_wp2_with (first | ((have hgd := s4; clear hgd; go_at_call 37; go_must (refine (hwr.out _ H4 _ x4.holds (hcut.out _ _ _ s4)).mono ?_); rintro e w6 ⟨rfl, hb6⟩)))
      go_ret2
      exact ⟨rfl, x4.below.trans (hb6.mono x4.below.size)⟩
  · have e1 : cutR s = ⟨#[]⟩ := by unfold cutR; rw [if_neg h]
    have e2 : cutE s = (readA (bys s)).2 := by unfold cutE; rw [if_neg h]
    rw [e1, e2]
    generalize (readA (bys s)).1 = l at *
    generalize (readA (bys s)).2 = n at *
    have hn1 : (n == 0) = false := beq_eq_false_iff_ne.2 h
    have hn2 : (n != 0) = true := bne_iff_ne.2 h
    clear e1 e2 h hsz hl
    replace hc := Lib.hid hc
    go_enter Tryd.func32, Tryd.ntmps32
    go_wp2_with (first | ((go_at_call 15; refine hc.out.mono ?_; rintro e w2 ⟨v2, H2, rfl, x2, o2⟩)))
    go_ret2
    exact ⟨rfl, x2.below⟩
end Go.Proofs.YthcfhmebikcfpaaDoor

namespace Go.Proofs.YthcfhmebikcfpaaDoor
open Go.RowKit
def exA : ByteArray := ⟨#[97, 97, 98]⟩
def exB : ByteArray := ⟨#[97]⟩
def exT : List ByteArray := [exA, exB]
def exL : List Pr := [⟨10, 2⟩, ⟨97, 1⟩, ⟨98, 2⟩]
def exF1 : ByteArray := ⟨#[48, 50, 48, 50, 10, 65, 97, 65, 111]⟩
def exF2 : ByteArray := ⟨#[48, 49, 48, 50, 10, 65, 97, 65, 103]⟩
def exF3 : ByteArray := ⟨#[48, 49, 48, 50, 10, 65, 97, 65, 65]⟩
theorem ex_are : areE exT = 0 := by decide +kernel
theorem ex_lens : lensR exT = exL := by decide +kernel
theorem ex_bits : bitsR exT = 9 := by decide +kernel
theorem ex_codeR : codeR exL 98 = ⟨#[49, 49]⟩ := by decide +kernel
theorem ex_codeE : codeE exL 98 = 0 := by decide +kernel
theorem ex_file : fileR exT = ⟨#[48, 50, 48, 51, 10, 66, 97, 65, 98, 66, 79, 81]⟩ := by decide +kernel
theorem ex_read : readA (bys exF1) = ([exB, exB], 0) := by decide +kernel
theorem ex_addR : addR exF2 exB = exF1 := by decide +kernel
theorem ex_addE : addE exF2 exB = 0 := by decide +kernel
theorem ex_state : stateA (bys exF3) = 4 := by decide +kernel
end Go.Proofs.YthcfhmebikcfpaaDoor

namespace Go.Proofs.YthcfhmebikcfpaaDoor
open Go.RowKit
attribute [local go_sem] Holds.drew Holds.alloc Holds.drewN WB.holds Oper.semAt_some

theorem lit_str2 {w0 w : World} {H0 H : Snap} (x : Ext w0 H0 w H) (a b : ByteArray) (ha : a.size ≤ 1000) (hb : b.size ≤ 1000) :
    ∃ H2, SLe H H2 ∧ Ext w0 H0 (w.alloc (.cells #[.string a, .string b] 9)) H2 ∧ Sl H2 (.slice (some ⟨w.heap.size, 0, none⟩) 2 2) [a, b] :=
  Ext.lit (xs := [a, b]) (cs := [.string a, .string b]) x ⟨[.string a], [.string b], rfl, show Enc.rep H a [.string a] from ⟨rfl, by omega⟩, [.string b], [], rfl, show Enc.rep H b [.string b] from ⟨rfl, by omega⟩, rfl⟩ _ (by simp [Enc.by_]) (by simp)
theorem lit_pr3 {w0 w : World} {H0 H : Snap} (x : Ext w0 H0 w H) :
    ∃ H2, SLe H H2 ∧ Ext w0 H0 (w.alloc (.cells #[.int .i64 10, .int .i64 2, .int .i64 97, .int .i64 1, .int .i64 98, .int .i64 2] 40)) H2 ∧ Sl H2 (.slice (some ⟨w.heap.size, 0, none⟩) 3 3) exL :=
  Ext.lit (xs := exL) (cs := [.int .i64 10, .int .i64 2, .int .i64 97, .int .i64 1, .int .i64 98, .int .i64 2]) x
    ⟨[.int .i64 10, .int .i64 2], [.int .i64 97, .int .i64 1, .int .i64 98, .int .i64 2], rfl, show Enc.rep H (⟨10, 2⟩ : Pr) _ from ⟨rfl, ⟨by decide, by decide⟩, ⟨by decide, by decide⟩⟩, [.int .i64 97, .int .i64 1], [.int .i64 98, .int .i64 2], rfl, show Enc.rep H (⟨97, 1⟩ : Pr) _ from ⟨rfl, ⟨by decide, by decide⟩, ⟨by decide, by decide⟩⟩, [.int .i64 98, .int .i64 2], [], rfl, show Enc.rep H (⟨98, 2⟩ : Pr) _ from ⟨rfl, ⟨by decide, by decide⟩, ⟨by decide, by decide⟩⟩, rfl⟩ _ (by simp [exL, Enc.by_]) (by simp [exL])

set_option maxRecDepth 100000 in
set_option maxHeartbeats 2000000 in
theorem works14_any (H : Snap) (w : World) (hw : Holds H w) : Calls Tryd.prog 13 #[] w (PostV w (.bool true)) := by
  have hz : ∀ s ∈ exT, s.size ≤ 1000000 := by decide
  have cLen : ∀ (v : Value) (H' : Snap) (W : World), Holds H' W → Sl H' v exT → Calls Tryd.prog 35 #[v] W (PostOE W H' 40 exL 0) := fun v H' W h1 h2 => by
    have := nLengths_any v exT H' W h1 h2 hz
    rw [ex_are, ex_lens] at this
    exact this
  have cBit : ∀ (v : Value) (H' : Snap) (W : World), Holds H' W → Sl H' v exT → Calls Tryd.prog 36 #[v] W (PostV W (.tuple #[.int .i64 9, .int .i64 0])) := fun v H' W h1 h2 => by
    have := nBitsT_any v exT H' W h1 h2 hz
    rw [ex_are, ex_bits] at this
    exact this
  have cCod : ∀ (v : Value) (H' : Snap) (W : World), Holds H' W → Sl H' v exL → Calls Tryd.prog 20 #[v, .int .i64 98] W (PostV W (.tuple #[.string ⟨#[49, 49]⟩, .int .i64 0])) := fun v H' W h1 h2 => by
    have := nCode_any v exL (by decide) 98 H' W h1 h2
    rw [ex_codeR, ex_codeE] at this
    exact this
  have cWri : ∀ (v : Value) (H' : Snap) (W : World), Holds H' W → Sl H' v exT → Calls Tryd.prog 37 #[v] W (PostV W (.tuple #[.string ⟨#[48, 50, 48, 51, 10, 66, 97, 65, 98, 66, 79, 81]⟩, .int .i64 0])) := fun v H' W h1 h2 => by
    have := nWrite_any v exT H' W h1 h2 hz
    rw [ex_are, ex_file] at this
    exact this
  have cRea : ∀ (H' : Snap) (W : World), Holds H' W → Calls Tryd.prog 15 #[.string exF1] W (PostOE W H' 9 [exB, exB] 0) := fun H' W h1 => by
    have := nReadT_any exF1 H' W h1
    rw [ex_read] at this
    exact this
  have cAdd : ∀ (H' : Snap) (W : World), Holds H' W → Calls Tryd.prog 31 #[.string exF2, .string exB] W (PostV W (.tuple #[.string ⟨#[48, 50, 48, 50, 10, 65, 97, 65, 111]⟩, .int .i64 0])) := fun H' W h1 => by
    have := nAdd_any exF2 exB (by decide) H' W h1
    rw [ex_addR, ex_addE] at this
    exact this
  have cSta : ∀ (H' : Snap) (W : World), Holds H' W → Calls Tryd.prog 17 #[.string exF3] W (PostV W (.int .i64 4)) := fun H' W h1 => by
    have := nState_any exF3 H' W h1
    rw [ex_state] at this
    exact this
  have cSaL : ∀ (u v : Value) (H' : Snap) (W : World), Holds H' W → Sl H' u exL → Sl H' v exL → Calls Tryd.prog 27 #[u, v] W (PostV W (.bool true)) := fun u v H' W h1 h2 h3 => by
    have := sameLengths_any u v exL exL H' W h1 h2 h3
    rw [decide_eq_true rfl] at this
    exact this
  have cSaT : ∀ (u v : Value) (H' : Snap) (W : World), Holds H' W → Sl H' u [exB, exB] → Sl H' v [exB, exB] → Calls Tryd.prog 16 #[u, v] W (PostV W (.bool true)) := fun u v H' W h1 h2 h3 => by
    have := sameTexts_any u v [exB, exB] [exB, exB] H' W h1 h2 h3
    rw [decide_eq_true rfl] at this
    exact this
  replace cLen := Lib.hid cLen
  replace cBit := Lib.hid cBit
  replace cCod := Lib.hid cCod
  replace cWri := Lib.hid cWri
  replace cRea := Lib.hid cRea
  replace cAdd := Lib.hid cAdd
  replace cSta := Lib.hid cSta
  replace cSaL := Lib.hid cSaL
  replace cSaT := Lib.hid cSaT
  clear hz
  go_enter Tryd.func13, Tryd.ntmps13
  go_upto_region 2 with (go_at_call 35; obtain ⟨H1, _, x1, s1⟩ := lit_str2 (Ext.refl hw) exA exB (by decide) (by decide); go_must (refine (cLen.out _ H1 _ x1.holds s1).mono ?_); rintro e w2 ⟨v2, H2, rfl, y2, o2⟩; obtain ⟨H3, y3, _, sL, _⟩ := o2.close y2; obtain ⟨aL, cL, rfl, _, _⟩ := o2.form; have x3 := x1.trans y3)
  clear x1 s1 y2 o2 y3
  go_upto_region 3 with (go_at_call 36; obtain ⟨H4, l4, x4, s4⟩ := lit_str2 x3 exA exB (by decide) (by decide); go_must (refine (cBit.out _ H4 _ x4.holds s4).mono ?_); rintro e w4 ⟨rfl, hb4⟩; have x5 := x4.step (hb4.mono x4.below.size) (x4.holds.below hb4); have sL5 := sL.mono l4)
  clear x3 x4 s4 hb4 sL l4
  go_upto_region 4 with (go_at_call 20; obtain ⟨H6, l6, x6, s6⟩ := lit_pr3 x5; go_must (refine (cCod.out _ H6 _ x6.holds s6).mono ?_); rintro e w6 ⟨rfl, hb6⟩; have x7 := x6.step (hb6.mono x6.below.size) (x6.holds.below hb6); have sL7 := sL5.mono l6)
  clear x5 x6 s6 hb6 sL5 l6
  go_upto_region 5 with (go_at_call 37; obtain ⟨H8, l8, x8, s8⟩ := lit_str2 x7 exA exB (by decide) (by decide); go_must (refine (cWri.out _ H8 _ x8.holds s8).mono ?_); rintro e w8 ⟨rfl, hb8⟩; have x9 := x8.step (hb8.mono x8.below.size) (x8.holds.below hb8); have sL9 := sL7.mono l8)
  clear x7 x8 s8 hb8 sL7 l8
  go_upto_region 6 with (go_at_call 15; go_must (refine (cRea.out _ _ x9.holds).mono ?_); rintro e w10 ⟨v10, H10, rfl, y10, o10⟩; obtain ⟨H11, y11, _, sT, _⟩ := o10.close y10; obtain ⟨aT, cT, rfl, _, _⟩ := o10.form; have x11 := x9.trans y11; have sL11 := sL9.mono (y11.le x9.holds))
  clear x9 sL9 y10 o10 y11
  go_upto_region 7 with (go_at_call 31; go_must (refine (cAdd.out _ _ x11.holds).mono ?_); rintro e w12 ⟨rfl, hb12⟩; have x12 := x11.step (hb12.mono x11.below.size) (x11.holds.below hb12))
  clear x11 hb12
  go_wp2_with (first | ((have hgd := x16; clear hgd; go_at_call 17; go_must (refine (cSta.out _ _ x16.holds).mono ?_); rintro e w17 ⟨rfl, hb17⟩)) | ((have hgd := x14; clear hgd; go_at_call 16; obtain ⟨H15, l15, x15, s15⟩ := lit_str2 x14 exB exB (by decide) (by decide); go_must (refine (cSaT.out _ _ H15 _ x15.holds (sT.mono (fun b o h => l15 b o (l13 b o h))) s15).mono ?_); rintro e w16 ⟨rfl, hb16⟩; have x16 := x15.step (hb16.mono x15.below.size) (x15.holds.below hb16))) | ((go_at_call 27; obtain ⟨H13, l13, x13, s13⟩ := lit_pr3 x12; go_must (refine (cSaL.out _ _ H13 _ x13.holds (sL11.mono l13) s13).mono ?_); rintro e w14 ⟨rfl, hb14⟩; have x14 := x13.step (hb14.mono x13.below.size) (x13.holds.below hb14))))
  go_ret
  exact ⟨rfl, x16.below.trans (hb17.mono x16.below.size)⟩
end Go.Proofs.YthcfhmebikcfpaaDoor

namespace Go.Proofs.YthcfhmebikcfpaaDoor
open Go.RowKit Go.ChangeShapes Go.WideShapes Go.Deep

/-- The whole heap, as it is. -/
def snapOf (w : World) : Snap := fun b => w.heap[b]?
theorem snapOf_holds (w : World) : Holds (snapOf w) w := ⟨fun _ _ e => e⟩

theorem reps_chunks {α : Type} [Enc α] {H : Snap} (L : List Value) (f : Nat → α) : ∀ (n : Nat), (∀ i, i < n → ∃ cs, Enc.rep H (f i) cs ∧ ∀ j, j < Enc.sz α → L[i * Enc.sz α + j]? = cs[j]?) → reps H ((List.range n).map f) (L.take (n * Enc.sz α))
  | 0, _ => by simp [reps]
  | n + 1, h => by
    obtain ⟨cs, hr, hj⟩ := h n (by omega)
    have hl := Enc.len hr
    have e : L.take ((n + 1) * Enc.sz α) = L.take (n * Enc.sz α) ++ cs := by
      rw [Nat.add_mul, Nat.one_mul, List.take_add]
      congr 1
      apply List.ext_getElem?
      intro j
      rw [List.getElem?_take]
      by_cases hjs : j < Enc.sz α
      · rw [if_pos hjs, List.getElem?_drop]
        exact hj j hjs
      · rw [if_neg hjs, List.getElem?_eq_none (by omega)]
    rw [List.range_succ, List.map_append, e]
    exact reps.append (reps_chunks L f n fun i hi => h i (by omega)) (reps.single hr)

theorem weightsAll_get {H : Type} {P : Program} {e : TypeId} : ∀ {l : List (DataW H)} {i : Nat} {d : DataW H}, l[i]? = some d → ∀ n ∈ d.weights P e, n ∈ DataW.weightsAll P e l
  | d0 :: l, 0, d, h, n, hn => by
    simp only [List.getElem?_cons_zero, Option.some.injEq] at h
    subst h
    simp only [DataW.weightsAll, List.mem_append]
    exact Or.inl hn
  | d0 :: l, i + 1, d, h, n, hn => by
    simp only [List.getElem?_cons_succ] at h
    simp only [DataW.weightsAll, List.mem_append]
    exact Or.inr (weightsAll_get h n hn)
  | [], _, _, h, _, _ => by simp at h

theorem row_of_cell {w : World} {a : Addr} {v : Value} (h : w.cell? a = some v) : ∃ b o cur t fr, a = ⟨b, o, none⟩ ∧ w.heap[b]? = some (.cells cur t fr) := by
  obtain ⟨b, o, s⟩ := a
  unfold World.cell? at h
  split at h
  · next c t fr hb =>
    split at h
    · cases h
    · next hs =>
      cases s with
      | none => exact ⟨b, o, _, _, _, rfl, hb⟩
      | some _ => simp at hs
  · cases h

/-- A slice that reads as data. -/
theorem Sl.opened {α : Type} [Enc α] [Inhabited α] {H : Type} {enc : TypeId × Value → H} {P : Program} {w : World} {sp : Nat → Bool} {hd : Bool} {t e : TypeId} {n : Nat} {v : Value} {y : DataW H × List MemPlace}
    (ht : P.underlying t = some (.slice e)) (hc : P.cellsOf e = Enc.sz α) (hp : 0 < Enc.sz α) (hb : P.bytesOf e = Enc.by_ α)
    (el : ∀ (n : Nat) (cs : List Value) (y : DataW H × List MemPlace), DataW.trod enc P w 0 sp hd n e cs = some y → (∀ k ∈ y.1.weights P e, k ≤ reachBytes) → ∃ x : α, Enc.rep (snapOf w) x cs)
    (h : DataW.trod enc P w 0 sp hd n t [v] = some y) (hw : ∀ k ∈ y.1.weights P t, k ≤ reachBytes) : ∃ xs : List α, Sl (snapOf w) v xs := by
  rcases open_slice ht h with ⟨hcs, _⟩ | ⟨a, len, cap, m, n', D, Pl, hcs, _, hl, hm, hmm, rfl, hx⟩
  · simp at hcs
    subst hcs
    exact ⟨[], Sl.nil0 _⟩
  · simp at hcs
    subst hcs
    have hlm : len ≤ m := by rw [hmm]; split <;> omega
    simp only [DataW.weights, ht, List.mem_cons, List.mem_append] at hw
    have h0 := hw _ (Or.inl rfl)
    simp only [List.length_map, List.length_range, hb] at h0
    have hby : len * Enc.by_ α ≤ 140737488355328 := by
      have h1 : len * Enc.by_ α ≤ (len + (m - len)) * Enc.by_ α := Nat.mul_le_mul_right _ (by omega)
      have h2 : reachBytes ≤ 140737488355328 := by decide
      omega
    have hcap : cap ≤ 9223372036854775807 := by simp only [maxLen] at hm; omega
    by_cases hz : len = 0
    · subst hz
      exact ⟨[], Sl.nil _ _ hcap⟩
    · obtain ⟨cs0, hc0, _⟩ := hx 0 (by omega)
      obtain ⟨_, hl0, hg0⟩ := World.cells?_some hc0
      have hcell0 := hg0 0 (by omega)
      rw [List.getElem?_eq_getElem (by omega)] at hcell0
      obtain ⟨b, o, cur, tt, fr, ha, hrow⟩ := row_of_cell hcell0
      have ha' : a = ⟨b, o, none⟩ := by simpa [Addr.add] using ha
      subst ha'
      have hat : ∀ i, i < len → ∃ cs, (∃ x : α, Enc.rep (snapOf w) x cs) ∧ cs.length = Enc.sz α ∧ ∀ j, j < Enc.sz α → cur[o + i * Enc.sz α + j]? = cs[j]? := fun i hi => by
        obtain ⟨cs, hc1, ht1⟩ := hx i (by omega)
        obtain ⟨_, hl1, hg1⟩ := World.cells?_some hc1
        rw [hc] at hl1 hg1
        refine ⟨cs, el _ _ _ ht1 (fun k hk => hw k (Or.inr (Or.inl (weightsAll_get (i := i) (by simp [hi]) k hk)))), hl1, fun j hj => ?_⟩
        have := hg1 j hj
        rw [Addr.add_lit, Addr.add_lit, cell_of_row w b _ cur tt fr hrow] at this
        exact this
      obtain ⟨f, hf⟩ := choose_lt (α := α) (p := fun i x => ∃ cs, Enc.rep (snapOf w) x cs ∧ cs.length = Enc.sz α ∧ ∀ j, j < Enc.sz α → cur[o + i * Enc.sz α + j]? = cs[j]?) (fun i hi => by
        obtain ⟨cs, ⟨x, hx⟩, hl, hj⟩ := hat i hi
        exact ⟨x, cs, hx, hl, hj⟩)
      have hsz : o + len * Enc.sz α ≤ cur.size := by
        obtain ⟨cs, _, hl1, hj1⟩ := hf (len - 1) (by omega)
        have h1 := hj1 (Enc.sz α - 1) (by omega)
        rw [List.getElem?_eq_getElem (by omega)] at h1
        have h2 := (Array.getElem?_eq_some_iff.1 h1).1
        have h3 : (len - 1) * Enc.sz α + Enc.sz α = len * Enc.sz α := by
          rw [show len * Enc.sz α = (len - 1 + 1) * Enc.sz α by rw [Nat.sub_add_cancel (by omega)], Nat.add_mul, Nat.one_mul]
        omega
      refine ⟨(List.range len).map f, some ⟨b, o, none⟩, cap, by simp, by simpa using hl, hcap, by simpa using hby, .inr ⟨b, o, cur, tt, fr, rfl, hrow, by simpa using hsz, ?_⟩⟩
      rw [List.length_map, List.length_range]
      refine reps_chunks _ f len fun i hi => ?_
      obtain ⟨cs, hr, _, hj⟩ := hf i hi
      refine ⟨cs, hr, fun j hjj => ?_⟩
      rw [List.getElem?_drop, ← hj j hjj, Array.getElem?_toList, ← Nat.add_assoc]

end Go.Proofs.YthcfhmebikcfpaaDoor

namespace Go.Proofs.YthcfhmebikcfpaaDoor
open Go.RowKit Go.ChangeShapes Go.WideShapes Go.Deep Go.Joins

section
variable {H : Type} {enc : TypeId × Value → H} {W : World} {sp : Nat → Bool} {hd : Bool}

instance : Inhabited Mach := ⟨⟨0, 0, 0⟩⟩
instance : Inhabited Bund := ⟨⟨0, 0, 0⟩⟩

theorem cells_int : Tryd.prog.cellsOf 3 = 1 := by kernel_rfl
theorem i64_of_wf {n : Int} (h : (Lit.int .i64 n).wf = true) : I64 n := by
  have : -9223372036854775808 ≤ n ∧ n ≤ 9223372036854775807 := by simpa [Lit.wf, IntKind.min, IntKind.max, IntKind.signed, IntKind.bits] using h
  exact this

theorem el_int (n : Nat) (cs : List Value) (y : DataW H × List MemPlace) (h : DataW.trod enc Tryd.prog W 0 sp hd n 3 cs = some y) : ∃ x : Int, Enc.rep (snapOf W) x cs := by
  obtain ⟨k, rfl, _, hk⟩ := DataW.trod_int Tryd.underlying3 h
  exact ⟨k, rfl, i64_of_wf hk⟩

theorem three {α : Type} {l : List α} (h : l.length = 3) : ∃ a b c, l = [a, b, c] := by
  match l, h with
  | [a, b, c], _ => exact ⟨a, b, c, rfl⟩

theorem ints_opened {n : Nat} {v : Value} {y : DataW H × List MemPlace} (h : DataW.trod enc Tryd.prog W 0 sp hd n 109 [v] = some y) (hw : ∀ k ∈ y.1.weights Tryd.prog 109, k ≤ reachBytes) : ∃ xs : List Int, Sl (snapOf W) v xs :=
  Sl.opened Tryd.underlying109 (by kernel_rfl) (by decide) (by kernel_rfl) (fun n cs y h _ => el_int n cs y h) h hw
theorem el_ints (n : Nat) (cs : List Value) (y : DataW H × List MemPlace) (h : DataW.trod enc Tryd.prog W 0 sp hd n 109 cs = some y) (hw : ∀ k ∈ y.1.weights Tryd.prog 109, k ≤ reachBytes) : ∃ x : List Int, Enc.rep (snapOf W) x cs := by
  obtain ⟨a, l, c, rfl⟩ := slice_form Tryd.underlying109 h
  obtain ⟨xs, hx⟩ := ints_opened h hw
  exact ⟨xs, _, rfl, hx⟩
theorem lists_opened {n : Nat} {v : Value} {y : DataW H × List MemPlace} (h : DataW.trod enc Tryd.prog W 0 sp hd n 130 [v] = some y) (hw : ∀ k ∈ y.1.weights Tryd.prog 130, k ≤ reachBytes) : ∃ xs : List (List Int), Sl (snapOf W) v xs :=
  Sl.opened Tryd.underlying130 (by kernel_rfl) (by decide) (by kernel_rfl) (fun n cs y h hw => el_ints n cs y h hw) h hw

end

end Go.Proofs.YthcfhmebikcfpaaDoor

namespace Go.Proofs.YthcfhmebikcfpaaDoor
open Go.RowKit Go.ChangeShapes Go.WideShapes Go.Deep Go.Joins

section
variable {H : Type} {enc : TypeId × Value → H} {W : World} {sp : Nat → Bool} {hd : Bool}

theorem two2 {α : Type} {l : List α} (h : l.length = 2) : ∃ a b, l = [a, b] := by
  match l, h with
  | [a, b], _ => exact ⟨a, b, rfl⟩
theorem cells_n : Tryd.prog.cellsOf 3 = 1 := by kernel_rfl
theorem i64_wf {n : Int} (h : (Lit.int .i64 n).wf = true) : I64 n := by
  have : -9223372036854775808 ≤ n ∧ n ≤ 9223372036854775807 := by simpa [Lit.wf, IntKind.min, IntKind.max, IntKind.signed, IntKind.bits] using h
  exact this
theorem el_pr (n : Nat) (cs : List Value) (y : DataW H × List MemPlace) (h : DataW.trod enc Tryd.prog W 0 sp hd n 40 cs = some y) : ∃ x : Pr, Enc.rep (snapOf W) x cs := by
  obtain ⟨y0, y1, m, _, hl, h0, h1⟩ := trod_struct2 Tryd.underlying40 h
  obtain ⟨a, b, rfl⟩ := two2 (hl.trans (by kernel_rfl))
  simp only [cells_n, List.drop_zero, List.drop_succ_cons, List.take_succ_cons, List.take_zero] at h0 h1
  obtain ⟨k0, e0, _, w0⟩ := DataW.trod_int Tryd.underlying3 h0
  obtain ⟨k1, e1, _, w1⟩ := DataW.trod_int Tryd.underlying3 h1
  simp at e0 e1
  subst e0; subst e1
  exact ⟨⟨k0, k1⟩, rfl, i64_wf w0, i64_wf w1⟩
theorem lens_opened {n : Nat} {v : Value} {y : DataW H × List MemPlace} (h : DataW.trod enc Tryd.prog W 0 sp hd n 34 [v] = some y) (hw : ∀ k ∈ y.1.weights Tryd.prog 34, k ≤ reachBytes) : ∃ xs : List Pr, Sl (snapOf W) v xs :=
  Sl.opened Tryd.underlying34 (by kernel_rfl) (by decide) (by kernel_rfl) (fun n cs y h _ => el_pr n cs y h) h hw
theorem reach_le : reachBytes ≤ 140737488355328 := by decide
instance : Inhabited ByteArray := ⟨⟨#[]⟩⟩
theorem el_str (n : Nat) (cs : List Value) (y : DataW H × List MemPlace) (h : DataW.trod enc Tryd.prog W 0 sp hd n 9 cs = some y) (hw : ∀ k ∈ y.1.weights Tryd.prog 9, k ≤ reachBytes) : ∃ x : ByteArray, Enc.rep (snapOf W) x cs := by
  obtain ⟨s, rfl, rfl, _⟩ := DataW.trod_string Tryd.underlying9 h
  have h1 := hw s.data.toList.length (by simp [DataW.weights])
  exact ⟨s, rfl, Nat.le_trans (show s.size ≤ reachBytes by simpa using h1) reach_le⟩
theorem texts_opened {n : Nat} {v : Value} {y : DataW H × List MemPlace} (h : DataW.trod enc Tryd.prog W 0 sp hd n 22 [v] = some y) (hw : ∀ k ∈ y.1.weights Tryd.prog 22, k ≤ reachBytes) : ∃ xs : List ByteArray, Sl (snapOf W) v xs :=
  Sl.opened Tryd.underlying22 (by kernel_rfl) (by decide) (by kernel_rfl) (fun n cs y h hw => el_str n cs y h hw) h hw
end
end Go.Proofs.YthcfhmebikcfpaaDoor
