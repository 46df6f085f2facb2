/- Lemmas and walks on which the claims of this seat lean: NRdT NLw2 NAdd NCut NEx NWk NBof NGp NGh NGc Iter2 NGw. -/
import Derived.Test.YthcfhmebikcfpaaGreatDoorG01
import Derived.Test.YthcfhmebikcfpaaGreatDoorG04
import Derived.Test.YthcfhmebikcfpaaGreatDoorG05
import Derived.Test.YthcfhmebikcfpaaGreatDoorG07
import Derived.Test.YthcfhmebikcfpaaGreatDoorG10
import Derived.Test.YthcfhmebikcfpaaGreatDoorG11
import Derived.Test.YthcfhmebikcfpaaGreatDoorG12
import Derived.StillTail
import Derived.OrdersIn
import Derived.RangeFuncCalls
import Derived.RangeFuncNested
import Derived.RangeFuncBound
import Derived.RangeFuncLeaves
import Derived.Shelf.Abstract
import Derived.Shelf.RegionOpen
import Derived.OwnWalkIn
import Derived.TacticsInMore
import Derived.LoopNIn
import Derived.LoopIn

set_option linter.all false

namespace Go.Proofs.YthcfhmebikcfpaaGreatDoor
open Go.RowKit
attribute [local go_sem] Holds.drew Holds.alloc Holds.drewN WB.holds Oper.semAt_some

theorem symsA_len : ∀ {n : Nat} {last : Int} {r : List UInt8} {l : List Pr} {rest : List UInt8}, symsA n last r = some (l, rest) → l.length = n ∧ rest.length + 2 * n = r.length
  | 0, _, r, l, rest, h => by
    unfold symsA at h
    simp only [Option.some.injEq, Prod.mk.injEq] at h
    obtain ⟨rfl, rfl⟩ := h
    exact ⟨rfl, rfl⟩
  | n + 1, last, c :: b :: r, l, rest, h => by
    unfold symsA at h
    split at h
    · rename_i g
      cases hs : symsA n (c.toNat : Int) r with
      | none => rw [hs] at h; cases h
      | some p =>
        obtain ⟨l1, r1⟩ := p
        rw [hs] at h
        simp only [Option.map_some, Option.some.injEq, Prod.mk.injEq] at h
        obtain ⟨rfl, rfl⟩ := h
        obtain ⟨h1, h2⟩ := symsA_len hs
        exact ⟨by rw [List.length_cons, h1], by rw [List.length_cons, List.length_cons, ← h2]; omega⟩
    · cases h
  | n + 1, last, [], l, rest, h => by unfold symsA at h; cases h
  | n + 1, last, [_], l, rest, h => by unfold symsA at h; cases h
theorem formA_some {s : List UInt8} {f : Frm} (h : formA s = some f) : f.many ≤ 20 ∧ f.l.length ≤ 96 ∧ f.rest.length ≤ 1496 ∧ f.rest.all (fun b => (letN b).isSome) = true := by
  match s, h with
  | a :: b :: c :: d :: r, h =>
    unfold formA at h
    simp only [] at h
    split at h
    · rename_i many n e1 e2
      split at h
      · rename_i g
        cases hs : symsA n (-1) r with
        | none => rw [hs] at h; cases h
        | some p =>
          obtain ⟨l1, r1⟩ := p
          rw [hs] at h
          simp only [] at h
          split at h
          · rename_i ga
            simp only [Option.some.injEq] at h
            subst h
            obtain ⟨h1, h2⟩ := symsA_len hs
            exact ⟨g.2.1, by show l1.length ≤ 96; omega, by show r1.length ≤ 1496; omega, ga⟩
          · cases h
      · cases h
    · cases h
  | [], h => cases h
  | [_], h => cases h
  | [_, _], h => cases h
  | [_, _, _], h => cases h
theorem decA_sizes {many : Nat} {l : List Pr} {B : Nat} : ∀ {n : Nat} {out : List ByteArray} {own bs : List UInt8} {o : List ByteArray} {z : List UInt8}, decA many l n out own bs = some (o, z) → (∀ s ∈ out, s.size ≤ B) → own.length + n ≤ B → o.length ≤ max many out.length ∧ ∀ s ∈ o, s.size ≤ B
  | 0, _, _, _, _, _, h, _, _ => by unfold decA at h; cases h
  | n + 1, out, own, bs, o, z, h, hs, hb => by
    unfold decA at h
    split at h
    · rename_i g
      simp only [Option.some.injEq, Prod.mk.injEq] at h
      obtain ⟨rfl, rfl⟩ := h
      exact ⟨by omega, hs⟩
    · rename_i g
      split at h
      · cases h
      · rename_i i e
        split at h
        · obtain ⟨h1, h2⟩ := decA_sizes h (fun s hm => by
            rcases List.mem_append.1 hm with hm | hm
            · exact hs s hm
            · rw [List.mem_singleton.1 hm]; show own.length ≤ B; omega) (by rw [List.length_nil]; omega)
          exact ⟨by rw [List.length_append, List.length_singleton] at h1; omega, h2⟩
        · exact decA_sizes h hs (by rw [List.length_append, List.length_singleton]; omega)
theorem textsA_sizes {many : Nat} {l : List Pr} {bits : List UInt8} {out : List ByteArray} (h : textsA many l bits = some out) : out.length ≤ many ∧ ∀ s ∈ out, s.size ≤ bits.length + 1 := by
  unfold textsA at h
  split at h
  · split at h
    · cases h
    · rename_i o z e
      split at h
      · simp only [Option.some.injEq] at h
        subst h
        have := decA_sizes (B := bits.length + 1) e (by simp) (by simp)
        exact ⟨by simpa using this.1, this.2⟩
      · cases h
  · cases h
theorem readA_none {s : List UInt8} (h : formA s = none) : readA s = ([], 140) := by unfold readA; rw [h]
theorem readA_bits {s : List UInt8} {f : Frm} (h : formA s = some f) (h2 : textsA f.many f.l (unsix f.rest) = none) : readA s = ([], 141) := by unfold readA; rw [h]; simp only []; rw [h2]
theorem readA_yes {s : List UInt8} {f : Frm} {out : List ByteArray} (h : formA s = some f) (h2 : textsA f.many f.l (unsix f.rest) = some out) (h3 : areE out = 0 ∧ fileA out = s) : readA s = (out, 0) := by unfold readA; rw [h]; simp only []; rw [h2]; simp only []; rw [if_pos h3]
theorem readA_code {s : List UInt8} {f : Frm} {out : List ByteArray} (h : formA s = some f) (h2 : textsA f.many f.l (unsix f.rest) = some out) (h3 : ¬ (areE out = 0 ∧ fileA out = s)) : readA s = ([], 142) := by unfold readA; rw [h]; simp only []; rw [h2]; simp only []; rw [if_neg h3]
theorem readA_err (s : List UInt8) : (readA s).2 = 0 ∨ (readA s).2 = 140 ∨ (readA s).2 = 141 ∨ (readA s).2 = 142 := by
  unfold readA
  split
  · exact .inr (.inl rfl)
  · split
    · exact .inr (.inr (.inl rfl))
    · split
      · exact .inl rfl
      · exact .inr (.inr (.inr rfl))
theorem readA_sizes {s : List UInt8} : (readA s).1.length ≤ 20 ∧ ∀ t ∈ (readA s).1, t.size ≤ 200 := by
  by_cases h : (readA s).2 = 0
  · have h1 := (readA_ok h).1
    exact ⟨(areE_zero h1).1, areE_size h1⟩
  · have h2 : (readA s).1 = [] := by
      unfold readA at h ⊢
      split
      · rfl
      · rename_i f e
        rw [e] at h
        simp only [] at h
        split
        · rfl
        · rename_i o e2
          rw [e2] at h
          simp only [] at h
          split
          · rename_i g; rw [if_pos g] at h; exact absurd rfl h
          · rfl
    rw [h2]
    exact ⟨by simp, by simp⟩

theorem Holds.below' {H H2 : Snap} {w w3 w6 : World} (h : Holds H w3) (_x : Ext w H w3 H2) (hw : Holds H w) (hb : Below w.heap.size w3 w6) : Holds H w6 := ⟨fun b o e => (hb.block b (hw.lt e)).trans (h.at_ b o e)⟩

set_option maxRecDepth 100000 in
theorem nReadT_any (s : ByteArray) (H : Snap) (w : World) (hw : Holds H w) :
    Calls Tryz.prog 21 #[.string s] w (PostOE w H 9 (readA (bys s)).1 (readA (bys s)).2) := by
  have hp := nParse_any s H w hw
  cases hf : formA (bys s) with
  | none =>
    rw [readA_none hf]
    rw [hf] at hp
    replace hp := Lib.hid hp
    clear hf
    go_enter Tryz.func21, Tryz.ntmps21
    go_wp2_with (first | ((go_at_call 46; refine hp.out.mono ?_; rintro e w2 ⟨m0, a0, n0, c0, t0, rfl, hb2⟩)))
    go_ret2
    exact ⟨_, H, rfl, ((Ext.refl hw).step hb2 (hw.below hb2)).alloc _, Own.nil _ _ _ _⟩
  | some f =>
    obtain ⟨hm, hl, hrs, hall⟩ := formA_some hf
    rw [hf] at hp
    have hrd : ∀ (W : World) (H' : Snap) (v : Value), Holds H' W → Sl H' v f.l → Calls Tryz.prog 47 #[.agg #[.int .i64 (f.many : Int), v, .string (strB f.rest)]] W (ReadPost W H' (textsA f.many f.l (unsix f.rest))) := fun W H' v h1 h2 => nRead_any f.many hm f.l (by omega) (strB f.rest) (show f.rest.length ≤ 1500 by omega) hall v H' W h1 h2
    cases ht : textsA f.many f.l (unsix f.rest) with
    | none =>
      rw [readA_bits hf ht]
      rw [ht] at hrd
      replace hp := Lib.hid hp
      replace hrd := Lib.hid hrd
      clear hf ht hall hm hl hrs
      go_enter Tryz.func21, Tryz.ntmps21
      go_wp2_with (first | ((have hgd := x3; clear hgd; go_at_call 47; go_must (refine (hrd.out _ H2 _ x3.holds s2).mono ?_); rintro e w4 ⟨x, rfl, hb4⟩)) | ((go_at_call 46; refine hp.out.mono ?_; rintro e w2 ⟨v2, H2, rfl, x2, s2⟩; have x3 := x2.alloc (.cells #[.int .i64 (f.many : Int), v2, .string (strB f.rest)] 72); obtain ⟨a2, c2, rfl, _, _⟩ := s2.form; unfold formV)))
      go_ret2
      exact ⟨_, H, rfl, ⟨x3.below.trans (hb4.mono x3.below.size), (x3.old hw).below hb4, fun _ _ => rfl⟩, Own.nil _ _ _ _⟩
    | some out =>
      rw [ht] at hrd
      have hsz := textsA_sizes ht
      have hz : ∀ s ∈ out, s.size ≤ 1000000 := fun s hs => by
        have h1 := hsz.2 s hs
        rw [unsix_len] at h1
        omega
      obtain ⟨R, hR⟩ : ∃ R, R = readA (bys s) := ⟨_, rfl⟩
      rw [← hR]
      have hcs : (R = (out, 0) ∧ areE out = 0 ∧ fileR out = s) ∨ (R = ([], 142) ∧ (areE out ≠ 0 ∨ (areE out = 0 ∧ ¬ fileR out = s))) := by
        by_cases h0 : areE out = 0
        · have e : fileR out = strB (fileA out) := by unfold fileR; rw [if_pos h0]
          by_cases h1 : fileA out = bys s
          · exact .inl ⟨by rw [hR]; exact readA_yes hf ht ⟨h0, h1⟩, h0, by rw [e, h1]; rfl⟩
          · exact .inr ⟨by rw [hR]; exact readA_code hf ht (fun h => h1 h.2), .inr ⟨h0, fun h2 => h1 (by rw [← h2, e]; rfl)⟩⟩
        · exact .inr ⟨by rw [hR]; exact readA_code hf ht (fun h => h0 h.1), .inl h0⟩
      clear hR
      replace hz := Lib.hid hz
      replace hp := Lib.hid hp
      replace hrd := Lib.hid hrd
      clear hf ht hall hm hl hrs hsz
      have hwr : ∀ (v : Value) (H' : Snap) (W : World), Holds H' W → Sl H' v out → Calls Tryz.prog 8 #[v] W (PostV W (.tuple #[.string (fileR out), .int .i64 (areE out)])) := fun v H' W h1 h2 => nWrite_any v out H' W h1 h2 hz.out
      generalize fileR out = q at *
      generalize areE out = n at *
      replace hwr := Lib.hid hwr
      rcases hcs with ⟨rfl, rfl, rfl⟩ | ⟨rfl, hn⟩
      · go_enter Tryz.func21, Tryz.ntmps21
        go_wp2_with (first | ((have hgd := s5; clear hgd; go_at_call 8; go_must (refine (hwr.out _ H5 _ x5.holds s5).mono ?_); rintro e w6 ⟨rfl, hb6⟩; have hw6 := x4.holds.below hb6; have o6 := o4.ext x4.holds ⟨hb6, hw6, fun _ _ => rfl⟩; have x6 := (x3.trans x4).step (hb6.mono (x3.trans x4).below.size) hw6)) | ((have hgd := x3; clear hgd; go_at_call 47; go_must (refine (hrd.out _ H2 _ x3.holds s2).mono ?_); rintro e w4 ⟨v4, H4, rfl, x4, o4⟩; obtain ⟨H5, x5, _, s5, _⟩ := o4.close x4; obtain ⟨a4, c4, rfl, _, _⟩ := o4.form)) | ((go_at_call 46; refine hp.out.mono ?_; rintro e w2 ⟨v2, H2, rfl, x2, s2⟩; have x3 := x2.alloc (.cells #[.int .i64 (f.many : Int), v2, .string (strB f.rest)] 72); obtain ⟨a2, c2, rfl, _, _⟩ := s2.form; unfold formV)))
        go_ret2
        exact ⟨_, H4, rfl, x6, o6.weaken x3.below.size⟩
      · have fin : ∀ w6 w3 H2, Ext w H w3 H2 → Below w.heap.size w3 w6 → PostOE w H 9 ([] : List ByteArray) 142 (.returned (.tuple #[.slice none 0 0, .int .i64 142])) w6 := fun w6 w3 H2 x3 hb => ⟨_, H, rfl, ⟨x3.below.trans hb, (x3.old hw).below' x3 hw hb, fun _ _ => rfl⟩, Own.nil _ _ _ _⟩
        rcases hn with hn | ⟨rfl, hq⟩
        · have hn1 : (n == 0) = false := beq_eq_false_iff_ne.2 hn
          have hn2 : (n != 0) = true := bne_iff_ne.2 hn
          clear hn
          go_enter Tryz.func21, Tryz.ntmps21
          go_wp2_with (first | ((have hgd := s5; clear hgd; go_at_call 8; go_must (refine (hwr.out _ H5 _ x5.holds s5).mono ?_); rintro e w6 ⟨rfl, hb6⟩; have x6 := x4.below.trans (hb6.mono x4.below.size))) | ((have hgd := x3; clear hgd; go_at_call 47; go_must (refine (hrd.out _ H2 _ x3.holds s2).mono ?_); rintro e w4 ⟨v4, H4, rfl, x4, o4⟩; obtain ⟨H5, x5, _, s5, _⟩ := o4.close x4; obtain ⟨a4, c4, rfl, _, _⟩ := o4.form)) | ((go_at_call 46; refine hp.out.mono ?_; rintro e w2 ⟨v2, H2, rfl, x2, s2⟩; have x3 := x2.alloc (.cells #[.int .i64 (f.many : Int), v2, .string (strB f.rest)] 72); obtain ⟨a2, c2, rfl, _, _⟩ := s2.form; unfold formV)))
          go_ret2
          exact fin _ _ H2 x3 (x6.mono x3.below.size)
        · have hq1 := beq_bytes_ne hq
          have hq2 : (q != s) = true := by unfold bne; rw [hq1]; rfl
          have hq3 : (q.toList == s.toList) = false := by
            rw [ByteArray.toList_eq, ByteArray.toList_eq, beq_eq_false_iff_ne]
            exact fun e => hq (bytes_of_list e)
          clear hq
          go_enter Tryz.func21, Tryz.ntmps21
          go_wp2_with (first | ((have hgd := s5; clear hgd; go_at_call 8; go_must (refine (hwr.out _ H5 _ x5.holds s5).mono ?_); rintro e w6 ⟨rfl, hb6⟩; have x6 := x4.below.trans (hb6.mono x4.below.size))) | ((have hgd := x3; clear hgd; go_at_call 47; go_must (refine (hrd.out _ H2 _ x3.holds s2).mono ?_); rintro e w4 ⟨v4, H4, rfl, x4, o4⟩; obtain ⟨H5, x5, _, s5, _⟩ := o4.close x4; obtain ⟨a4, c4, rfl, _, _⟩ := o4.form)) | ((go_at_call 46; refine hp.out.mono ?_; rintro e w2 ⟨v2, H2, rfl, x2, s2⟩; have x3 := x2.alloc (.cells #[.int .i64 (f.many : Int), v2, .string (strB f.rest)] 72); obtain ⟨a2, c2, rfl, _, _⟩ := s2.form; unfold formV)))
          go_ret2
          exact fin _ _ H2 x3 (x6.mono x3.below.size)

def stateA (s : List UInt8) : Int := if (readA s).2 = 140 then 2 else if (readA s).2 = 141 then 3 else if (readA s).2 = 142 then 4 else 1
set_option maxRecDepth 100000 in
theorem nState_any (s : ByteArray) (H : Snap) (w : World) (hw : Holds H w) : Calls Tryz.prog 27 #[.string s] w (PostV w (.int .i64 (stateA (bys s)))) := by
  have hc := nReadT_any s H w hw
  unfold stateA
  rcases readA_err (bys s) with h | h | h | h
  all_goals
    rw [h] at hc ⊢
    generalize (readA (bys s)).1 = l at *
    clear h
    replace hc := Lib.hid hc
    go_enter Tryz.func27, Tryz.ntmps27
    go_wp2_with (first | ((go_at_call 21; refine hc.out.mono ?_; rintro e w2 ⟨v2, H2, rfl, x2, o2⟩)))
    go_ret
    exact ⟨rfl, x2.below⟩

end Go.Proofs.YthcfhmebikcfpaaGreatDoor

namespace Go.Proofs.YthcfhmebikcfpaaGreatDoor
open Go.RowKit
attribute [local go_sem] Holds.drew Holds.alloc Holds.drewN WB.holds Oper.semAt_some

theorem readA_nil {s : List UInt8} (h : (readA s).2 ≠ 0) : (readA s).1 = [] := by
  unfold readA at h ⊢
  split
  · rfl
  · rename_i f e
    rw [e] at h
    simp only [] at h
    split
    · rfl
    · rename_i o e2
      rw [e2] at h
      simp only [] at h
      split
      · rename_i g; rw [if_pos g] at h; exact absurd rfl h
      · rfl
end Go.Proofs.YthcfhmebikcfpaaGreatDoor

namespace Go.Proofs.YthcfhmebikcfpaaGreatDoor
open Go.RowKit
attribute [local go_sem] Holds.drew Holds.alloc Holds.drewN WB.holds Oper.semAt_some

def addR (s t : ByteArray) : ByteArray := if (readA (bys s)).2 = 0 then fileR ((readA (bys s)).1 ++ [t]) else ⟨#[]⟩
def addE (s t : ByteArray) : Int := if (readA (bys s)).2 = 0 then areE ((readA (bys s)).1 ++ [t]) else (readA (bys s)).2
set_option maxRecDepth 100000 in
theorem nAdd_any (s t : ByteArray) (ht : t.size ≤ 1000000) (H : Snap) (w : World) (hw : Holds H w) : Calls Tryz.prog 23 #[.string s, .string t] w (PostV w (.tuple #[.string (addR s t), .int .i64 (addE s t)])) := by
  have hc := nReadT_any s H w hw
  obtain ⟨hl, hsz⟩ := readA_sizes (s := bys s)
  by_cases h : (readA (bys s)).2 = 0
  · have e1 : addR s t = fileR ((readA (bys s)).1 ++ [t]) := by unfold addR; rw [if_pos h]
    have e2 : addE s t = areE ((readA (bys s)).1 ++ [t]) := by unfold addE; rw [if_pos h]
    rw [e1, e2]
    rw [h] at hc
    generalize (readA (bys s)).1 = l at *
    have hz : ∀ x ∈ l ++ [t], x.size ≤ 1000000 := fun x hx => by
      rcases List.mem_append.1 hx with hx | hx
      · have := hsz x hx; omega
      · rw [List.mem_singleton.1 hx]; exact ht
    have hwr : ∀ (v : Value) (H' : Snap) (W : World), Holds H' W → Sl H' v (l ++ [t]) → Calls Tryz.prog 8 #[v] W (PostV W (.tuple #[.string (fileR (l ++ [t])), .int .i64 (areE (l ++ [t]))])) := fun v H' W h1 h2 => nWrite_any v (l ++ [t]) H' W h1 h2 hz
    generalize fileR (l ++ [t]) = q at *
    generalize areE (l ++ [t]) = n at *
    have hrep : Enc.rep H t [.string t] := ⟨rfl, by omega⟩
    have hbS : (l.length + 1) * Enc.by_ ByteArray ≤ 140737488355328 := by simp only [Enc.by_]; omega
    have hb63 : l.length + 1 ≤ 9223372036854775807 := by omega
    clear e1 e2 h hsz hz hl ht
    replace hrep := Lib.hid hrep
    replace hbS := Lib.hid hbS
    replace hb63 := Lib.hid hb63
    replace hc := Lib.hid hc
    replace hwr := Lib.hid hwr
    go_enter Tryz.func23, Tryz.ntmps23
    go_wp2_with (first | ((have hgd := s4; clear hgd; go_at_call 8; go_must (refine (hwr.out _ H4 _ x4.holds s4).mono ?_); rintro e w6 ⟨rfl, hb6⟩)) | ((at_builtin; go_must (refine wpList_app1 (c := 1) (cs := [.string t]) eStr rfl _ _ rfl rfl o2 rfl ⟨rfl, hrep.out.2⟩ x2.holds hbS.out hb63.out x2.below.size ?_); intro v3 w3 o3 g3 hw3 _; have x3 := (x2.alloc _).grown g3 (fun k hk => (o2.lt k hk).1) (fun k hk => o2.free k hk); obtain ⟨H4, x4, _, s4, _⟩ := o3.close x3)) | ((go_at_call 21; refine hc.out.mono ?_; rintro e w2 ⟨v2, H2, rfl, x2, o2⟩; obtain ⟨a2, c2, rfl, _, _⟩ := o2.form)))
    go_ret2
    exact ⟨rfl, x4.below.trans (hb6.mono x4.below.size)⟩
  · have e1 : addR s t = ⟨#[]⟩ := by unfold addR; rw [if_neg h]
    have e2 : addE s t = (readA (bys s)).2 := by unfold addE; rw [if_neg h]
    rw [e1, e2]
    generalize (readA (bys s)).1 = l at *
    generalize (readA (bys s)).2 = n at *
    have hn1 : (n == 0) = false := beq_eq_false_iff_ne.2 h
    have hn2 : (n != 0) = true := bne_iff_ne.2 h
    clear e1 e2 h hsz hl
    replace hc := Lib.hid hc
    go_enter Tryz.func23, Tryz.ntmps23
    go_wp2_with (first | ((go_at_call 21; refine hc.out.mono ?_; rintro e w2 ⟨v2, H2, rfl, x2, o2⟩)))
    go_ret2
    exact ⟨rfl, x2.below⟩

end Go.Proofs.YthcfhmebikcfpaaGreatDoor

namespace Go.Proofs.YthcfhmebikcfpaaGreatDoor
open Go.RowKit
attribute [local go_sem] Holds.drew Holds.alloc Holds.drewN WB.holds Oper.semAt_some

def cutR (s : ByteArray) : ByteArray := if (readA (bys s)).2 = 0 then (if (readA (bys s)).1 = [] then ⟨#[]⟩ else fileR (readA (bys s)).1.dropLast) else ⟨#[]⟩
def cutE (s : ByteArray) : Int := if (readA (bys s)).2 = 0 then (if (readA (bys s)).1 = [] then 3 else areE (readA (bys s)).1.dropLast) else (readA (bys s)).2
set_option maxRecDepth 100000 in
set_option maxHeartbeats 1000000 in
theorem nCut_any (s : ByteArray) (H : Snap) (w : World) (hw : Holds H w) : Calls Tryz.prog 25 #[.string s] w (PostV w (.tuple #[.string (cutR s), .int .i64 (cutE s)])) := by
  have hc := nReadT_any s H w hw
  obtain ⟨hl, hsz⟩ := readA_sizes (s := bys s)
  by_cases h : (readA (bys s)).2 = 0
  · by_cases h0 : (readA (bys s)).1 = []
    · have e1 : cutR s = ⟨#[]⟩ := by unfold cutR; rw [if_pos h, if_pos h0]
      have e2 : cutE s = 3 := by unfold cutE; rw [if_pos h, if_pos h0]
      rw [e1, e2]
      rw [h, h0] at hc
      clear e1 e2 h h0 hsz hl
      replace hc := Lib.hid hc
      go_enter Tryz.func25, Tryz.ntmps25
      go_wp2_with (first | ((go_at_call 21; refine hc.out.mono ?_; rintro e w2 ⟨v2, H2, rfl, x2, o2⟩; obtain ⟨a2, c2, rfl, _, _⟩ := o2.form)))
      go_ret2
      exact ⟨rfl, x2.below⟩
    · have e1 : cutR s = fileR (readA (bys s)).1.dropLast := by unfold cutR; rw [if_pos h, if_neg h0]
      have e2 : cutE s = areE (readA (bys s)).1.dropLast := by unfold cutE; rw [if_pos h, if_neg h0]
      rw [e1, e2]
      rw [h] at hc
      generalize (readA (bys s)).1 = l at *
      obtain ⟨k, hk⟩ : ∃ k, l.length = k + 1 := ⟨l.length - 1, by cases l with | nil => exact absurd rfl h0 | cons => simp⟩
      have hdl : l.dropLast = l.take k := by rw [List.dropLast_eq_take, hk]; rfl
      rw [hdl]
      have hz : ∀ x ∈ l.take k, x.size ≤ 1000000 := fun x hx => by have := hsz x (List.mem_of_mem_take hx); omega
      have hwr : ∀ (v : Value) (H' : Snap) (W : World), Holds H' W → Sl H' v (l.take k) → Calls Tryz.prog 8 #[v] W (PostV W (.tuple #[.string (fileR (l.take k)), .int .i64 (areE (l.take k))])) := fun v H' W h1 h2 => nWrite_any v (l.take k) H' W h1 h2 hz
      have hcut : ∀ (H' : Snap) (a : Option Addr) (c : Nat), Sl H' (.slice a l.length c) l → Sl H' (.slice a k c) (l.take k) := fun H' a c hs => hs.take (by omega)
      have hlc : l.length ≤ 20 := hl
      obtain ⟨N, hN⟩ : ∃ N, N = l.length := ⟨_, rfl⟩
      have hw1 : wrap64 ((N : Int) - 1) = (k : Int) := by rw [show (N : Int) - 1 = (k : Int) by omega]; exact wrap64_in _ (by omega) (by omega)
      have hl0 : ¬ N = 0 := by omega
      have hl1 : ((N : Int) == 0) = false := beq_eq_false_iff_ne.2 (by omega)
      have hkl : k ≤ N := by omega
      have hk0 : (0 : Int) ≤ (k : Int) := by omega
      rw [← hN] at hcut
      generalize fileR (l.take k) = q at *
      generalize areE (l.take k) = n at *
      clear e1 e2 h h0 hsz hl hz hdl hk hlc
      replace hN := Lib.hid hN
      replace hcut := Lib.hid hcut
      replace hkl := Lib.hid hkl
      replace hc := Lib.hid hc
      replace hwr := Lib.hid hwr
      go_enter Tryz.func25, Tryz.ntmps25
      go_upto_region 6 with (first | (go_at_call 21; refine hc.out.mono ?_; rintro e w2 ⟨v2, H2, rfl, x2, o2⟩; obtain ⟨H4, x4, _, s4, _⟩ := o2.close x2; obtain ⟨a2, c2, hv2, hlc, _⟩ := o2.form; rw [← hN.out] at hv2 hlc; subst hv2; have hkc : (k : Int) ≤ (c2 : Int) := Int.ofNat_le.2 (Nat.le_trans hkl.out hlc)))
      clear hl0 hl1 hlc x2 o2
      go_wp2_with (first | ((have hgd := s4; clear hgd; go_at_call 8; go_must (refine (hwr.out _ H4 _ x4.holds (hcut.out _ _ _ s4)).mono ?_); rintro e w6 ⟨rfl, hb6⟩)))
      go_ret2
      exact ⟨rfl, x4.below.trans (hb6.mono x4.below.size)⟩
  · have e1 : cutR s = ⟨#[]⟩ := by unfold cutR; rw [if_neg h]
    have e2 : cutE s = (readA (bys s)).2 := by unfold cutE; rw [if_neg h]
    rw [e1, e2]
    generalize (readA (bys s)).1 = l at *
    generalize (readA (bys s)).2 = n at *
    have hn1 : (n == 0) = false := beq_eq_false_iff_ne.2 h
    have hn2 : (n != 0) = true := bne_iff_ne.2 h
    clear e1 e2 h hsz hl
    replace hc := Lib.hid hc
    go_enter Tryz.func25, Tryz.ntmps25
    go_wp2_with (first | ((go_at_call 21; refine hc.out.mono ?_; rintro e w2 ⟨v2, H2, rfl, x2, o2⟩)))
    go_ret2
    exact ⟨rfl, x2.below⟩
end Go.Proofs.YthcfhmebikcfpaaGreatDoor

namespace Go.Proofs.YthcfhmebikcfpaaGreatDoor
open Go.RowKit
def exA : ByteArray := ⟨#[97, 97, 98]⟩
def exB : ByteArray := ⟨#[97]⟩
def exT : List ByteArray := [exA, exB]
def exL : List Pr := [⟨10, 2⟩, ⟨97, 1⟩, ⟨98, 2⟩]
def exF1 : ByteArray := ⟨#[48, 50, 48, 50, 10, 65, 97, 65, 111]⟩
def exF2 : ByteArray := ⟨#[48, 49, 48, 50, 10, 65, 97, 65, 103]⟩
def exF3 : ByteArray := ⟨#[48, 49, 48, 50, 10, 65, 97, 65, 65]⟩
theorem ex_are : areE exT = 0 := by decide +kernel
theorem ex_lens : lensR exT = exL := by decide +kernel
theorem ex_bits : bitsR exT = 9 := by decide +kernel
theorem ex_codeR : codeR exL 98 = ⟨#[49, 49]⟩ := by decide +kernel
theorem ex_codeE : codeE exL 98 = 0 := by decide +kernel
theorem ex_file : fileR exT = ⟨#[48, 50, 48, 51, 10, 66, 97, 65, 98, 66, 79, 81]⟩ := by decide +kernel
theorem ex_read : readA (bys exF1) = ([exB, exB], 0) := by decide +kernel
theorem ex_addR : addR exF2 exB = exF1 := by decide +kernel
theorem ex_addE : addE exF2 exB = 0 := by decide +kernel
theorem ex_state : stateA (bys exF3) = 4 := by decide +kernel
end Go.Proofs.YthcfhmebikcfpaaGreatDoor

namespace Go.Proofs.YthcfhmebikcfpaaGreatDoor
open Go.RowKit
attribute [local go_sem] Holds.drew Holds.alloc Holds.drewN WB.holds Oper.semAt_some

theorem lit_str2 {w0 w : World} {H0 H : Snap} (x : Ext w0 H0 w H) (a b : ByteArray) (ha : a.size ≤ 1000) (hb : b.size ≤ 1000) :
    ∃ H2, SLe H H2 ∧ Ext w0 H0 (w.alloc (.cells #[.string a, .string b] 9)) H2 ∧ Sl H2 (.slice (some ⟨w.heap.size, 0, none⟩) 2 2) [a, b] :=
  Ext.lit (xs := [a, b]) (cs := [.string a, .string b]) x ⟨[.string a], [.string b], rfl, show Enc.rep H a [.string a] from ⟨rfl, by omega⟩, [.string b], [], rfl, show Enc.rep H b [.string b] from ⟨rfl, by omega⟩, rfl⟩ _ (by simp [Enc.by_]) (by simp)
theorem lit_pr3 {w0 w : World} {H0 H : Snap} (x : Ext w0 H0 w H) :
    ∃ H2, SLe H H2 ∧ Ext w0 H0 (w.alloc (.cells #[.int .i64 10, .int .i64 2, .int .i64 97, .int .i64 1, .int .i64 98, .int .i64 2] 47)) H2 ∧ Sl H2 (.slice (some ⟨w.heap.size, 0, none⟩) 3 3) exL :=
  Ext.lit (xs := exL) (cs := [.int .i64 10, .int .i64 2, .int .i64 97, .int .i64 1, .int .i64 98, .int .i64 2]) x
    ⟨[.int .i64 10, .int .i64 2], [.int .i64 97, .int .i64 1, .int .i64 98, .int .i64 2], rfl, show Enc.rep H (⟨10, 2⟩ : Pr) _ from ⟨rfl, ⟨by decide, by decide⟩, ⟨by decide, by decide⟩⟩, [.int .i64 97, .int .i64 1], [.int .i64 98, .int .i64 2], rfl, show Enc.rep H (⟨97, 1⟩ : Pr) _ from ⟨rfl, ⟨by decide, by decide⟩, ⟨by decide, by decide⟩⟩, [.int .i64 98, .int .i64 2], [], rfl, show Enc.rep H (⟨98, 2⟩ : Pr) _ from ⟨rfl, ⟨by decide, by decide⟩, ⟨by decide, by decide⟩⟩, rfl⟩ _ (by simp [exL, Enc.by_]) (by simp [exL])

set_option maxRecDepth 100000 in
set_option maxHeartbeats 2000000 in
theorem works14_any (H : Snap) (w : World) (hw : Holds H w) : Calls Tryz.prog 7 #[] w (PostV w (.bool true)) := by
  have hz : ∀ s ∈ exT, s.size ≤ 1000000 := by decide
  have cLen : ∀ (v : Value) (H' : Snap) (W : World), Holds H' W → Sl H' v exT → Calls Tryz.prog 13 #[v] W (PostOE W H' 47 exL 0) := fun v H' W h1 h2 => by
    have := nLengths_any v exT H' W h1 h2 hz
    rw [ex_are, ex_lens] at this
    exact this
  have cBit : ∀ (v : Value) (H' : Snap) (W : World), Holds H' W → Sl H' v exT → Calls Tryz.prog 17 #[v] W (PostV W (.tuple #[.int .i64 9, .int .i64 0])) := fun v H' W h1 h2 => by
    have := nBitsT_any v exT H' W h1 h2 hz
    rw [ex_are, ex_bits] at this
    exact this
  have cCod : ∀ (v : Value) (H' : Snap) (W : World), Holds H' W → Sl H' v exL → Calls Tryz.prog 29 #[v, .int .i64 98] W (PostV W (.tuple #[.string ⟨#[49, 49]⟩, .int .i64 0])) := fun v H' W h1 h2 => by
    have := nCode_any v exL (by decide) 98 H' W h1 h2
    rw [ex_codeR, ex_codeE] at this
    exact this
  have cWri : ∀ (v : Value) (H' : Snap) (W : World), Holds H' W → Sl H' v exT → Calls Tryz.prog 8 #[v] W (PostV W (.tuple #[.string ⟨#[48, 50, 48, 51, 10, 66, 97, 65, 98, 66, 79, 81]⟩, .int .i64 0])) := fun v H' W h1 h2 => by
    have := nWrite_any v exT H' W h1 h2 hz
    rw [ex_are, ex_file] at this
    exact this
  have cRea : ∀ (H' : Snap) (W : World), Holds H' W → Calls Tryz.prog 21 #[.string exF1] W (PostOE W H' 9 [exB, exB] 0) := fun H' W h1 => by
    have := nReadT_any exF1 H' W h1
    rw [ex_read] at this
    exact this
  have cAdd : ∀ (H' : Snap) (W : World), Holds H' W → Calls Tryz.prog 23 #[.string exF2, .string exB] W (PostV W (.tuple #[.string ⟨#[48, 50, 48, 50, 10, 65, 97, 65, 111]⟩, .int .i64 0])) := fun H' W h1 => by
    have := nAdd_any exF2 exB (by decide) H' W h1
    rw [ex_addR, ex_addE] at this
    exact this
  have cSta : ∀ (H' : Snap) (W : World), Holds H' W → Calls Tryz.prog 27 #[.string exF3] W (PostV W (.int .i64 4)) := fun H' W h1 => by
    have := nState_any exF3 H' W h1
    rw [ex_state] at this
    exact this
  have cSaL : ∀ (u v : Value) (H' : Snap) (W : World), Holds H' W → Sl H' u exL → Sl H' v exL → Calls Tryz.prog 16 #[u, v] W (PostV W (.bool true)) := fun u v H' W h1 h2 h3 => by
    have := sameLengths_any u v exL exL H' W h1 h2 h3
    rw [decide_eq_true rfl] at this
    exact this
  have cSaT : ∀ (u v : Value) (H' : Snap) (W : World), Holds H' W → Sl H' u [exB, exB] → Sl H' v [exB, exB] → Calls Tryz.prog 10 #[u, v] W (PostV W (.bool true)) := fun u v H' W h1 h2 h3 => by
    have := sameTexts_any u v [exB, exB] [exB, exB] H' W h1 h2 h3
    rw [decide_eq_true rfl] at this
    exact this
  replace cLen := Lib.hid cLen
  replace cBit := Lib.hid cBit
  replace cCod := Lib.hid cCod
  replace cWri := Lib.hid cWri
  replace cRea := Lib.hid cRea
  replace cAdd := Lib.hid cAdd
  replace cSta := Lib.hid cSta
  replace cSaL := Lib.hid cSaL
  replace cSaT := Lib.hid cSaT
  clear hz
  go_enter Tryz.func7, Tryz.ntmps7
  go_upto_region 2 with (go_at_call 13; obtain ⟨H1, _, x1, s1⟩ := lit_str2 (Ext.refl hw) exA exB (by decide) (by decide); go_must (refine (cLen.out _ H1 _ x1.holds s1).mono ?_); rintro e w2 ⟨v2, H2, rfl, y2, o2⟩; obtain ⟨H3, y3, _, sL, _⟩ := o2.close y2; obtain ⟨aL, cL, rfl, _, _⟩ := o2.form; have x3 := x1.trans y3)
  clear x1 s1 y2 o2 y3
  go_upto_region 3 with (go_at_call 17; obtain ⟨H4, l4, x4, s4⟩ := lit_str2 x3 exA exB (by decide) (by decide); go_must (refine (cBit.out _ H4 _ x4.holds s4).mono ?_); rintro e w4 ⟨rfl, hb4⟩; have x5 := x4.step (hb4.mono x4.below.size) (x4.holds.below hb4); have sL5 := sL.mono l4)
  clear x3 x4 s4 hb4 sL l4
  go_upto_region 4 with (go_at_call 29; obtain ⟨H6, l6, x6, s6⟩ := lit_pr3 x5; go_must (refine (cCod.out _ H6 _ x6.holds s6).mono ?_); rintro e w6 ⟨rfl, hb6⟩; have x7 := x6.step (hb6.mono x6.below.size) (x6.holds.below hb6); have sL7 := sL5.mono l6)
  clear x5 x6 s6 hb6 sL5 l6
  go_upto_region 5 with (go_at_call 8; obtain ⟨H8, l8, x8, s8⟩ := lit_str2 x7 exA exB (by decide) (by decide); go_must (refine (cWri.out _ H8 _ x8.holds s8).mono ?_); rintro e w8 ⟨rfl, hb8⟩; have x9 := x8.step (hb8.mono x8.below.size) (x8.holds.below hb8); have sL9 := sL7.mono l8)
  clear x7 x8 s8 hb8 sL7 l8
  go_upto_region 6 with (go_at_call 21; go_must (refine (cRea.out _ _ x9.holds).mono ?_); rintro e w10 ⟨v10, H10, rfl, y10, o10⟩; obtain ⟨H11, y11, _, sT, _⟩ := o10.close y10; obtain ⟨aT, cT, rfl, _, _⟩ := o10.form; have x11 := x9.trans y11; have sL11 := sL9.mono (y11.le x9.holds))
  clear x9 sL9 y10 o10 y11
  go_upto_region 7 with (go_at_call 23; go_must (refine (cAdd.out _ _ x11.holds).mono ?_); rintro e w12 ⟨rfl, hb12⟩; have x12 := x11.step (hb12.mono x11.below.size) (x11.holds.below hb12))
  clear x11 hb12
  go_wp2_with (first | ((have hgd := x16; clear hgd; go_at_call 27; go_must (refine (cSta.out _ _ x16.holds).mono ?_); rintro e w17 ⟨rfl, hb17⟩)) | ((have hgd := x14; clear hgd; go_at_call 10; obtain ⟨H15, l15, x15, s15⟩ := lit_str2 x14 exB exB (by decide) (by decide); go_must (refine (cSaT.out _ _ H15 _ x15.holds (sT.mono (fun b o h => l15 b o (l13 b o h))) s15).mono ?_); rintro e w16 ⟨rfl, hb16⟩; have x16 := x15.step (hb16.mono x15.below.size) (x15.holds.below hb16))) | ((go_at_call 16; obtain ⟨H13, l13, x13, s13⟩ := lit_pr3 x12; go_must (refine (cSaL.out _ _ H13 _ x13.holds (sL11.mono l13) s13).mono ?_); rintro e w14 ⟨rfl, hb14⟩; have x14 := x13.step (hb14.mono x13.below.size) (x13.holds.below hb14))))
  go_ret
  exact ⟨rfl, x16.below.trans (hb17.mono x16.below.size)⟩
end Go.Proofs.YthcfhmebikcfpaaGreatDoor

namespace Go.Proofs.YthcfhmebikcfpaaGreatDoor
open Go.RowKit

attribute [local go_sem] Holds.drew Holds.alloc Holds.drewN WB.holds Oper.semAt_some

def ownA (l : List Pr) (s o : Int) : Int := l.foldl (fun o p => if p.s = s then p.n else o) o
theorem ownA_cons (p : Pr) (l : List Pr) (s o : Int) : ownA (p :: l) s o = ownA l s (if p.s = s then p.n else o) := rfl
def bitsOfA (l : List Pr) : List UInt8 → Int
  | [] => 0
  | x :: m => ownA l x.toNat 1000000 + bitsOfA l m
theorem bitsOfA_snoc (l : List Pr) (x : UInt8) : ∀ m : List UInt8, bitsOfA l (m ++ [x]) = bitsOfA l m + ownA l x.toNat 1000000
  | [] => by simp [bitsOfA]
  | y :: m => by
    have := bitsOfA_snoc l x m
    rw [List.cons_append]
    unfold bitsOfA
    rw [this]; omega
theorem ownA_bd : ∀ {l : List Pr} {s o : Int}, Bits15 l → 0 ≤ o ∧ o ≤ 1000000 → 0 ≤ ownA l s o ∧ ownA l s o ≤ 1000000
  | [], _, _, _, h => h
  | p :: l, s, o, hb, h => by
    rw [ownA_cons]
    refine ownA_bd (fun q hq => hb q (by simp [hq])) ?_
    have := hb p (by simp)
    split <;> omega
theorem bitsOfA_bd {l : List Pr} (hb : Bits15 l) : ∀ m : List UInt8, 0 ≤ bitsOfA l m ∧ bitsOfA l m ≤ 1000000 * m.length
  | [] => by simp [bitsOfA]
  | x :: m => by
    have h1 := bitsOfA_bd hb m
    have h2 := ownA_bd (s := x.toNat) (o := 1000000) hb (by omega)
    unfold bitsOfA
    rw [List.length_cons]
    omega
set_option maxRecDepth 100000 in
set_option maxHeartbeats 1000000 in
theorem bitsOf14_any (s : ByteArray) (hsz : s.size ≤ 100000) (v : Value) (l : List Pr) (hl : l.length ≤ 1000) (h15 : Bits15 l) (H : Snap) (w : World) (hw : Holds H w) (hs : Sl H v l) :
    Calls Tryz.prog 45 #[.string s, v] w (PostV w (.int .i64 (bitsOfA l (bys s)))) := by
  obtain ⟨a, c, rfl, _, _⟩ := hs.form
  go_enter Tryz.func45, Tryz.ntmps45
  go_wp2
  go_loopw [5, 6] (fun nv i wr => ∃ k : Nat, k ≤ s.size ∧ i = .int .i64 (k : Int) ∧ nv = .int .i64 (bitsOfA l ((bys s).take k)) ∧ Ext w H wr H) (fun _ i _ => s.size - (intOf i).toNat)
  case atStart => exact ⟨0, Nat.zero_le _, rfl, rfl, Ext.refl hw⟩
  case round =>
    obtain ⟨k, hk, rfl, rfl, xr⟩ := hrel
    by_cases hlk : k < s.size
    · obtain ⟨x, hx⟩ := At.mk (show k < (bys s).length from hlk)
      have hk0 : (0 : Int) ≤ (k : Int) := by omega
      have hk1 : (k : Int) < (s.size : Int) := by omega
      have hsk : s[k] = x := by
        have h1 : (bys s)[k]? = some x := hx
        rw [List.getElem?_eq_getElem (show k < (bys s).length from hlk)] at h1
        exact Option.some.inj h1
      have hxl : x.toNat < 256 := x.toNat_lt
      have hwx : wrap64 (x.toNat : Int) = (x.toNat : Int) := wrap64_in _ (by omega) (by omega)
      have hwk : wrap64 ((k : Int) + 1) = (k : Int) + 1 := wrap64_in _ (by omega) (by omega)
      have hsn := bitsOfA_snoc l x ((bys s).take k)
      rw [← hx.take] at hsn
      have hbd := bitsOfA_bd h15 ((bys s).take k)
      rw [List.length_take, bys_len] at hbd
      have hob := ownA_bd (s := (x.toNat : Int)) (o := 1000000) h15 (by omega)
      have hsum : wrap64 (bitsOfA l ((bys s).take k) + ownA l (x.toNat : Int) 1000000) = bitsOfA l ((bys s).take (k + 1)) := by rw [hsn]; exact wrap64_in _ (by omega) (by omega)
      replace hsum := Lib.hid hsum
      clear hsn hbd hob
      generalize bitsOfA l ((bys s).take k) = n at *
      go_wp2_with fail
      go_loopw [7, 8] (fun ow j wq => ∃ (t : Nat) (o : Int), t ≤ l.length ∧ j = .int .i64 (t : Int) ∧ ow = .int .i64 o ∧ Hid (ownA (l.drop t) (x.toNat : Int) o = ownA l (x.toNat : Int) 1000000) ∧ Ext w H wq H) (fun _ j _ => l.length - (intOf j).toNat)
      case atStart => exact ⟨0, 1000000, Nat.zero_le _, rfl, rfl, rfl, xr⟩
      case round =>
        obtain ⟨t, o, ht, rfl, rfl, hown, xq⟩ := hrel
        have hwq := xq.holds
        by_cases hlt : t < l.length
        · obtain ⟨p, hp⟩ := At.mk hlt
          obtain ⟨b, o', c', he, ⟨i1, i2⟩, hr1, hr2⟩ := hs.pr hp
          cases he
          have hd : l.drop t = p :: l.drop (t + 1) := by
            rw [List.drop_eq_getElem_cons hlt]
            congr 1
            have := hp; unfold At at this; rw [List.getElem?_eq_getElem hlt] at this; exact Option.some.inj this
          have ho2 := hown.out
          rw [hd, ownA_cons] at ho2
          have ht0 : (0 : Int) ≤ (t : Int) := by omega
          have ht1 : (t : Int) < (l.length : Int) := by omega
          clear hd hown
          by_cases hps : p.s = (x.toNat : Int)
          · have hb1 : (p.s == (x.toNat : Int)) = true := by rw [beq_iff_eq]; exact hps
            rw [if_pos hps] at ho2
            replace ho2 := Lib.hid ho2
            clear hps
            go_upto_region 9 with fail
            refine wp_region_quietB H (by kernel_rfl) (by kernel_rfl) hwq (fun hne => ?_)
            repeat go_big_quiet_step ((first | fail))
            refine wpQuiet_nil ?_
            rintro ⟨w2, hw2, hb2⟩
            clear hne
            have xq2 := xq.step (hb2.mono xq.below.size) hw2
            go_wp2_with fail
            go_roundw
            case rel => exact ⟨t + 1, p.n, by omega, by go_num, rfl, ho2, xq2⟩
            case measure => simp [intOf]; omega
          · have hb1 : (p.s == (x.toNat : Int)) = false := by rw [beq_eq_false_iff_ne]; exact hps
            rw [if_neg hps] at ho2
            replace ho2 := Lib.hid ho2
            clear hps
            go_upto_region 9 with fail
            refine wp_region_quietB H (by kernel_rfl) (by kernel_rfl) hwq (fun hne => ?_)
            repeat go_big_quiet_step ((first | fail))
            refine wpQuiet_nil ?_
            rintro ⟨w2, hw2, hb2⟩
            clear hne
            have xq2 := xq.step (hb2.mono xq.below.size) hw2
            go_wp2_with fail
            go_roundw
            case rel => exact ⟨t + 1, o, by omega, by go_num, rfl, ho2, xq2⟩
            case measure => simp [intOf]; omega
        · have ho3 := hown.out
          rw [List.drop_of_length_le (by omega)] at ho3
          have ho4 : o = ownA l (x.toNat : Int) 1000000 := ho3
          clear ho3 hown
          subst ho4
          go_wp2_with fail
          go_roundw
          case rel => exact ⟨k + 1, by omega, by go_num, by rw [← hsum.out], xq⟩
          case measure => simp [intOf]; omega
    · have hall : (bys s).take k = bys s := List.take_of_length_le (by rw [bys_len]; omega)
      rw [hall]
      go_wp2_with fail
      go_ret
      exact ⟨rfl, xr.below⟩
end Go.Proofs.YthcfhmebikcfpaaGreatDoor

namespace Go.Proofs.YthcfhmebikcfpaaGreatDoor

/-- The bits that are put for a symbol by the first so many lengths. -/
def codeTo (l : List Pr) (s : Int) (t : Nat) : List UInt8 := (List.range t).flatMap fun k => if symI l k = s then codeAt l k else []
theorem codeTo_succ (l : List Pr) (s : Int) (t : Nat) : codeTo l s (t + 1) = codeTo l s t ++ (if symI l t = s then codeAt l t else []) := by
  unfold codeTo; rw [List.range_succ, List.flatMap_append]; simp
theorem rise_ne {l : List Pr} (h : (l.map Pr.s).Pairwise (· < ·)) {i k : Nat} {p : Pr} (hp : At l k p) (hi : i < l.length) (e : symI l i = p.s) : i = k := by
  obtain ⟨q, hq⟩ := At.mk hi
  rw [symI_at hq] at e
  have hk := hp.lt
  have h1 := at_get hp
  have h2 := at_get hq
  rcases Nat.lt_trichotomy i k with g | g | g
  · have := List.pairwise_iff_getElem.1 h i k (by simpa using hi) (by simpa using hk) g
    rw [List.getElem_map, List.getElem_map, h1, h2] at this; omega
  · exact g
  · have := List.pairwise_iff_getElem.1 h k i (by simpa using hk) (by simpa using hi) g
    rw [List.getElem_map, List.getElem_map, h1, h2] at this; omega
theorem codeTo_one {l : List Pr} (h : (l.map Pr.s).Pairwise (· < ·)) {k : Nat} {p : Pr} (hp : At l k p) : ∀ t, t ≤ l.length → codeTo l p.s t = if k < t then codeAt l k else []
  | 0, _ => by simp [codeTo]
  | t + 1, ht => by
    have ih := codeTo_one h hp t (by omega)
    rw [codeTo_succ, ih]
    by_cases e : symI l t = p.s
    · have : t = k := rise_ne h hp (by omega) e
      subst this
      rw [if_pos e, if_neg (by omega), if_pos (by omega), List.nil_append]
    · have : t ≠ k := fun g => e (by rw [g, symI_at hp])
      rw [if_neg e, List.append_nil]
      by_cases g : k < t
      · rw [if_pos g, if_pos (by omega)]
      · rw [if_neg g, if_neg (by omega)]
theorem codeTo_none {l : List Pr} {s : Int} : ∀ t, (∀ k, k < t → symI l k ≠ s) → codeTo l s t = []
  | 0, _ => by simp [codeTo]
  | t + 1, h => by rw [codeTo_succ, codeTo_none t (fun k hk => h k (by omega)), if_neg (h t (by omega)), List.nil_append]
theorem codeTo_all {l : List Pr} (h : (l.map Pr.s).Pairwise (· < ·)) (s : Int) : codeTo l s l.length = codeOf l s := by
  by_cases g : ∃ k, k < l.length ∧ symI l k = s
  · obtain ⟨k, hk, e⟩ := g
    obtain ⟨p, hp⟩ := At.mk hk
    rw [symI_at hp] at e
    subst e
    rw [codeTo_one h hp _ (Nat.le_refl _), if_pos hk, codeOf_at h hp]
  · rw [codeTo_none _ fun k hk e => g ⟨k, hk, e⟩]
    unfold codeOf
    rw [findS_none fun p hp e => ?_]
    obtain ⟨k, hk, e2⟩ := List.mem_iff_getElem.1 hp
    refine g ⟨k, hk, ?_⟩
    have : At l k p := by unfold At; rw [List.getElem?_eq_getElem hk, e2]
    rw [symI_at this, e]
theorem codeTo_len {l : List Pr} (h : (l.map Pr.s).Pairwise (· < ·)) (h15 : Bits15 l) (s : Int) {t : Nat} (ht : t ≤ l.length) : (codeTo l s t).length ≤ 15 := by
  by_cases g : ∃ k, k < t ∧ symI l k = s
  · obtain ⟨k, hk, e⟩ := g
    obtain ⟨p, hp⟩ := At.mk (show k < l.length by omega)
    rw [symI_at hp] at e
    subst e
    rw [codeTo_one h hp _ ht, if_pos hk, codeAt_len]
    exact (h15.at (by omega)).2
  · rw [codeTo_none _ fun k hk e => g ⟨k, hk, e⟩]; exact Nat.zero_le _
theorem codeOf_len15 {l : List Pr} (h : (l.map Pr.s).Pairwise (· < ·)) (h15 : Bits15 l) (s : Int) : (codeOf l s).length ≤ 15 := by
  rw [← codeTo_all h]; exact codeTo_len h h15 s (Nat.le_refl _)
theorem bitsA_bd {l : List Pr} (h : (l.map Pr.s).Pairwise (· < ·)) (h15 : Bits15 l) : ∀ m : List UInt8, (bitsA l m).length ≤ 15 * m.length
  | [] => by simp [bitsA]
  | b :: m => by
    have ih := bitsA_bd h h15 m
    have := codeOf_len15 h h15 (b.toNat : Int)
    unfold bitsA at *
    rw [List.flatMap_cons, List.length_append, List.length_cons]
    omega

/-! ### How many bits -/

theorem ownA_none {l : List Pr} {s o : Int} (h : ∀ p ∈ l, p.s ≠ s) : ownA l s o = o := by
  induction l generalizing o with
  | nil => rfl
  | cons p l ih =>
    rw [ownA_cons, if_neg (h p (by simp))]
    exact ih fun q hq => h q (by simp [hq])
theorem ownA_one {l : List Pr} (h : (l.map Pr.s).Pairwise (· < ·)) {p : Pr} (hp : p ∈ l) : ∀ o, ownA l p.s o = p.n := by
  induction l with
  | nil => cases hp
  | cons q l ih =>
    intro o
    rw [List.map_cons, List.pairwise_cons] at h
    rw [ownA_cons]
    rcases List.mem_cons.1 hp with rfl | hp
    · rw [if_pos rfl]
      refine ownA_none fun x hx e => ?_
      have := h.1 _ (List.mem_map.2 ⟨x, hx, rfl⟩)
      omega
    · exact ih h.2 hp _
theorem bitsOf_len {l : List Pr} (h : (l.map Pr.s).Pairwise (· < ·)) (h15 : Bits15 l) : ∀ m : List UInt8, (∀ b ∈ m, ∃ k n, At l k ⟨(b.toNat : Int), n⟩) → bitsOfA l m = ((bitsA l m).length : Int)
  | [], _ => rfl
  | b :: m, hm => by
    have ih := bitsOf_len h h15 m fun x hx => hm x (by simp [hx])
    obtain ⟨k, n, hp⟩ := hm b (by simp)
    have h1 := ownA_one h hp.mem 1000000
    have h2 : (codeOf l (b.toNat : Int)).length = n.toNat := by rw [codeOf_at h hp, codeAt_len, bitsN_at hp]
    have h3 := (h15 _ hp.mem).1
    have e : bitsA l (b :: m) = codeOf l (b.toNat : Int) ++ bitsA l m := rfl
    rw [e, List.length_append, h2]
    show ownA l (b.toNat : Int) 1000000 + bitsOfA l m = _
    simp only at h1 h3
    rw [h1, ih]
    omega
theorem bitsOf_lens {m : List UInt8} (h : Fair m) : bitsOfA (lensA m) m = ((bitsA (lensA m) m).length : Int) :=
  bitsOf_len (lens_code h).rise h.b15 m fun b hb => by
    obtain ⟨k, _, _, n, hn⟩ := find_lens hb
    exact ⟨k, n, hn⟩

/-! ### Zeros behind the bits -/

theorem oneAt_zeros (bits : List UInt8) (z i : Nat) : oneAt (bits ++ List.replicate z 48) i = oneAt bits i := by
  unfold oneAt
  by_cases h : i < bits.length
  · rw [List.getElem?_append_left h]
  · rw [List.getElem?_append_right (by omega), List.getElem?_eq_none (l := bits) (by omega), List.getElem?_replicate]
    by_cases g : i - bits.length < z
    · rw [if_pos g]; decide
    · rw [if_neg g]
theorem valK_congr {a b : List UInt8} : ∀ {k : Nat}, (∀ i, i < k → oneAt a i = oneAt b i) → valK a k = valK b k
  | 0, _ => rfl
  | k + 1, h => by unfold valK; rw [valK_congr fun i hi => h i (by omega), h k (by omega)]
theorem oneAt_chunk (bits : List UInt8) (k i : Nat) (hi : i < 6) : oneAt (chunk bits k) i = oneAt bits (6 * k + i) := by
  unfold oneAt chunk; rw [List.getElem?_take, if_pos hi, List.getElem?_drop]
theorem letAt_zeros (bits : List UInt8) (z k : Nat) : letAt (bits ++ List.replicate z 48) k = letAt bits k := by
  unfold letAt
  congr 1
  refine valK_congr fun i hi => ?_
  rw [oneAt_chunk _ _ _ hi, oneAt_chunk _ _ _ hi, oneAt_zeros]
/-- How many zeros fill the last letter. -/
def fillZ (n : Nat) : Nat := 6 * six n - n
theorem fillZ_all (n : Nat) : n + fillZ n = 6 * six n := by have := six_le n; unfold fillZ; omega
theorem sixes_zeros (bits : List UInt8) (z : Nat) (n : Nat) : sixesTo (bits ++ List.replicate z 48) n = sixesTo bits n := by
  unfold sixesTo; exact List.map_congr_left fun k _ => letAt_zeros bits z k
theorem letAt_val (bits : List UInt8) (k : Nat) : letAt bits k = letB (valK (bits.drop (6 * k)) 6) := by
  unfold letAt
  congr 1
  exact valK_congr fun i hi => by unfold oneAt chunk; rw [List.getElem?_take, if_pos hi]
end Go.Proofs.YthcfhmebikcfpaaGreatDoor

namespace Go.Proofs.YthcfhmebikcfpaaGreatDoor
open Go.RowKit

attribute [local go_sem] Holds.drew Holds.alloc Holds.drewN WB.holds Oper.semAt_some

/-- What LengthsOf does. -/
def LenC : Prop := ∀ (s : ByteArray), Fair (bys s) → ∀ (H : Snap) (W : World), Holds H W → Calls Tryz.prog 44 #[.string s] W (PostO W H 47 (lensA (bys s)))
theorem bys_at {s : ByteArray} {j : Nat} {x : UInt8} (h : j < s.size) (hx : At (bys s) j x) : s[j]'h = x := by
  have h1 : (bys s)[j]? = some x := hx
  rw [List.getElem?_eq_getElem (show j < (bys s).length from h)] at h1
  exact Option.some.inj h1
theorem strB_add (a b : List UInt8) : strB (a ++ b) = strB a ++ strB b := by
  apply ByteArray.ext
  apply Array.ext'
  simp [strB]
theorem strB_len (a : List UInt8) : (strB a).size = a.length := rfl

set_option maxRecDepth 100000 in
set_option maxHeartbeats 2000000 in
theorem bitsof14_any (hL : LenC) (s : ByteArray) (F : Fair (bys s)) (H : Snap) (w : World) (hw : Holds H w) :
    Calls Tryz.prog 58 #[.string s] w (PostV w (.string (strB (bitsA (lensA (bys s)) (bys s))))) := by
  have C := lens_code F
  have h15 := F.b15
  have hl : (lensA (bys s)).length ≤ 96 := by rw [lensA_len]; exact wts_few F.1
  have hc := hL s F H w hw
  have hsz : s.size ≤ 986 := by rw [← bys_len]; exact F.2
  generalize lensA (bys s) = ls at *
  have hr := C.rise
  replace hc := Lib.hid hc
  clear F hL C
  go_enter Tryz.func58, Tryz.ntmps58
  go_upto_region 3 with (first
    | (have hgd := s3; clear hgd; go_at_call 79; go_must (refine (codesOf14_any _ ls (by omega) h15 H3 _ x3.holds s3).mono ?_); rintro e w4 ⟨v4, H4, rfl, x4, o4⟩; obtain ⟨H5, x5, l45, s5, _⟩ := o4.close x4)
    | (go_at_call 44; refine hc.out.mono ?_; rintro e w2 ⟨v2, H2, rfl, x2, o2⟩; obtain ⟨H3, x3, _, s3, _⟩ := o2.close x2; obtain ⟨a2, c2, rfl, _, _⟩ := o2.form))
  have x6 := x3.trans x5
  have s4 := s3.mono (x5.le x3.holds)
  obtain ⟨a4, c4, e4, _, _⟩ := s5.form
  rw [codesA_len] at e4
  subst e4
  clear x2 o2 hc x4 o4 l45 x3 x5 s3
  go_wp2
  go_loopw [5, 6] (fun ov i wr => ∃ k : Nat, k ≤ s.size ∧ i = .int .i64 (k : Int) ∧ ov = .string (strB (bitsA ls ((bys s).take k))) ∧ Ext w H wr H5) (fun _ i _ => s.size - (intOf i).toNat)
  case atStart => exact ⟨0, Nat.zero_le _, rfl, rfl, x6⟩
  case round =>
    obtain ⟨k, hk, rfl, rfl, xr⟩ := hrel
    have hk0 : (0 : Int) ≤ (k : Int) := by omega
    by_cases hlk : k < s.size
    · obtain ⟨x, hx⟩ := At.mk (show k < (bys s).length from hlk)
      have hk1 : (k : Int) < (s.size : Int) := by omega
      have hsk := bys_at hlk hx
      have hxl : x.toNat < 256 := x.toNat_lt
      have hwx : wrap64 (x.toNat : Int) = (x.toNat : Int) := wrap64_in _ (by omega) (by omega)
      have hnx : bitsA ls ((bys s).take (k + 1)) = bitsA ls ((bys s).take k) ++ codeTo ls (x.toNat : Int) ls.length := by rw [hx.take, bitsA_snoc, codeTo_all hr]
      have hbl : (bitsA ls ((bys s).take k)).length ≤ 14790 := by
        have := bitsA_bd hr h15 ((bys s).take k)
        rw [List.length_take, bys_len] at this
        omega
      generalize bitsA ls ((bys s).take k) = U at *
      replace hnx := Lib.hid hnx
      replace hbl := Lib.hid hbl
      clear hxl hx
      go_wp2
      go_loopw [5, 7] (fun ov j wq => ∃ t : Nat, t ≤ ls.length ∧ j = .int .i64 (t : Int) ∧ ov = .string (strB (U ++ codeTo ls (x.toNat : Int) t)) ∧ Ext w H wq H5) (fun _ j _ => ls.length - (intOf j).toNat)
      case atStart => exact ⟨0, Nat.zero_le _, rfl, by show _ = Value.string (strB (U ++ [])); rw [List.append_nil], xr⟩
      case round =>
        clear xr
        obtain ⟨t, ht, rfl, rfl, xq⟩ := hrel
        have hwq := xq.holds
        have ht0 : (0 : Int) ≤ (t : Int) := by omega
        by_cases hlt : t < ls.length
        · obtain ⟨p, hp⟩ := At.mk hlt
          obtain ⟨b, o, c', he, ⟨i1, i2⟩, r1, r2⟩ := s4.pr hp
          cases he
          have ht1 : (t : Int) < (ls.length : Int) := by omega
          have hsc := codeTo_succ ls (x.toNat : Int) t
          rw [symI_at hp] at hsc
          by_cases hpx : p.s = (x.toNat : Int)
          · rw [if_pos hpx] at hsc
            have hb1 : (p.s == (x.toNat : Int)) = true := by rw [beq_iff_eq]; exact hpx
            have hat : At (codesA ls) t (strB (codeAt ls t)) := by
              show (codesA ls)[t]? = _
              unfold codesA
              rw [List.getElem?_map, List.getElem?_range hlt]; rfl
            obtain ⟨b4, o4, c4', he, hi4, hr4⟩ := s5.str hat
            rw [codesA_len] at he
            cases he
            have happ : strB (U ++ codeTo ls (x.toNat : Int) t) ++ strB (codeAt ls t) = strB (U ++ codeTo ls (x.toNat : Int) (t + 1)) := (strB_add _ _).symm.trans (congrArg strB (by rw [hsc, List.append_assoc]))
            have hbd : ¬ 9223372036854775807 < (strB (U ++ codeTo ls (x.toNat : Int) t)).size + (strB (codeAt ls t)).size := by
              rw [strB_len, strB_len, List.length_append, codeAt_len]
              have := hbl.out
              have := codeTo_len hr h15 (x.toNat : Int) ht
              have := (h15.at hlt).2
              omega
            generalize strB (U ++ codeTo ls (x.toNat : Int) t) = q1 at *
            generalize strB (codeAt ls t) = q2 at *
            replace happ := Lib.hid happ
            clear hpx hsc hp hat
            go_upto_region 10 with fail
            refine wp_region_quietB H5 (by kernel_rfl) (by kernel_rfl) hwq (fun hne => ?_)
            repeat go_big_quiet_step ((first | fail))
            refine wpQuiet_nil ?_
            rintro ⟨w2, hw2, hb2⟩
            clear hne
            go_wp2_with fail
            go_roundw
            case rel => exact ⟨t + 1, by omega, by go_num, congrArg Value.string happ.out, xq.step (hb2.mono xq.below.size) hw2⟩
            case measure => simp [intOf]; omega
          · rw [if_neg hpx, List.append_nil] at hsc
            have hb1 : (p.s == (x.toNat : Int)) = false := by rw [beq_eq_false_iff_ne]; exact hpx
            rw [← hsc]
            clear hpx hsc hp
            go_upto_region 10 with fail
            refine wp_region_quietB H5 (by kernel_rfl) (by kernel_rfl) hwq (fun hne => ?_)
            repeat go_big_quiet_step ((first | fail))
            refine wpQuiet_nil ?_
            rintro ⟨w2, hw2, hb2⟩
            clear hne
            go_wp2_with fail
            go_roundw
            case rel => exact ⟨t + 1, by omega, by go_num, rfl, xq.step (hb2.mono xq.below.size) hw2⟩
            case measure => simp [intOf]; omega
        · have : t = ls.length := by omega
          subst this
          rw [← hnx.out]
          go_wp2_with fail
          go_roundw
          case rel => exact ⟨k + 1, by omega, by go_num, rfl, xq⟩
          case measure => simp [intOf]; omega
    · have hall : (bys s).take k = bys s := List.take_of_length_le (by rw [bys_len]; omega)
      rw [hall]
      go_wp2
      go_ret
      exact ⟨rfl, xr.below⟩
end Go.Proofs.YthcfhmebikcfpaaGreatDoor

namespace Go.Proofs.YthcfhmebikcfpaaGreatDoor
open Go.RowKit

attribute [local go_sem] Holds.drew Holds.alloc Holds.drewN WB.holds Oper.semAt_some

def digS (n : Nat) : ByteArray := strB [(48 + n).toUInt8]
theorem digS_ten {n : Nat} (hn : n ≤ 9) : ByteArray.extract ⟨#[48, 49, 50, 51, 52, 53, 54, 55, 56, 57]⟩ n (n + 1) = digS n := by
  have : n = 0 ∨ n = 1 ∨ n = 2 ∨ n = 3 ∨ n = 4 ∨ n = 5 ∨ n = 6 ∨ n = 7 ∨ n = 8 ∨ n = 9 := by omega
  rcases this with rfl | rfl | rfl | rfl | rfl | rfl | rfl | rfl | rfl | rfl <;> rfl
set_option maxRecDepth 100000 in
theorem text12_digit (n : Nat) (hn : n ≤ 9) (w : World) : Calls Tryz.prog 84 #[.int .i64 (n : Int)] w (PostV w (.string (digS n))) := by
  have h0 : ¬ (n : Int) < 0 := by omega
  have h0' : (0 : Int) ≤ (n : Int) := by omega
  have h1 : (n : Int) < 10 := by omega
  have hw1 : wrap64 ((n : Int) + 1) = (n : Int) + 1 := wrap64_in _ (by omega) (by omega)
  have h2 : (n : Int) ≤ (n : Int) + 1 := by omega
  have h3 : (n : Int) + 1 ≤ 10 := by omega
  have hn1 : ((n : Int) + 1).toNat = n + 1 := by omega
  rw [← digS_ten hn]
  go_enter Tryz.func84, Tryz.ntmps84
  go_wp2
  go_ret
  exact ⟨rfl, Below.refl _ _⟩
theorem digS_size (n : Nat) : (digS n).size = 1 := rfl
theorem twoB_split (n : Nat) : strB (twoB n) = digS (n / 10) ++ digS (n % 10) := rfl
set_option maxRecDepth 100000 in
theorem two14_any (n : Nat) (hn : n ≤ 99) (w : World) : Calls Tryz.prog 57 #[.int .i64 (n : Int)] w (PostV w (.string (strB (twoB n)))) := by
  have hq : Int.tdiv (n : Int) 10 = ((n / 10 : Nat) : Int) := rfl
  have hr : Int.tmod (n : Int) 10 = ((n % 10 : Nat) : Int) := rfl
  obtain ⟨s1, e1, hs1, h1⟩ : ∃ s, digS (n / 10) = s ∧ s.size = 1 ∧ ∀ W : World, Calls Tryz.prog 84 #[.int .i64 ((n / 10 : Nat) : Int)] W (PostV W (.string s)) := ⟨_, rfl, digS_size _, fun W => text12_digit (n / 10) (by omega) W⟩
  obtain ⟨s2, e2, hs2, h2⟩ : ∃ s, digS (n % 10) = s ∧ s.size = 1 ∧ ∀ W : World, Calls Tryz.prog 84 #[.int .i64 ((n % 10 : Nat) : Int)] W (PostV W (.string s)) := ⟨_, rfl, digS_size _, fun W => text12_digit (n % 10) (by omega) W⟩
  rw [twoB_split, e1, e2]
  clear e1 e2
  have hq9 : n / 10 ≤ 9 := by omega
  have hr9 : n % 10 ≤ 9 := by omega
  generalize n / 10 = q at *
  generalize n % 10 = r at *
  have hb : ¬ 9223372036854775807 < s1.size + s2.size := by omega
  replace h1 := Lib.hid h1
  replace h2 := Lib.hid h2
  replace hs1 := Lib.hid hs1
  replace hs2 := Lib.hid hs2
  go_enter Tryz.func57, Tryz.ntmps57
  go_wp2_with (first | ((have hgd := b1; clear hgd; go_at_call 84; refine (h2.out _).mono ?_; rintro e w3 ⟨rfl, hb3⟩; have b2 := b1.trans (hb3.mono b1.size))) | ((go_at_call 84; refine (h1.out _).mono ?_; rintro e w2 ⟨rfl, b1⟩)))
  go_ret
  exact ⟨rfl, b2⟩
end Go.Proofs.YthcfhmebikcfpaaGreatDoor

namespace Go.Proofs.YthcfhmebikcfpaaGreatDoor
open Go.RowKit

/-- The fence that lets all in, in a round or not. -/
def FW (r : Option Nat) : Fence := { fn := fun _ => True, depth := none, alive := false, round := r }
theorem FW_none : FW none = Fence.wide := rfl
theorem FW_some (l : Nat) : FW (some l) = Fence.wide.inRound l := rfl
theorem Calls.wide {r : Option Nat} {n : Nat} {P : Program} {f : FuncId} {args : Array Value} {w : World} {R : Ending → World → Prop} (h : Calls P f args w R) : CallsIn (FW r) n P f args w R :=
  (callsIn_wide (n := n)).2 h
theorem FW_depth {r : Option Nat} {n : Nat} : (FW r).depth.isSome = true → 1 ≤ n := fun h => by cases h

section
variable {P : Program} {ops : Array Oper} {md : Region.Mode} {C : World → Prop} {r : Option Nat} {k : Nat}

/-- No 'defer' among the operations. -/
def noDefer (ops : Array Oper) : Bool := ops.toList.all fun o => match o.op with | .defer _ => false | _ => true
theorem noDefer_spec (h : noDefer ops = true) {i : Nat} {o : Oper} (hi : ops[i]? = some o) (c : Call) : o.op ≠ .defer c := by
  intro e
  have := List.all_eq_true.1 h o (by simpa using Array.mem_of_getElem? hi)
  rw [e] at this; cases this

theorem wpIn_of_quietF {o : Oper} {a : Act} {K : Act → Prop} {K' : Act → World → Prop} {Q' : Exit → Act → World → Prop} {w : World} (hnd : ∀ c, o.op ≠ .defer c) (hw : C w) (h : ∀ a w', C w' → K a → K' a w')
    (hh : o.quiet P a C K) : o.wpIn (FW r) k P a w K' Q' := by
  obtain ⟨v, h1, h2⟩ := hh
  have h3 := h1 w hw
  unfold Oper.quietAt at h3
  unfold Oper.wpIn
  refine ⟨fun _ _ => trivial, ?_⟩
  rw [Oper.semAt_eq _ _ _ hnd]
  generalize (execOp a.eval o).run P w = res at *
  cases res with
  | ok x w' =>
    cases x <;> simp only [Oper.quietUpon] at h3 <;> simp only [Oper.uponIn]
    case value u => obtain ⟨e1, e2⟩ := h3; rw [e1, e2]; exact h _ _ hw h2
    case skip => obtain ⟨e1, e2⟩ := h3; rw [e1, ← e2]; exact h _ _ hw h2
    case enter f args =>
      obtain ⟨e1, hc⟩ := h3
      rw [e1]
      exact ⟨FW_depth, (Calls.wide hc).mono fun e w'' ⟨he, hw''⟩ => by subst he; exact h _ _ hw'' h2⟩
  | halt x w' => simp only [Oper.quietUpon] at h3

theorem wpOpIn_of_qOpF {i : Nat} {a : Act} {K : Act → Prop} {K' : Act → World → Prop} {Q' : Exit → Act → World → Prop} {w : World} (hnd : noDefer ops = true) (hC : C w) (h : ∀ a w', C w' → K a → K' a w')
    (hh : qOp P ops C i K a) : wpOpIn (FW r) k P ops Q' i K' a w := by
  unfold qOp at hh
  unfold wpOpIn
  split
  · rename_i ho; simp only [ho] at hh; exact h _ _ hC hh
  · rename_i o ho
    simp only [ho] at hh
    split
    · rename_i hw; simp only [hw, if_true] at hh; exact wpIn_of_quietF (noDefer_spec hnd ho) hC h hh
    · rename_i hw; simp only [hw] at hh; exact ⟨fun _ _ => trivial, h _ _ hC hh⟩

/-- All operations are quiet. -/
theorem wpAnyIn_of_wpAnyQ {Q : Act → Prop} {Q' : Exit → Act → World → Prop} (hnd : noDefer ops = true) (hQ : ∀ a w, C w → Q a → Q' .normal a w) : ∀ (fuel : Nat) (listed : Array Bool) (a : Act) (w : World), C w →
    wpAnyQ P md ops C Q fuel listed a → wpAnyIn (FW r) k P md ops Q' fuel listed a w
  | 0, _, _, _, hw, h => ⟨h.1, hQ _ _ hw h.2⟩
  | fuel + 1, _, _, _, hw, h => ⟨fun h0 => hQ _ _ hw (h.1 h0), fun i hi => wpOpIn_of_qOpF hnd hw (fun a' w' hw' => wpAnyIn_of_wpAnyQ hnd hQ fuel _ a' w' hw') (h.2 i hi)⟩

theorem wpIn_region_q {id : Nat} {Q : Exit → Act → World → Prop} {a : Act} {w : World} {l : List Oper} (hm : P.follows .mixedOrders = true) (hB : Region.lexB .any l.toArray = true) (hnd : noDefer l.toArray = true) (hC : C w.drew)
    (h : wpQuiet P l.toArray C (fun a' => ∀ w', C w' → Q .normal a' w') l a) : (Code.region id l.toArray true).wpIn (FW r) k P Q a w := by
  simp only [Region.lexB, Bool.and_eq_true] at hB
  refine wpIn_region_any hm (wpAnyIn_of_wpAnyQ (Q := fun a' => ∀ w', C w' → Q .normal a' w') hnd (fun _ w' hw' h => h w' hw') _ _ _ _ hC ?_)
  have := wpAnyQ_lex (C := C) (md := .any) hB.1 l 0 (Array.replicate l.toArray.size false) a (by simp) (by simpa using hB.2) h
  simpa using this

/-! #### A head that is quiet, and a tail in the text's order -/

/-- Whatever order the first n come up in; then L. -/
def hdQ (P : Program) (md : Region.Mode) (ops : Array Oper) (C : World → Prop) (n : Nat) (L : Array Bool → Act → Prop) : Nat → Array Bool → Act → Prop
  | 0, listed, a => L listed a
  | f + 1, listed, a => Region.ready md ops listed ≠ [] ∧ ∀ i ∈ Region.ready md ops listed, i < n ∧ qOp P ops C i (hdQ P md ops C n L f (listed.setIfInBounds i true)) a

theorem wpAnyIn_of_hdQ {n g : Nat} {L : Array Bool → Act → Prop} {Q' : Exit → Act → World → Prop} (hnd : noDefer ops = true) (hL : ∀ listed a w, C w → L listed a → wpAnyIn (FW r) k P md ops Q' g listed a w) :
    ∀ (f : Nat) (listed : Array Bool) (a : Act) (w : World), C w → hdQ P md ops C n L f listed a → wpAnyIn (FW r) k P md ops Q' (f + g) listed a w
  | 0, listed, a, w, hC, h => by rw [Nat.zero_add]; exact hL _ _ _ hC h
  | f + 1, listed, a, w, hC, h => by
    rw [show f + 1 + g = (f + g) + 1 by omega]
    exact ⟨fun h0 => absurd h0 h.1, fun i hi => wpOpIn_of_qOpF hnd hC (fun a' w' hw' h' => wpAnyIn_of_hdQ hnd hL f _ a' w' hw' h') (h.2 i hi).2⟩

theorem hdQ_first {n i : Nat} {oi : Oper} {v : Value} {L : Array Bool → Act → Prop} (hi : ops[i]? = some oi) (hsel : ∀ (j : Nat) (o : Oper) cs b, ops[j]? = some o → o.op ≠ .select cs b)
    (hs : Region.sinkB md ops n = true) (hc : Region.chainB md ops n = true) (hn : n < ops.size) (hin : i < n) (hdone : ∀ listed a, L listed a → ∀ j ∈ Region.ready md ops listed, n ≤ j) :
    ∀ (f : Nat) (listed : Array Bool) (a : Act), HeadInv md ops n listed →
      (∀ j oj, ops[j]? = some oj → j ≠ i → listed.getD j true = false → (∀ e ∈ oj.after, Region.binds md e = true → e.on ≠ i) → oi.apart ops oj = true) →
      i ∈ Region.ready md ops listed → YieldsIn P ops C oi v a →
      hdQ P md ops C n L f (listed.setIfInBounds i true) (a.put oi.dst v) → hdQ P md ops C n L (f + 1) listed a := by
  intro f
  induction f with
  | zero =>
    intro listed a inv _ hr hy H
    have hun := (mem_ready.1 hr).1
    refine ⟨fun h => (by rw [h] at hr; cases hr), fun j hj => ?_⟩
    have hjn : j < n := Nat.lt_of_not_le fun h => tail_waits hs hc hn inv _ i rfl hin hun j h hj
    refine ⟨hjn, ?_⟩
    by_cases hji : j = i
    · subst hji; exact hy.qOp hi H
    · have := hdone _ _ H j (ready_mono hj hji); omega
  | succ f ih =>
    intro listed a inv hfree hr hy H
    have hun := (mem_ready.1 hr).1
    refine ⟨fun h => (by rw [h] at hr; cases hr), fun j hj => ?_⟩
    have hjn : j < n := Nat.lt_of_not_le fun h => tail_waits hs hc hn inv _ i rfl hin hun j h hj
    refine ⟨hjn, ?_⟩
    by_cases hji : j = i
    · subst hji; exact hy.qOp hi H
    · obtain ⟨hjun, oj, hoj, hall⟩ := mem_ready.1 hj
      have hnot : ∀ e ∈ oj.after, Region.binds md e = true → e.on ≠ i := fun e he hb heq => by
        have := hall e he hb
        rw [heq, getD_both hun] at this; cases this
      have h2 := qOp_put hoj (hfree j oj hoj hji hjun hnot) (fun cs b => hsel i oi cs b hi) (fun cs b => hsel j oj cs b hoj) hy (H.2 j (ready_mono hj hji)).2
      refine qOp_mono (fun a' h3 => ih (listed.setIfInBounds j true) a' (inv.set hj hjn) (fun q oq hq hqi hqun hno => hfree q oq hq hqi ?_ hno) (ready_mono hr (Ne.symm hji)) h3.1 ?_) h2
      · by_cases hjq : j = q
        · subst hjq; exact hjun
        · rw [getD_set_ne true hjq] at hqun; exact hqun
      · rw [Array.setIfInBounds_comm _ _ hji]; exact h3.2

theorem hdQ_lex {n g : Nat} {Lq : Act → Prop} (hsel : Region.noSelect ops = true) (hs : Region.sinkB md ops n = true) (hc : Region.chainB md ops n = true) (hn : n < ops.size) :
    ∀ (l : List Oper) (j : Nat) (listed : Array Bool) (a : Act), (∀ i, i < l.length → l[i]? = ops[j + i]?) → j + l.length = n → HeadInv md ops n listed →
    Region.lexHead md ops g l.length j listed = true → wpQuiet P ops C Lq l a →
    hdQ P md ops C n (fun listed' a' => Region.seqB md ops g n listed' = true ∧ Lq a') l.length listed a
  | [], j, listed, a, _, hk, _, hB, h => by
    have : j = n := by simpa using hk
    subst this
    exact ⟨by simpa [Region.lexHead] using hB, h⟩
  | o :: l, j, listed, a, hl, hk, inv, hB, h => by
    have h0 : ops[j]? = some o := by simpa using (hl 0 (by simp)).symm
    simp only [List.length_cons, Region.lexHead, Bool.and_eq_true] at hB hk
    obtain ⟨⟨hr, hf⟩, hB'⟩ := hB
    have hkn : j < n := by omega
    have hr' : j ∈ Region.ready md ops listed := by simpa using hr
    obtain ⟨v, hy, hK⟩ := yieldsIn_of_qOp (C := C) (K := wpQuiet P ops C Lq l) h0 (by unfold qOp; simp only [h0]; exact h)
    exact hdQ_first h0 (Region.noSelect_spec hsel) hs hc hn hkn (fun listed' a' hL => seqB_ready hL.1) l.length listed a inv (Region.free_spec h0 hf) hr' hy
      (hdQ_lex hsel hs hc hn l (j + 1) _ _ (fun i hi => by have := hl (i + 1) (by simp; omega); simpa [Nat.add_assoc, Nat.add_comm 1 i] using this) (by omega) (inv.set hr' hkn) hB' hK)

theorem wpAnyIn_of_seq {Q' : Exit → Act → World → Prop} : ∀ (l : List Oper) (j : Nat) (listed : Array Bool) (a : Act) (w : World), (∀ i, l[i]? = ops[j + i]?) →
    Region.seqB md ops l.length j listed = true → wpListIn (FW r) k P ops Q' l a w → wpAnyIn (FW r) k P md ops Q' l.length listed a w
  | [], _, _, _, _, _, hB, h => ⟨by simpa [Region.seqB] using hB, h⟩
  | o :: l, j, listed, a, w, hl, hB, h => by
    have h0 : ops[j]? = some o := by simpa using (hl 0).symm
    simp only [List.length_cons, Region.seqB, Bool.and_eq_true, decide_eq_true_eq] at hB
    refine ⟨fun h1 => (by rw [hB.1] at h1; cases h1), fun i hi => ?_⟩
    rw [hB.1] at hi
    obtain rfl : i = j := by simpa using hi
    have hw : wpOpIn (FW r) k P ops Q' i (wpListIn (FW r) k P ops Q' l) a w := by unfold wpOpIn; simp only [h0]; exact h
    exact wpOpIn_mono (fun a' w' h' => wpAnyIn_of_seq l (i + 1) _ a' w' (fun q => by have := hl (q + 1); simpa [Nat.add_assoc, Nat.add_comm 1 q] using this) hB.2 h') hw

theorem wpIn_region_qtail {id : Nat} {Q : Exit → Act → World → Prop} {a : Act} {w : World} {l : List Oper} (n : Nat) (hm : P.follows .mixedOrders = true) (hB : Region.lexTailB .any l.toArray n = true) (hnd : noDefer l.toArray = true) (hC : C w.drew)
    (h : wpQuiet P l.toArray C (fun a' => ∀ w', C w' → wpListIn (FW r) k P l.toArray Q (l.drop n) a' w') (l.take n) a) : (Code.region id l.toArray true).wpIn (FW r) k P Q a w := by
  simp only [Region.lexTailB, Bool.and_eq_true, decide_eq_true_eq] at hB
  obtain ⟨⟨⟨⟨hsel, hn⟩, hs⟩, hc⟩, hlex⟩ := hB
  have hn' : n < l.length := by simpa using hn
  have htl : (l.take n).length = n := by simp; omega
  have hdl : (l.drop n).length = l.toArray.size - n := by simp
  have inv0 : HeadInv .any l.toArray n (Array.replicate l.toArray.size false) :=
    ⟨by simp, fun j oj _ hl => (by rw [getD_replicate_false] at hl; cases hl), fun t _ ht => getD_in (by simpa using ht) (getD_replicate_false _ _)⟩
  have H := hdQ_lex (md := .any) (g := l.toArray.size - n) hsel hs hc hn (l.take n) 0 _ a (fun j hj => by
    have hj' : j < n := by rw [htl] at hj; exact hj
    simp [hj']) (by simpa using htl) inv0 (by rw [htl]; exact hlex) h
  refine wpIn_region_any hm ?_
  have := wpAnyIn_of_hdQ (r := r) (k := k) (Q' := Q) (g := l.toArray.size - n) hnd (fun listed a' w' hC' hL => by
    have := wpAnyIn_of_seq (r := r) (k := k) (md := .any) (Q' := Q) (l.drop n) n listed a' w' (fun j => by simp [List.getElem?_drop]) (by rw [hdl]; exact hL.1) (hL.2 w' hC')
    rwa [hdl] at this) _ _ _ w.drew hC H
  rw [htl, show n + (l.toArray.size - n) = l.toArray.size by omega] at this
  exact this
end

end Go.Proofs.YthcfhmebikcfpaaGreatDoor

namespace Go.Proofs.YthcfhmebikcfpaaGreatDoor
open Go.RowKit

/-- From (W, H) to (W', H'): what H holds, from block n0 on, may turn (and what is no cells); cells that H does not hold lie as they lay, and are not taken in; below n0 nothing turns. -/
structure Turn (n0 : Nat) (W : World) (H : Snap) (W' : World) (H' : Snap) : Prop where
  below : Below n0 W W'
  keep : ∀ b cs t fr, W.heap[b]? = some (.cells cs t fr) → H b = none → W'.heap[b]? = some (.cells cs t fr) ∧ H' b = none
  same : ∀ b, b < n0 → H' b = H b
  holds : Holds H' W'

theorem Turn.refl {n0 : Nat} {W : World} {H : Snap} (h : Holds H W) : Turn n0 W H W H := ⟨Below.refl _ _, fun _ _ _ _ e h => ⟨e, h⟩, fun _ _ => rfl, h⟩
theorem Turn.trans {n0 : Nat} {A B C : World} {H H' H'' : Snap} (h : Turn n0 A H B H') (k : Turn n0 B H' C H'') : Turn n0 A H C H'' :=
  ⟨h.below.trans k.below, fun b cs t fr e hn => let ⟨e1, h1⟩ := h.keep b cs t fr e hn; k.keep b cs t fr e1 h1, fun b hb => (k.same b hb).trans (h.same b hb), k.holds⟩
theorem Turn.mono {n0 n1 : Nat} {W W' : World} {H H' : Snap} (h : Turn n1 W H W' H') (hn : n0 ≤ n1) : Turn n0 W H W' H' :=
  ⟨h.below.mono hn, h.keep, fun b hb => h.same b (Nat.lt_of_lt_of_le hb hn), h.holds⟩
theorem Turn.drew {n0 : Nat} {W W' : World} {H H' : Snap} (h : Turn n0 W H W' H') : Turn n0 W H W'.drew H' := ⟨h.below.drew, h.keep, h.same, h.holds.drew⟩
/-- A step that leaves all that was there; the snapshot stays. -/
theorem Turn.ext {n0 : Nat} {W W' : World} {H : Snap} (h : Holds H W) (hb : Below W.heap.size W W') (hn : n0 ≤ W.heap.size) : Turn n0 W H W' H :=
  ⟨hb.mono hn, fun b _cs _t _fr e hh => ⟨(hb.block b (Array.getElem?_eq_some_iff.1 e).1).trans e, hh⟩, fun _ _ => rfl, h.below hb⟩
/-- One block turns: it is H's, or new. -/
theorem Turn.at {n0 b : Nat} {W W' : World} {H : Snap} {o : Obj} (h : Holds H W) (hn : n0 ≤ b) (hin : H b ≠ none ∨ W.heap.size ≤ b ∨ ∃ o' : Obj, W.heap[b]? = some o' ∧ o'.isCells = false)
    (hB : Below n0 W W') (hoth : ∀ k, k < W.heap.size → k ≠ b → W'.heap[k]? = W.heap[k]?) (hat : W'.heap[b]? = some o) : Turn n0 W H W' (H.put b o) := by
  refine ⟨hB, fun k cs t fr e hk => ?_, fun k hk => Snap.put_other _ _ (by omega), ⟨fun k o' ek => ?_⟩⟩
  · have hlt := (Array.getElem?_eq_some_iff.1 e).1
    have hne : k ≠ b := by
      rintro rfl
      rcases hin with hin | hin | ⟨o', ho, hc⟩
      · exact hin hk
      · omega
      · rw [e] at ho; cases ho; cases hc
    exact ⟨(hoth k hlt hne).trans e, by rw [Snap.put_other _ _ hne]; exact hk⟩
  · by_cases hkb : k = b
    · subst hkb; rw [Snap.put_same] at ek; cases ek; exact hat
    · rw [Snap.put_other _ _ hkb] at ek
      exact (hoth k (h.lt ek) hkb).trans (h.at_ _ _ ek)

/-- The caller's word bears the turns of a function that began at n0. -/
def Abides {β : Type} (n0 : Nat) (J : Snap → β → World → Prop) : Prop := ∀ H s W H' W', J H s W → Holds H W → Turn n0 W H W' H' → J H' s W'

theorem Abides.mono {β : Type} {n0 n1 : Nat} {J : Snap → β → World → Prop} (h : Abides n0 J) (hn : n0 ≤ n1) : Abides n1 J := fun H s W H' W' hj hh ht => h H s W H' W' hj hh (ht.mono hn)
theorem Abides.and {β : Type} {n0 : Nat} {J K : Snap → β → World → Prop} (h : Abides n0 J) (k : Abides n0 K) : Abides n0 (fun H s W => J H s W ∧ K H s W) := fun H s W H' W' hj hh ht => ⟨h H s W H' W' hj.1 hh ht, k H s W H' W' hj.2 hh ht⟩
theorem Abides.pure {β : Type} {n0 : Nat} (p : β → Prop) : Abides n0 (fun _ (s : β) _ => p s) := fun _ _ _ _ _ hj _ _ => hj
theorem Turn.of_ext {n0 : Nat} {w0 W W' : World} {H0 H H' : Snap} (h : Ext w0 H0 W H) (ht : Turn n0 W H W' H') (hn : w0.heap.size ≤ n0) : Ext w0 H0 W' H' :=
  ⟨h.below.trans (ht.below.mono hn), ht.holds, fun b hb => (ht.same b (by omega)).trans (h.same b hb)⟩

/-- A variable of the call's own, of one cell. -/
structure Cell (H : Snap) (W : World) (base B : Nat) (t : TypeId) (v : Value) : Prop where
  at_ : W.heap[B]? = some (.cells #[v] t (0, 0))
  free : H B = none
  base : base ≤ B
section
variable {H H' : Snap} {W W' : World} {base B n0 : Nat} {t : TypeId} {v : Value}
theorem Cell.lt (h : Cell H W base B t v) : B < W.heap.size := (Array.getElem?_eq_some_iff.1 h.at_).1
theorem Cell.cell (h : Cell H W base B t v) : W.cell? ⟨B, 0, none⟩ = some v := by simp [World.cell?, h.at_]
theorem Cell.fz (h : Cell H W base B t v) : W.frozen? ⟨B, 0, none⟩ = false := by simp [World.frozen?, h.at_]
theorem Cell.turn (h : Cell H W base B t v) (ht : Turn n0 W H W' H') : Cell H' W' base B t v :=
  let ⟨e, hn⟩ := ht.keep _ _ _ _ h.at_ h.free; ⟨e, hn, h.base⟩
theorem Cell.set (h : Cell H W base B t v) (u : Value) : Cell H (W.setCell ⟨B, 0, none⟩ u) base B t u :=
  ⟨by have := heap_setCell_row (i := 0) h.at_ u; simpa using this, h.free, h.base⟩
theorem Cell.other (h : Cell H W base B t v) {a : Addr} (ha : a.block ≠ B) (u : Value) : Cell H (W.setCell a u) base B t v :=
  ⟨(Below.heap_setCell _ _ _ _ (Ne.symm ha)).trans h.at_, h.free, h.base⟩
theorem Cell.drew (h : Cell H W base B t v) : Cell H W.drew base B t v := ⟨h.at_, h.free, h.base⟩
theorem Cell.alloc (h : Cell H W base B t v) (o : Obj) : Cell H (W.alloc o) base B t v := ⟨(heap_alloc_old W o h.lt).trans h.at_, h.free, h.base⟩
theorem Cell.below (h : Cell H W base B t v) (hb : Below W.heap.size W W') : Cell H W' base B t v := ⟨(hb.block _ h.lt).trans h.at_, h.free, h.base⟩
theorem Cell.snap (h : Cell H W base B t v) (hn : H' B = none) : Cell H' W base B t v := ⟨h.at_, hn, h.base⟩
theorem Cell.snapPut (h : Cell H W base B t v) {b : Nat} {o : Obj} (hb : W.heap.size ≤ b) : Cell (H.put b o) W base B t v := ⟨h.at_, by rw [Snap.put_other _ _ (by have := h.lt; omega)]; exact h.free, h.base⟩
theorem Cell.new (hw : Holds H W) (hb : base ≤ W.heap.size) (hB : B = W.heap.size) (v : Value) : Cell H (W.alloc (.cells #[v] t)) base B t v := by
  subst hB
  exact ⟨heap_alloc_new _ _, hw.none_of_ge (Nat.le_refl _), hb⟩
end
theorem Cell.abides {β : Type} {n0 base B : Nat} {t : TypeId} (f : β → Value) : Abides n0 (fun H (s : β) W => Cell H W base B t (f s)) := fun _ _ _ _ _ h _ ht => h.turn ht
theorem Ext.abides {β : Type} {n0 : Nat} {w0 : World} {H0 : Snap} (hn : w0.heap.size ≤ n0) : Abides n0 (fun H (_ : β) W => Ext w0 H0 W H) := fun _ _ _ _ _ h _ ht => ht.of_ext h hn

/-- THE CONTRACT of a function value that is ranged over: it hands on the elements of xs, in order. -/
def Iter {α : Type} (P : Program) (gf : FuncId) (lb : Array Value) (enc : Snap → α → Array Value → Prop) (xs : List α) (w : World) (H : Snap) : Prop :=
  ∀ (l : Nat) (J Jx : Snap → List α → World → Prop) (W : World) (HW : Snap), Ext w H W HW → Abides W.heap.size J → Abides W.heap.size Jx →
    (∀ Hc pre x W1 args m, Holds Hc W1 → SLe HW Hc → J Hc pre W1 → enc Hc x args → pre ++ [x] <+: xs →
      YieldAt (FW none) m P l args W1 fun e W' => Holds Hc W' ∧ W.heap.size ≤ W'.heap.size ∧ ((e = .returned (.bool true) ∧ J Hc (pre ++ [x]) W') ∨ (e = .returned (.bool false) ∧ Jx Hc (pre ++ [x]) W'))) →
    J HW [] W →
    Calls P gf (#[.func (.yield l) #[] #[]] ++ lb) W fun e W' => (∃ v, e = .returned v) ∧ ∃ Hc, Holds Hc W' ∧ SLe HW Hc ∧ (J Hc xs W' ∨ ∃ pre, pre <+: xs ∧ Jx Hc pre W')

/-- How the body of a round may be left. -/
def roundP {α : Type} (J : Snap → List α → World → Prop) (Jx : Code → Snap → List α → World → Prop) (H : Snap) (xs : List α) : Exit → Act → World → Prop
  | .normal, _, W => Holds H W ∧ J H xs W
  | .ret, _, W => Holds H W ∧ Jx .ret H xs W
  | .exit id, _, W => Holds H W ∧ Jx (.exit id) H xs W
  | .goto t, _, W => Holds H W ∧ Jx (.goto t) H xs W
  | .panic _, _, _ => False
  | .outgrown, _, _ => False

section
variable {P : Program} {α : Type} {ps : Array Tmp} {assign body : Code} {a : Act} {n0 l : Nat} {r : Loop} {H : Snap}
  {enc : Snap → α → Array Value → Prop} {xs : List α}
  {J : Snap → List α → World → Prop} {Jx : Code → Snap → List α → World → Prop} {J2 : Snap → List α → α → Array Value → Act → World → Prop}

theorem putObj_turn {W : World} {Hc Hc' : Snap} {o o' : Obj} (hw : Holds Hc W) (hl : W.heap[l]? = some o) (ho : o.isCells = false) (hn : n0 ≤ l) (hc : ∀ k, k ≠ l → Hc' k = Hc k) (hc' : Hc' l = none ∨ Hc' l = some o') : Turn n0 W Hc (W.putObj l o') Hc' := by
  have hlt := (Array.getElem?_eq_some_iff.1 hl).1
  refine ⟨(Below.refl _ _).grown (grownBy_putObj' W l o') (by omega) (fun k e => by cases e; exact hn), fun b cs t fr e hb => ?_, fun b hb => hc b (by omega), ⟨fun k o2 ek => ?_⟩⟩
  · have hne : b ≠ l := by rintro rfl; rw [e] at hl; cases hl; cases ho
    exact ⟨(World.putObj_heap_other hne).trans e, by rw [hc b hne]; exact hb⟩
  · by_cases hk : k = l
    · subst hk
      rcases hc' with h | h
      · rw [h] at ek; cases ek
      · rw [h] at ek; cases ek; exact World.putObj_heap_same hlt
    · rw [hc k hk] at ek
      exact (World.putObj_heap_other hk).trans (hw.at_ _ _ ek)

/-- One round, and the whole of them. -/
theorem iter_core {gf : FuncId} {lb : Array Value} {W1 : World} {H1 : Snap} {k : Nat} (hr1 : r.params = ps) (hr2 : r.assign = assign) (hr3 : r.body = body) (hr4 : r.tmps = a.tmps) (hr5 : r.state = .ready) (hr6 : r.pending = none)
    (hit : Iter P gf lb enc xs W1 H1) (hw1 : Holds H1 W1) (hsz : W1.heap.size = l + 1) (hl : W1.heap[l]? = some (.loop r)) (hln : H1 l = none) (hn0 : n0 ≤ l) (hps : ∀ Hc x args, enc Hc x args → args.size = ps.size) (henc : ∀ A B x args, SLe A B → enc A x args → enc B x args)
    (hle : SLe H H1) (hJ : Abides n0 J) (hJx : ∀ c, Abides n0 (Jx c)) (hJ2 : ∀ x args a1, Abides n0 (fun Hc pre W => J2 Hc pre x args a1 W)) (h0 : J H1 [] W1)
    (hassign : ∀ Hc pre x W args, Holds Hc W → SLe H Hc → J Hc pre W → enc Hc x args → pre ++ [x] <+: xs →
      assign.wpIn (FW (some l)) k P (Exit.then (fun a1 W2 => Holds Hc W2 ∧ J2 Hc pre x args a1 W2) (fun _ _ _ => False)) { tmps := (ps.zip args).foldl (fun t (p, v) => t.setIfInBounds p v) a.tmps, defers := [] } W)
    (hbody : ∀ rc Hc pre x args a1 W, W.heap[l]? = some (.loop rc) → Holds Hc W → SLe H Hc → enc Hc x args → pre ++ [x] <+: xs → J2 Hc pre x args a1 W → body.wpIn (FW (some l)) k P (roundP J Jx Hc (pre ++ [x])) a1 W) :
    Calls P gf (#[.func (.yield l) #[] #[]] ++ lb) W1 fun e W' => (∃ v, e = .returned v) ∧ ∃ Hc, Holds Hc W' ∧ SLe H1 Hc ∧
      ((J Hc xs W' ∧ Hc l = none ∧ W'.heap[l]? = some (.loop r)) ∨ (∃ pre c, pre <+: xs ∧ Jx c Hc pre W' ∧ Hc l = none ∧ W'.heap[l]? = some (.loop { r with state := .done, pending := some c }))) := by
  have hlt1 := (Array.getElem?_eq_some_iff.1 hl).1
  refine (hit l (fun Hc pre W => J Hc pre W ∧ Hc l = none ∧ W.heap[l]? = some (.loop r)) (fun Hc pre W => ∃ c, Jx c Hc pre W ∧ Hc l = none ∧ W.heap[l]? = some (.loop { r with state := .done, pending := some c })) W1 H1 (Ext.refl hw1) ?_ ?_ ?_ ⟨h0, hln, hl⟩).mono ?_
  · intro Hc s W Hc' W' ⟨hj, hn, hl'⟩ hw ht
    exact ⟨hJ _ _ _ _ _ hj hw (ht.mono (by omega)), (ht.same l hlt1).trans hn, (ht.below.block l hlt1).trans hl'⟩
  · intro Hc s W Hc' W' ⟨c, hj, hn, hl'⟩ hw ht
    exact ⟨c, hJx c _ _ _ _ _ hj hw (ht.mono (by omega)), (ht.same l hlt1).trans hn, (ht.below.block l hlt1).trans hl'⟩
  · rintro Hc pre x W args m hw hle1 ⟨hj, hn, hlW⟩ he hpre
    have hy := run_yield (P := P) (args := args) hlW (by rw [hr1]; exact hps _ _ _ he)
    rw [hr1, hr2, hr3, hr4] at hy
    have hltW := (Array.getElem?_eq_some_iff.1 hlW).1
    refine ⟨r.fn, _, assign, body, hy, ?_⟩
    have hany : ∀ {f : FuncId} {tmps : Array Value} {as1 bd1 : Code} {w : World} {R : Ending → World → Prop}, RoundIn (FW none) k P l f tmps as1 bd1 w R → RoundIn (FW none) m P l f tmps as1 bd1 w R := fun h => ⟨h.1, fun c cs _ => h.2 c cs (fun d hd => by cases hd)⟩
    refine hany (roundIn_of_wpIn (F := FW none) trivial ?_)
    have ht1 : Turn n0 W Hc W (Hc.put l (.loop r)) :=
      ⟨Below.refl _ _, fun b cs t fr e hb => ⟨e, by rw [Snap.put_other _ _ (by rintro rfl; rw [hlW] at e; cases e)]; exact hb⟩, fun b hb => Snap.put_other _ _ (by omega), hw.put hlW⟩
    have hleA := Snap.le_put hn (.loop r)
    refine wpIn_mono (hassign _ pre x W args ht1.holds ((hle.trans hle1).trans hleA) (hJ _ _ _ _ _ hj hw ht1) (henc _ _ _ _ hleA he) hpre) ?_
    rintro e a1 W2 hq
    cases e with
    | normal =>
      obtain ⟨hw2, hj2⟩ := hq
      have hl2 : W2.heap[l]? = some (.loop r) := hw2.at_ _ _ (Snap.put_same _ _ _)
      have hlt2 := (Array.getElem?_eq_some_iff.1 hl2).1
      refine ⟨_, run_beginRound hl2 hr5, ?_⟩
      have ht2 : Turn n0 W2 (Hc.put l (.loop r)) (W2.putObj l (.loop { r with state := .busy })) (Hc.put l (.loop { r with state := .busy })) :=
        putObj_turn hw2 hl2 rfl hn0 (fun k hk => by rw [Snap.put_other _ _ hk, Snap.put_other _ _ hk]) (.inr (Snap.put_same _ _ _))
      have hleB := Snap.le_put hn (.loop { r with state := .busy })
      refine wpIn_mono (hbody { r with state := .busy } _ pre x args a1 _ (World.putObj_heap_same hlt2) ht2.holds ((hle.trans hle1).trans hleB) (henc _ _ _ _ hleB he) hpre (hJ2 x args a1 _ _ _ _ _ hj2 hw2 ht2)) ?_
      have fin : ∀ (jump : Option Code) (W3 : World), Holds (Hc.put l (.loop { r with state := .busy })) W3 →
          (Instr.endRound l jump).run P W3 = .ok (.bool jump.isNone) (W3.putObj l (.loop { r with state := if jump.isNone then .ready else .done, pending := jump })) ∧
          Turn n0 W3 (Hc.put l (.loop { r with state := .busy })) (W3.putObj l (.loop { r with state := if jump.isNone then .ready else .done, pending := jump })) Hc ∧
          (W3.putObj l (.loop { r with state := if jump.isNone then .ready else .done, pending := jump })).heap[l]? = some (.loop { r with state := if jump.isNone then .ready else .done, pending := jump }) := fun jump W3 hw3 => by
        have hl3 := hw3.at_ _ _ (Snap.put_same _ _ _)
        have he3 := run_endRound (P := P) jump hl3
        exact ⟨he3, putObj_turn hw3 hl3 rfl hn0 (fun k hk => (Snap.put_other _ _ hk).symm) (.inl hn), World.putObj_heap_same (Array.getElem?_eq_some_iff.1 hl3).1⟩
      rintro e a3 W3 hp
      cases e with
      | normal =>
        obtain ⟨hw3, hj3⟩ := hp
        obtain ⟨hr, ht3, hl4⟩ := fin none W3 hw3
        have hlt4 := (Array.getElem?_eq_some_iff.1 hl4).1
        refine ⟨_, _, hr, ht3.holds, by omega, .inl ⟨rfl, hJ _ _ _ _ _ hj3 hw3 ht3, hn, ?_⟩⟩
        rw [hl4]
        obtain ⟨_, _, _, _, _, _, _, _⟩ := r
        simp only at hr5 hr6
        subst hr5; subst hr6; rfl
      | ret =>
        obtain ⟨hw3, hj3⟩ := hp
        obtain ⟨hr, ht3, hl4⟩ := fin (some .ret) W3 hw3
        have hlt4 := (Array.getElem?_eq_some_iff.1 hl4).1
        exact ⟨_, _, hr, ht3.holds, by omega, .inr ⟨rfl, .ret, hJx _ _ _ _ _ _ hj3 hw3 ht3, hn, hl4⟩⟩
      | exit id =>
        obtain ⟨hw3, hj3⟩ := hp
        obtain ⟨hr, ht3, hl4⟩ := fin (some (.exit id)) W3 hw3
        have hlt4 := (Array.getElem?_eq_some_iff.1 hl4).1
        exact ⟨_, _, hr, ht3.holds, by omega, .inr ⟨rfl, .exit id, hJx _ _ _ _ _ _ hj3 hw3 ht3, hn, hl4⟩⟩
      | goto t =>
        obtain ⟨hw3, hj3⟩ := hp
        obtain ⟨hr, ht3, hl4⟩ := fin (some (.goto t)) W3 hw3
        have hlt4 := (Array.getElem?_eq_some_iff.1 hl4).1
        exact ⟨_, _, hr, ht3.holds, by omega, .inr ⟨rfl, .goto t, hJx _ _ _ _ _ _ hj3 hw3 ht3, hn, hl4⟩⟩
      | panic ch => exact hp.elim
      | outgrown => exact hp.elim
    | exit id => exact hq.elim
    | goto t => exact hq.elim
    | ret => exact hq.elim
    | panic ch => exact hq.elim
    | outgrown => exact hq.elim
  · rintro e W' ⟨hv, Hc, hw, hle1, h⟩
    refine ⟨hv, Hc, hw, hle1, ?_⟩
    rcases h with h | ⟨pre, hpre, c, h1, h2, h3⟩
    · exact .inl h
    · exact .inr ⟨pre, c, hpre, h1, h2, h3⟩
end

end Go.Proofs.YthcfhmebikcfpaaGreatDoor

namespace Go.Proofs.YthcfhmebikcfpaaGreatDoor
open Go.RowKit

section
variable {P : Program} {α : Type} {g : Operand} {ps : Array Tmp} {assign body : Code} {Q : Exit → Act → World → Prop} {a : Act} {w : World} {H : Snap} {k : Nat} {gf : FuncId} {lb : Array Value}
  {enc : Snap → α → Array Value → Prop} {xs : List α}
  {J : Snap → List α → World → Prop} {Jx : Code → Snap → List α → World → Prop} {J2 : Snap → List α → α → Array Value → Act → World → Prop}

theorem wpIn_forO (hg : a.eval g = .func (.func gf) #[] lb) (eg : ∀ args w, (callFunc gf args).run P w = .ok (.enter gf args) w)
    (hw : Holds H w) (hit : Iter P gf lb enc xs w H) (hps : ∀ Hc x args, enc Hc x args → args.size = ps.size) (henc : ∀ A B x args, SLe A B → enc A x args → enc B x args)
    (hJ : Abides w.heap.size J) (hJx : ∀ c, Abides w.heap.size (Jx c)) (hJ2 : ∀ x args a1, Abides w.heap.size (fun Hc pre W => J2 Hc pre x args a1 W)) (h0 : J H [] w)
    (hassign : ∀ l Hc pre x W args, w.heap.size ≤ l → Holds Hc W → SLe H Hc → J Hc pre W → enc Hc x args → pre ++ [x] <+: xs →
      assign.wpIn (FW (some l)) k P (Exit.then (fun a1 W2 => Holds Hc W2 ∧ J2 Hc pre x args a1 W2) (fun _ _ _ => False)) { tmps := (ps.zip args).foldl (fun t (p, v) => t.setIfInBounds p v) a.tmps, defers := [] } W)
    (hbody : ∀ l rc Hc pre x args a1 W, w.heap.size ≤ l → W.heap[l]? = some (.loop rc) → Holds Hc W → SLe H Hc → enc Hc x args → pre ++ [x] <+: xs → J2 Hc pre x args a1 W → body.wpIn (FW (some l)) k P (roundP J Jx Hc (pre ++ [x])) a1 W)
    (hdone : ∀ D Hc W, w.heap.size ≤ D → Holds Hc W → SLe H Hc → Hc D = some (.deferred (some [])) → J Hc xs W → Q .normal { a with defers := { target := .collected D, args := #[] } :: a.defers } W)
    (hstop : ∀ D c Hc pre W, w.heap.size ≤ D → Holds Hc W → SLe H Hc → Hc D = some (.deferred (some [])) → pre <+: xs → Jx c Hc pre W → c.wpIn (FW none) k P Q { a with defers := { target := .collected D, args := #[] } :: a.defers } W) :
    (Code.rangeFunc g ps assign body).wpIn (FW none) k P Q a w := by
  refine wpIn_rangeFunc ?_
  intro fn _
  obtain ⟨r, hr⟩ : ∃ r : Loop, r = { state := .ready, pending := none, fn, tmps := a.tmps, params := ps, assign, body, defers := w.heap.size } := ⟨_, rfl⟩
  obtain ⟨W1, hW1⟩ : ∃ W1, (w.alloc (.deferred (some []))).alloc (.loop r) = W1 := ⟨_, rfl⟩
  have hL1 : W1.heap[w.heap.size + 1]? = some (.loop r) := by
    rw [← hW1]; have := World.alloc_heap_new (w.alloc (.deferred (some []))) (.loop r); rwa [World.size_alloc] at this
  have hK1 : W1.heap[w.heap.size]? = some (.deferred (some [])) := by
    rw [← hW1]; exact (Below.heap_alloc _ _ _ (by simp)).trans (World.alloc_heap_new w _)
  have hb1 : Below w.heap.size w W1 := by rw [← hW1]; exact ((Below.refl _ w).alloc (Nat.le_refl _) _).alloc (by simp) _
  have hnD : H w.heap.size = none := hw.none_of_ge (Nat.le_refl _)
  have hle1 := Snap.le_put hnD (.deferred (some []))
  have ht : Turn w.heap.size w H W1 (H.put w.heap.size (.deferred (some []))) := by
    refine ⟨hb1, fun b cs t fr e hb => ?_, fun b hb => Snap.put_other _ _ (by omega), ⟨fun b o e => ?_⟩⟩
    · have hlt := (Array.getElem?_eq_some_iff.1 e).1
      exact ⟨(hb1.block b hlt).trans e, by rw [Snap.put_other _ _ (by omega)]; exact hb⟩
    · by_cases hb : b = w.heap.size
      · subst hb; rw [Snap.put_same] at e; cases e; exact hK1
      · rw [Snap.put_other _ _ hb] at e; exact (hb1.block b (hw.lt e)).trans (hw.at_ _ _ e)
  have hx1 : Ext w H W1 (H.put w.heap.size (.deferred (some []))) := ⟨hb1, ht.holds, fun b hb => Snap.put_other _ _ (by omega)⟩
  have hit1 : Iter P gf lb enc xs W1 (H.put w.heap.size (.deferred (some []))) := fun l J Jx W HW hx => hit l J Jx W HW (hx1.trans hx)
  refine ⟨w.heap.size + 1, [{ target := .collected w.heap.size, args := #[] }], W1, { target := .fn (.func gf) lb, args := #[.func (.yield (w.heap.size + 1)) #[] #[]] }, W1, gf,
    #[.func (.yield (w.heap.size + 1)) #[] #[]] ++ lb, W1, ?_, ?_, fun _ _ => trivial, ?_, FW_depth, ?_⟩
  · rw [← hW1, hr]; exact run_enterLoop_outer _ _ _ _ _
  · simp only [resolve, hg]; simp [go_sem]
  · simp [invoke, go_sem, eg]
  · refine (Calls.wide (iter_core (n0 := w.heap.size) (r := r) (a := a) (ps := ps) (assign := assign) (body := body) (k := k) (by rw [hr]) (by rw [hr]) (by rw [hr]) (by rw [hr]) (by rw [hr]) (by rw [hr]) hit1 ht.holds (by rw [← hW1]; simp) hL1
      (by rw [Snap.put_other _ _ (by omega)]; exact hw.none_of_ge (by omega)) (by omega) hps henc hle1 hJ hJx hJ2 (hJ _ _ _ _ _ h0 hw ht) (fun Hc pre x W args => hassign _ Hc pre x W args (by omega)) (fun rc Hc pre x args a1 W => hbody _ rc Hc pre x args a1 W (by omega)))).mono ?_
    rintro e W2 ⟨⟨v, rfl⟩, Hc, hwc, hlec, h⟩
    have hD : Hc w.heap.size = some (.deferred (some [])) := hlec _ _ (Snap.put_same _ _ _)
    rcases h with ⟨hj, hn, hl⟩ | ⟨pre, c, hpre, hj, hn, hl⟩
    · refine ⟨none, _, by have := run_endLoop (P := P) hl (by rw [hr]; simp); rw [hr] at this; exact this, ?_⟩
      have ht2 := putObj_turn (n0 := w.heap.size) (Hc' := Hc) (o' := .loop { r with state := .exhausted }) hwc hl rfl (by omega) (fun _ _ => rfl) (.inl hn)
      rw [hr] at ht2
      exact hdone _ Hc _ (Nat.le_refl _) ht2.holds (hle1.trans hlec) hD (hJ _ _ _ _ _ hj hwc ht2)
    · refine ⟨some c, _, by have := run_endLoop (P := P) hl (by simp); rw [hr] at this; exact this, ?_⟩
      have ht2 := putObj_turn (n0 := w.heap.size) (Hc' := Hc) (o' := .loop { { r with state := .done, pending := some c } with state := .exhausted }) hwc hl rfl (by omega) (fun _ _ => rfl) (.inl hn)
      rw [hr] at ht2
      exact hstop _ c Hc pre _ (Nat.le_refl _) ht2.holds (hle1.trans hlec) hD hpre (hJx _ _ _ _ _ _ hj hwc ht2)

theorem wpIn_forN {l0 : Nat} {r0 : Loop} (hl0 : w.heap[l0]? = some (.loop r0)) (hg : a.eval g = .func (.func gf) #[] lb) (eg : ∀ args w, (callFunc gf args).run P w = .ok (.enter gf args) w)
    (hw : Holds H w) (hit : Iter P gf lb enc xs w H) (hps : ∀ Hc x args, enc Hc x args → args.size = ps.size) (henc : ∀ A B x args, SLe A B → enc A x args → enc B x args)
    (hJ : Abides w.heap.size J) (hJx : ∀ c, Abides w.heap.size (Jx c)) (hJ2 : ∀ x args a1, Abides w.heap.size (fun Hc pre W => J2 Hc pre x args a1 W)) (h0 : J H [] w)
    (hassign : ∀ l Hc pre x W args, w.heap.size ≤ l → Holds Hc W → SLe H Hc → J Hc pre W → enc Hc x args → pre ++ [x] <+: xs →
      assign.wpIn (FW (some l)) k P (Exit.then (fun a1 W2 => Holds Hc W2 ∧ J2 Hc pre x args a1 W2) (fun _ _ _ => False)) { tmps := (ps.zip args).foldl (fun t (p, v) => t.setIfInBounds p v) a.tmps, defers := [] } W)
    (hbody : ∀ l rc Hc pre x args a1 W, w.heap.size ≤ l → W.heap[l]? = some (.loop rc) → Holds Hc W → SLe H Hc → enc Hc x args → pre ++ [x] <+: xs → J2 Hc pre x args a1 W → body.wpIn (FW (some l)) k P (roundP J Jx Hc (pre ++ [x])) a1 W)
    (hdone : ∀ Hc W, Holds Hc W → SLe H Hc → J Hc xs W → Q .normal a W)
    (hstop : ∀ c Hc pre W, Holds Hc W → SLe H Hc → pre <+: xs → Jx c Hc pre W → c.wpIn (FW (some l0)) k P Q a W) :
    (Code.rangeFunc g ps assign body).wpIn (FW (some l0)) k P Q a w := by
  refine wpIn_rangeFunc ?_
  intro fn _
  obtain ⟨r, hr⟩ : ∃ r : Loop, r = { state := .ready, pending := none, fn, tmps := a.tmps, params := ps, assign, body, defers := r0.defers } := ⟨_, rfl⟩
  obtain ⟨W1, hW1⟩ : ∃ W1, w.alloc (.loop r) = W1 := ⟨_, rfl⟩
  have hL1 : W1.heap[w.heap.size]? = some (.loop r) := by rw [← hW1]; exact World.alloc_heap_new w _
  have hb1 : Below w.heap.size w W1 := by rw [← hW1]; exact (Below.refl _ w).alloc (Nat.le_refl _) _
  have ht : Turn w.heap.size w H W1 H := Turn.ext hw hb1 (Nat.le_refl _)
  have hx1 : Ext w H W1 H := ⟨hb1, ht.holds, fun b hb => rfl⟩
  have hit1 : Iter P gf lb enc xs W1 H := fun l J Jx W HW hx => hit l J Jx W HW (hx1.trans hx)
  refine ⟨w.heap.size, [], W1, { target := .fn (.func gf) lb, args := #[.func (.yield w.heap.size) #[] #[]] }, W1, gf,
    #[.func (.yield w.heap.size) #[] #[]] ++ lb, W1, ?_, ?_, fun _ _ => trivial, ?_, FW_depth, ?_⟩
  · rw [← hW1, hr]; exact run_enterLoop_inner hl0 _ _ _ _ _
  · simp only [resolve, hg]; simp [go_sem]
  · simp [invoke, go_sem, eg]
  · refine (Calls.wide (iter_core (n0 := w.heap.size) (r := r) (a := a) (ps := ps) (assign := assign) (body := body) (k := k) (by rw [hr]) (by rw [hr]) (by rw [hr]) (by rw [hr]) (by rw [hr]) (by rw [hr]) hit1 ht.holds (by rw [← hW1]; simp) hL1
      (hw.none_of_ge (by omega)) (by omega) hps henc (SLe.refl _) hJ hJx hJ2 (hJ _ _ _ _ _ h0 hw ht) (fun Hc pre x W args => hassign _ Hc pre x W args (by omega)) (fun rc Hc pre x args a1 W => hbody _ rc Hc pre x args a1 W (by omega)))).mono ?_
    rintro e W2 ⟨⟨v, rfl⟩, Hc, hwc, hlec, h⟩
    rcases h with ⟨hj, hn, hl⟩ | ⟨pre, c, hpre, hj, hn, hl⟩
    · refine ⟨none, _, by have := run_endLoop (P := P) hl (by rw [hr]; simp); rw [hr] at this; exact this, ?_⟩
      have ht2 := putObj_turn (n0 := w.heap.size) (Hc' := Hc) (o' := .loop { r with state := .exhausted }) hwc hl rfl (by omega) (fun _ _ => rfl) (.inl hn)
      rw [hr] at ht2
      exact hdone Hc _ ht2.holds hlec (hJ _ _ _ _ _ hj hwc ht2)
    · refine ⟨some c, _, by have := run_endLoop (P := P) hl (by simp); rw [hr] at this; exact this, ?_⟩
      have ht2 := putObj_turn (n0 := w.heap.size) (Hc' := Hc) (o' := .loop { { r with state := .done, pending := some c } with state := .exhausted }) hwc hl rfl (by omega) (fun _ _ => rfl) (.inl hn)
      rw [hr] at ht2
      exact hstop c Hc pre _ ht2.holds hlec hpre (hJx _ _ _ _ _ _ hj hwc ht2)
end

end Go.Proofs.YthcfhmebikcfpaaGreatDoor

namespace Go.Proofs.YthcfhmebikcfpaaGreatDoor
open Go.RowKit

theorem FW_fn (r : Option Nat) (f : FuncId) : (FW r).fn f = True := rfl
theorem FW_dep (r : Option Nat) : (FW r).depth = none := rfl
theorem FW_round (r : Option Nat) : (FW r).round = r := rfl
theorem two_cells {W : World} {g : Nat} {x y : Value} {t : TypeId} {fr : Nat × Nat} (h : W.heap[g]? = some (.cells #[x, y] t fr)) : ∀ (j : Nat) (u : Value), [x, y][j]? = some u → W.cell? ⟨g, j, none⟩ = some u := fun j u hj => by
  rw [Lib.cell_of_heap h]
  simpa using hj
end Go.Proofs.YthcfhmebikcfpaaGreatDoor
