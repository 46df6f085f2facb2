/- Lemmas and walks on which the claims of this seat lean: NDec NNum NPar0 NRun NRd0 NRead. -/
import Derived.Test.YthcfhmebikcfpaaGreatDoorG05
import Derived.Test.YthcfhmebikcfpaaGreatDoorG07
import Derived.Test.YthcfhmebikcfpaaGreatDoorG10
import Derived.Lib.OthersKept
import Derived.Lib.IndexLaws
import Derived.Laws.Runes
import Derived.Laws.IdiomStrings
import Derived.Lib.TrimByte

set_option linter.all false

namespace Go.Proofs.YthcfhmebikcfpaaGreatDoor
open Go.RowKit

def symKV (l m : List Pr) : SK := m.map fun p => (strB (codeOf l p.s), p.s)
theorem code_mem {l : List Pr} (C : IsCode l) {p : Pr} (hp : p ∈ l) : ∃ i, At l i p ∧ i < l.length ∧ codeOf l p.s = codeAt l i := by
  obtain ⟨i, hi, hil⟩ := List.getElem_of_mem hp
  have hai : At l i p := by show l[i]? = _; rw [List.getElem?_eq_getElem hi, hil]
  exact ⟨i, hai, hi, codeOf_at C.rise hai⟩
theorem codeOf_inj {l : List Pr} (C : IsCode l) {p q : Pr} (hp : p ∈ l) (hq : q ∈ l) (h : codeOf l p.s = codeOf l q.s) : p = q := by
  obtain ⟨i, ai, hi, ei⟩ := code_mem C hp
  obtain ⟨j, aj, hj, ej⟩ := code_mem C hq
  rw [ei, ej] at h
  have := code_inj C.b15 C.kraftN hi hj h
  subst this
  exact Option.some.inj (ai.symm.trans aj)
theorem strB_inj {a b : List UInt8} (h : strB a = strB b) : a = b := by
  have := congrArg bys h
  exact this
theorem symKV_keys {l m : List Pr} (C : IsCode l) (hm : ∀ p ∈ m, p ∈ l) (hd : (m.map Pr.s).Nodup) : ((symKV l m).map Prod.fst).Nodup := by
  unfold symKV
  rw [List.map_map]
  refine List.pairwise_map.2 ?_
  have h2 := List.pairwise_map.1 hd
  exact List.Pairwise.imp_of_mem (fun ha hb hne e => hne (by rw [codeOf_inj C (hm _ ha) (hm _ hb) (strB_inj e)])) h2
theorem symKV_fresh {l m : List Pr} (C : IsCode l) (hm : ∀ p ∈ m, p ∈ l) {p : Pr} (hp : p ∈ l) (hf : p ∉ m) : strB (codeOf l p.s) ∉ (symKV l m).map Prod.fst := by
  unfold symKV
  rw [List.map_map]
  intro h
  obtain ⟨q, hq, e⟩ := List.mem_map.1 h
  have := codeOf_inj C (hm q hq) hp (strB_inj e)
  subst this
  exact hf hq
theorem sym_first {l m : List Pr} (C : IsCode l) (hp : m.Perm l) {bits : List UInt8} {j : Nat} (hj : j ≤ bits.length) (h : hasSK (symKV l m) (strB (bits.take j)) = true) :
    ∃ i, firstA l bits = some i ∧ bitsN l i = j ∧ i < l.length ∧ lookSK (symKV l m) (strB (bits.take j)) = symI l i := by
  have hkeys := symKV_keys C (fun p h => hp.mem_iff.1 h) ((hp.map Pr.s).nodup_iff.2 (C.rise.imp fun h => by omega))
  obtain ⟨kv, hkv, he⟩ := hasSK_mem h
  have hl := (lookSK_mem hkeys hkv).1
  unfold symKV at hkv
  obtain ⟨p, hpm, rfl⟩ := List.mem_map.1 hkv
  obtain ⟨i, ai, hi, ei⟩ := code_mem C (hp.mem_iff.1 hpm)
  have he2 : codeAt l i = bits.take j := by rw [← ei]; exact strB_inj he
  refine ⟨i, ?_, ?_, hi, ?_⟩
  · have := first_code C hi (bits.drop j)
    rw [he2, List.take_append_drop] at this
    exact this
  · rw [← codeAt_len l i, he2, List.length_take]; omega
  · rw [← he, symI_at ai]
    exact hl
theorem sym_none {l m : List Pr} (C : IsCode l) (hp : m.Perm l) {bits : List UInt8} (h : ∀ j, 1 ≤ j → j ≤ bits.length → j ≤ 15 → hasSK (symKV l m) (strB (bits.take j)) = false) : firstA l bits = none := by
  cases hf : firstA l bits with
  | none => rfl
  | some i =>
    exfalso
    obtain ⟨hi, hpre⟩ := first_some hf
    have hkeys := symKV_keys C (fun p h => hp.mem_iff.1 h) ((hp.map Pr.s).nodup_iff.2 (C.rise.imp fun h => by omega))
    have hai : At l i l[i] := by show l[i]? = _; rw [List.getElem?_eq_getElem hi]
    have hb := C.b15 _ (List.getElem_mem hi)
    have hbn : bitsN l i = (l[i]).n.toNat := bitsN_at hai
    have hlen := hpre.length_le
    rw [codeAt_len] at hlen
    have e1 : codeAt l i = bits.take (bitsN l i) := by
      have := List.prefix_iff_eq_take.1 hpre
      rw [codeAt_len] at this
      exact this
    have h0 := h (bitsN l i) (by omega) hlen (by omega)
    have hm : (strB (codeOf l (l[i]).s), (l[i]).s) ∈ symKV l m := by
      unfold symKV
      exact List.mem_map.2 ⟨l[i], hp.mem_iff.2 (List.getElem_mem hi), rfl⟩
    have h1 := (lookSK_mem hkeys hm).2
    rw [show (strB (codeOf l (l[i]).s), (l[i]).s).1 = strB (bits.take (bitsN l i)) by rw [← e1, ← codeOf_at C.rise hai]] at h1
    rw [h0] at h1
    cases h1
theorem decA_done {many f : Nat} {l : List Pr} {out : List ByteArray} {own bs : List UInt8} (h : many ≤ out.length) : decA many l (f + 1) out own bs = some (out, bs) := by
  show (if many ≤ out.length then some (out, bs) else _) = _
  rw [if_pos h]
theorem decA_none {many f : Nat} {l : List Pr} {out : List ByteArray} {own bs : List UInt8} (h : ¬ many ≤ out.length) (hf : firstA l bs = none) : decA many l (f + 1) out own bs = none := by
  show (if many ≤ out.length then some (out, bs) else _) = _
  rw [if_neg h, hf]
theorem decA_ten {many f i : Nat} {l : List Pr} {out : List ByteArray} {own bs : List UInt8} (h : ¬ many ≤ out.length) (hf : firstA l bs = some i) (h10 : symI l i = 10) : decA many l (f + 1) out own bs = decA many l f (out ++ [strB own]) [] (bs.drop (bitsN l i)) := by
  show (if many ≤ out.length then some (out, bs) else _) = _
  rw [if_neg h, hf]
  show (if symI l i = 10 then _ else _) = _
  rw [if_pos h10]
theorem decA_sym {many f i : Nat} {l : List Pr} {out : List ByteArray} {own bs : List UInt8} (h : ¬ many ≤ out.length) (hf : firstA l bs = some i) (h10 : ¬ symI l i = 10) : decA many l (f + 1) out own bs = decA many l f out (own ++ [(symI l i).toNat.toUInt8]) (bs.drop (bitsN l i)) := by
  show (if many ≤ out.length then some (out, bs) else _) = _
  rw [if_neg h, hf]
  show (if symI l i = 10 then _ else _) = _
  rw [if_neg h10]
theorem unsix_snoc (r : List UInt8) (b : UInt8) : unsix (r ++ [b]) = unsix r ++ binB ((letN b).getD 0) 6 := by
  unfold unsix
  rw [List.flatMap_append]
  simp
theorem unsix_len (r : List UInt8) : (unsix r).length = 6 * r.length := by
  induction r with
  | nil => rfl
  | cons b r ih =>
    have : unsix (b :: r) = binB ((letN b).getD 0) 6 ++ unsix r := by unfold unsix; rw [List.flatMap_cons]
    rw [this, List.length_append, binB_len, ih, List.length_cons]; omega
theorem letN_lt {b : UInt8} {n : Nat} (h : letN b = some n) : n < 64 := by
  unfold letN at h
  have := List.of_findIdx?_eq_some (by simpa [List.idxOf?] using h)
  have h2 : n < lets.length := by
    have := List.findIdx?_eq_some_iff_findIdx_eq.1 (by simpa [List.idxOf?] using h)
    exact this.1
  exact h2
theorem dropW_nil {p : UInt8 → Bool} : ∀ (l : List UInt8), l.dropWhile p = [] ↔ ∀ x ∈ l, p x = true
  | [] => by simp
  | a :: l => by
    rw [List.dropWhile_cons]
    cases h : p a with
    | true => simp only [if_true]; rw [dropW_nil l]; simp [h]
    | false => simp [h]
theorem dropW_head {p : UInt8 → Bool} : ∀ (l : List UInt8) {h : UInt8} {t : List UInt8}, l.dropWhile p = h :: t → p h = false
  | [], _, _, e => by simp at e
  | a :: l, h, t, e => by
    rw [List.dropWhile_cons] at e
    cases hp : p a with
    | true => rw [hp] at e; simp only [if_true] at e; exact dropW_head l e
    | false =>
      rw [hp] at e
      simp only [Bool.false_eq_true, if_false, List.cons.injEq] at e
      rw [← e.1]; exact hp
theorem trim_nil (l : List UInt8) : Lib.trimB l 48 = [] ↔ l.all (· == 48) = true := by
  unfold Lib.trimB Lib.trimLeftB Lib.trimRightB
  rw [dropW_nil, List.all_eq_true]
  constructor
  · intro h
    have : l.reverse.dropWhile (· == 48) = [] := by
      cases e : l.reverse.dropWhile (· == 48) with
      | nil => rfl
      | cons a t =>
        have h1 := dropW_head _ e
        have h2 := h a (by rw [e]; simp)
        rw [h1] at h2; cases h2
    intro x hx
    exact (dropW_nil _).1 this x (by simpa using hx)
  · intro h x hx
    have hx2 := List.mem_reverse.1 hx
    have hx3 : x ∈ l.reverse := (List.dropWhile_sublist _).subset hx2
    exact h x (List.mem_reverse.1 hx3)
end Go.Proofs.YthcfhmebikcfpaaGreatDoor

namespace Go.Proofs.YthcfhmebikcfpaaGreatDoor
open Go.RowKit

attribute [local go_sem] Holds.drew Holds.alloc Holds.drewN WB.holds Oper.semAt_some

def numI (a b : UInt8) : Int := match num2 a b with | some n => n | none => -1
theorem dec_dig (s : ByteArray) (pos : Nat) (h : pos < s.size) :
    (∃ n : Nat, n ≤ 9 ∧ digN (s[pos]'h) = some n ∧ Utf8.decode s pos = (48 + n, 1)) ∨ (digN (s[pos]'h) = none ∧ ((Utf8.decode s pos).1 < 48 ∨ 57 < (Utf8.decode s pos).1)) := by
  by_cases ha : (s[pos]'h).toNat < 128
  · rw [decode_ascii s pos h ha]
    unfold digN
    by_cases g : 48 ≤ (s[pos]'h).toNat ∧ (s[pos]'h).toNat ≤ 57
    · rw [if_pos g]
      exact .inl ⟨(s[pos]'h).toNat - 48, by omega, rfl, by rw [show 48 + ((s[pos]'h).toNat - 48) = (s[pos]'h).toNat by omega]⟩
    · rw [if_neg g]
      exact .inr ⟨rfl, by simp only []; omega⟩
  · have := decode_high s pos h (by omega)
    refine .inr ⟨?_, .inr (by have := this.1; omega)⟩
    unfold digN
    rw [if_neg (by omega)]
/-- What is read of the first bytes. -/
def numTo (l : List UInt8) (k : Nat) : Option Nat := (l.take k).foldl (fun o b => match o, digN b with | some x, some y => some (x * 10 + y) | _, _ => none) (some 0)
theorem num_two_to (a b : UInt8) : numTo [a, b] 2 = num2 a b := by
  unfold numTo num2
  cases ha : digN a <;> cases hb : digN b <;> simp [ha, hb]
theorem numTo_succ {l : List UInt8} {k : Nat} {b : UInt8} (h : At l k b) : numTo l (k + 1) = (match numTo l k, digN b with | some x, some y => some (x * 10 + y) | _, _ => none) := by
  unfold numTo
  rw [h.take, List.foldl_append]
  rfl
theorem numTo_none {l : List UInt8} {k : Nat} (h : numTo l k = none) : ∀ j, k ≤ j → numTo l j = none := by
  intro j hj
  obtain ⟨d, rfl⟩ := Nat.exists_eq_add_of_le hj
  clear hj
  induction d with
  | zero => exact h
  | succ d ih =>
    by_cases g : k + d < l.length
    · obtain ⟨b, hb⟩ := At.mk g
      rw [← Nat.add_assoc, numTo_succ hb, ih]
    · unfold numTo at ih ⊢
      rw [List.take_of_length_le (by omega)] at ih ⊢
      exact ih

set_option maxRecDepth 100000 in
theorem nNumber_any (a b : UInt8) (w : World) : Calls Tryz.prog 66 #[.string (strB [a, b])] w (PostV w (.int .i64 (numI a b))) := by
  have hsz : (strB [a, b]).size = 2 := rfl
  have hby : bys (strB [a, b]) = [a, b] := rfl
  have hnum : numI a b = (match numTo (bys (strB [a, b])) 2 with | some n => (n : Int) | none => -1) := by rw [hby, num_two_to]; rfl
  generalize numI a b = R at *
  replace hnum := Lib.hid hnum
  clear hby
  generalize strB [a, b] = s at *
  clear a b
  go_enter Tryz.func66, Tryz.ntmps66
  go_wp2
  go_loopw [3] (fun n w' => ∃ (pos q : Nat), w' = w.iter s pos ∧ n = .int .i64 (q : Int) ∧ q ≤ 10 ^ pos - 1 ∧ pos ≤ 2 ∧ Hid (numTo (bys s) pos = some q)) (fun _ w' => s.size - w'.iterPos w.heap.size)
  case atStart => exact ⟨0, 0, rfl, rfl, by omega, by omega, Lib.hid rfl⟩
  case round =>
    obtain ⟨pos, q, rfl, rfl, hq, hp2, hn⟩ := hrel
    have hq9 : q ≤ 99 := by
      have : pos = 0 ∨ pos = 1 ∨ pos = 2 := by omega
      rcases this with rfl | rfl | rfl <;> omega
    by_cases hp : pos < s.size
    · have hnx : ∀ ty, (Instr.next (.pointer (some ⟨w.heap.size, 0, none⟩)) true ty).run Tryz.prog (w.iter s pos) = _ := fun ty => run_next_any w s pos ty hp
      obtain ⟨x, hx⟩ := At.mk (show pos < (bys s).length from hp)
      have hsk : s[pos] = x := by
        have h1 : (bys s)[pos]? = some x := hx
        rw [List.getElem?_eq_getElem (show pos < (bys s).length from hp)] at h1
        exact Option.some.inj h1
      have hstep := numTo_succ hx
      rw [hn.out] at hstep
      rcases dec_dig s pos hp with ⟨n, h9, hd, he⟩ | ⟨hd, hc⟩
      · rw [hsk] at hd
        rw [hd] at hstep
        rw [he] at hnx
        have hpos : pos = 0 ∨ pos = 1 := by omega
        have hqq : q * 10 + n ≤ 10 ^ (pos + 1) - 1 := by
          rcases hpos with rfl | rfl
          · simp at hq ⊢; omega
          · simp at hq ⊢; omega
        replace hstep := Lib.hid hstep
        replace hqq := Lib.hid hqq
        clear he hd hsk
        have g1 : ¬ (((48 + n : Nat) : Int) < 48) := by omega
        have g2 : ¬ (57 < ((48 + n : Nat) : Int)) := by omega
        have g3 : IntKind.i32.wrap (((48 + n : Nat) : Int) - 48) = (n : Int) := by simp [IntKind.wrap, IntKind.signed, IntKind.bits]; omega
        have g4 : wrap64 ((q : Int) * 10) = (q : Int) * 10 := wrap64_in _ (by omega) (by omega)
        have g5 : wrap64 ((q : Int) * 10 + (n : Int)) = (q : Int) * 10 + (n : Int) := wrap64_in _ (by omega) (by omega)
        have g6 : wrap64 (n : Int) = (n : Int) := wrap64_in _ (by omega) (by omega)
        go_wp2
        go_roundw
        case rel => exact ⟨pos + 1, q * 10 + n, rfl, by go_num, hqq.out, by omega, hstep⟩
        case measure => simp; omega
      · rw [hsk] at hd
        rw [hd] at hstep
        have hres := numTo_none hstep 2 (by omega)
        have hR : R = -1 := by rw [hnum.out, hres]
        subst hR
        generalize hcc : (Utf8.decode s pos).1 = c at *
        clear hcc hstep hres hd
        rcases hc with hc | hc
        · have g1 : ((c : Nat) : Int) < 48 := by omega
          go_wp2
          go_ret
          exact ⟨rfl, (Below.refl _ _).alloc (Nat.le_refl _) _⟩
        · have g1 : ¬ ((c : Nat) : Int) < 48 := by omega
          have g2 : 57 < ((c : Nat) : Int) := by omega
          go_wp2
          go_ret
          exact ⟨rfl, (Below.refl _ _).alloc (Nat.le_refl _) _⟩
    · have hnx : ∀ ty, (Instr.next (.pointer (some ⟨w.heap.size, 0, none⟩)) true ty).run Tryz.prog (w.iter s pos) = _ := fun ty => run_next_end w s pos ty hp
      have hp2 : pos = 2 := by omega
      subst hp2
      have hR : R = q := by rw [hnum.out, hn.out]
      subst hR
      go_wp2
      go_ret
      exact ⟨rfl, (Below.refl _ _).alloc (Nat.le_refl _) _⟩
end Go.Proofs.YthcfhmebikcfpaaGreatDoor

namespace Go.Proofs.YthcfhmebikcfpaaGreatDoor
open Go.RowKit
attribute [local go_sem] Holds.drew Holds.alloc Holds.drewN WB.holds Oper.semAt_some

theorem strB_extract' (l : List UInt8) (a b : Nat) : (strB l).extract a b = strB ((l.take b).drop a) := by
  apply ByteArray.ext
  apply Array.ext'
  simp [strB, List.drop_take]
theorem results_cell_slot {P : Program} {fn : Func} {p q : Tmp} {ty : TypeId} (h : fn.results = #[.cell p ty, .tmp q]) (tmps : Array Value) (w : World) (g : Nat) (t : TypeId) (cs : Array Value) (fr : Nat × Nat) (d : TypeDesc)
    (hp : tmps.getD p undef = .pointer (some ⟨g, 0, none⟩)) (hg : w.heap[g]? = some (.cells cs t fr))
    (hu : P.underlying ty = some d) (hd : (match d with | .struct _ | .array _ _ => true | _ => false) = true) (hi : (P.info? ty).map (·.size) = some cs.size) :
    (results fn tmps).run P w = .ok (.tuple #[.agg cs, tmps.getD q undef]) w := by
  have hp' : tmps[p]?.getD undef = .pointer (some ⟨g, 0, none⟩) := by simpa using hp
  simp [results, h, hp', asAddr, run_loadVar_row w g t ty cs fr d hg hu hd hi]

theorem cellsF3 {H : Snap} {B : Nat} {a b c : Value} {t : TypeId} (h : H B = some (.cells #[a, b, c] t (0, 0))) :
    (∀ w, Holds H w → w.cell? ⟨B, 0, none⟩ = some a) ∧ (∀ w, Holds H w → w.cell? ⟨B, 1, none⟩ = some b) ∧ (∀ w, Holds H w → w.cell? ⟨B, 2, none⟩ = some c) :=
  ⟨fun w hw => by rw [cellH h hw]; rfl, fun w hw => by rw [cellH h hw]; rfl, fun w hw => by rw [cellH h hw]; rfl⟩
theorem Own.snapS {α : Type} [Enc α] {H H' : Snap} {base : Nat} {w : World} {e : TypeId} {v : Value} {xs : List α} (h : Own H base w e v xs) (k : SLe H H') (hf : ∀ b, v.ownBlock = some b → H' b = none) : Own H' base w e v xs := by
  obtain ⟨cells, ho, hr, _, hb⟩ := h
  exact ⟨cells, ho, hr.mono k, hf, hb⟩
/-- Three slices of the call's own, of three types, are frozen. -/
def formV (f : Frm) (v : Value) : Value := .agg #[.int .i64 f.many, v, .string (strB f.rest)]
def ParsePost (w : World) (H : Snap) (o : Option Frm) : Ending → World → Prop := fun e w' =>
  match o with
  | some f => ∃ v H', e = .returned (.tuple #[formV f v, .bool true]) ∧ Ext w H w' H' ∧ Sl H' v f.l
  | none => ∃ (m : Int) (a : Option Addr) (n c : Nat) (t : ByteArray), e = .returned (.tuple #[.agg #[.int .i64 m, .slice a n c, .string t], .bool false]) ∧ Below w.heap.size w w'

structure PSt (w0 : World) (H : Snap) (B : Nat) (w : World) (m : Int) (v : Value) (t : ByteArray) (l : List Pr) : Prop where
  x : Ext w0 H w H
  row : w.heap[B]? = some (.cells #[.int .i64 m, v, .string t] 72 (0, 0))
  bl : w0.heap.size ≤ B
  bH : H B = none
  o : Own H w0.heap.size w 47 v l
section
variable {w0 w w' : World} {H : Snap} {B : Nat} {m : Int} {v v' : Value} {t : ByteArray} {l l' : List Pr}
theorem PSt.lt (s : PSt w0 H B w m v t l) : B < w.heap.size := (Array.getElem?_eq_some_iff.1 s.row).1
theorem PSt.ext (s : PSt w0 H B w m v t l) (y : Ext w H w' H) : PSt w0 H B w' m v t l :=
  ⟨s.x.trans y, (y.below.block B s.lt).trans s.row, s.bl, s.bH, s.o.ext s.x.holds y⟩
theorem PSt.below (s : PSt w0 H B w m v t l) (hb : Below w.heap.size w w') : PSt w0 H B w' m v t l := s.ext ((Ext.refl s.x.holds).step hb (s.x.holds.below hb))
theorem PSt.alloc (s : PSt w0 H B w m v t l) (o : Obj) : PSt w0 H B (w.alloc o) m v t l := s.ext ((Ext.refl s.x.holds).alloc o)
theorem PSt.vB (s : PSt w0 H B w m v t l) : v.ownBlock ≠ some B := fun e => by
  obtain ⟨cur, hc⟩ := s.o.row_type e
  rw [s.row] at hc
  simp at hc
theorem PSt.cells (s : PSt w0 H B w m v t l) : w.cell? ⟨B, 0, none⟩ = some (.int .i64 m) ∧ w.cell? ⟨B, 1, none⟩ = some v ∧ w.cell? ⟨B, 2, none⟩ = some (.string t) ∧ ∀ i, w.frozen? ⟨B, i, none⟩ = false :=
  ⟨by rw [Lib.cell_of_heap (j := 0) s.row]; rfl, by rw [Lib.cell_of_heap (j := 1) s.row]; rfl, by rw [Lib.cell_of_heap (j := 2) s.row]; rfl, fun i => Lib.frozen_of_heap s.row i⟩
theorem PSt.setM (s : PSt w0 H B w m v t l) (m' : Int) : PSt w0 H B (w.setCell ⟨B, 0, none⟩ (.int .i64 m')) m' v t l :=
  ⟨s.x.setCell (a := ⟨B, 0, none⟩) s.bl s.bH _, by rw [heap_setCell_row s.row]; rfl, s.bl, s.bH, s.o.setCell (a := ⟨B, 0, none⟩) s.vB _⟩
theorem PSt.setT (s : PSt w0 H B w m v t l) (t' : ByteArray) : PSt w0 H B (w.setCell ⟨B, 2, none⟩ (.string t')) m v t' l :=
  ⟨s.x.setCell (a := ⟨B, 2, none⟩) s.bl s.bH _, by rw [heap_setCell_row s.row]; rfl, s.bl, s.bH, s.o.setCell (a := ⟨B, 2, none⟩) s.vB _⟩
theorem PSt.put (s : PSt w0 H B w m v t l) (hg : w.grownBy w' v.ownBlock) (h2 : Own H w0.heap.size w' 47 v' l') :
    w'.frozen? ⟨B, 1, none⟩ = false ∧ w'.cell? ⟨B, 1, none⟩ = some v ∧ PSt w0 H B (w'.setCell ⟨B, 1, none⟩ v') m v' t l' := by
  have hrow := (hg.block B s.lt (fun e => s.vB e.symm)).trans s.row
  have hv' : v'.ownBlock ≠ some B := fun e => by
    obtain ⟨cur, hc⟩ := h2.row_type e
    rw [hrow] at hc
    simp at hc
  have hx : Ext w0 H w' H := s.x.grown hg (fun k hk => (s.o.lt k hk).1) (fun k hk => s.o.free k hk)
  exact ⟨Lib.frozen_of_heap hrow 1, by rw [Lib.cell_of_heap (j := 1) hrow]; rfl, hx.setCell (a := ⟨B, 1, none⟩) s.bl s.bH _, by rw [heap_setCell_row hrow]; rfl, s.bl, s.bH, h2.setCell (a := ⟨B, 1, none⟩) hv' _⟩
theorem PSt.make (hw : Holds H w) : PSt w H w.heap.size (w.alloc (.cells #[.int .i64 0, .slice none 0 0, .string ⟨#[]⟩] 72)) 0 (.slice none 0 0) ⟨#[]⟩ [] :=
  ⟨(Ext.refl hw).alloc _, heap_alloc_new w _, Nat.le_refl _, hw.none_of_ge (Nat.le_refl _), Own.nil _ _ _ _⟩
end
theorem formA_long {l : List UInt8} (h : 1500 < l.length) : formA l = none := by
  match l with
  | a :: b :: c :: d :: r =>
    unfold formA
    simp only []
    split
    · rw [if_neg (by simp at h; omega)]
    · rfl
  | [] => simp at h
  | [_] => simp at h
  | [_, _] => simp at h
  | [_, _, _] => simp at h
theorem formA_bad {a b c d : UInt8} {r : List UInt8} (h : ¬ (0 ≤ numI a b ∧ numI a b ≤ 20 ∧ 0 ≤ numI c d ∧ numI c d ≤ 96 ∧ 2 * numI c d ≤ (r.length : Int))) : formA (a :: b :: c :: d :: r) = none := by
  unfold numI at h
  unfold formA
  simp only []
  split
  · rename_i m n e1 e2
    rw [e1, e2] at h
    rw [if_neg (by simp only [] at h; omega)]
  · rfl
theorem formA_good {a b c d : UInt8} {r : List UInt8} (hr : r.length ≤ 1496) (h : 0 ≤ numI a b ∧ numI a b ≤ 20 ∧ 0 ≤ numI c d ∧ numI c d ≤ 96 ∧ 2 * numI c d ≤ (r.length : Int)) :
    ∃ m n : Nat, numI a b = (m : Int) ∧ numI c d = (n : Int) ∧ m ≤ 20 ∧ n ≤ 96 ∧ 2 * n ≤ r.length ∧ formA (a :: b :: c :: d :: r) = (match symsA n (-1) r with
        | some (l, rest) => if rest.all (fun b => (letN b).isSome) then some ⟨m, l, rest⟩ else none
        | none => none) := by
  unfold numI at *
  unfold formA
  simp only []
  cases e1 : num2 a b with
  | none => rw [e1] at h; simp only [] at h; omega
  | some m => cases e2 : num2 c d with
    | none => rw [e2] at h; simp only [] at h; omega
    | some n =>
      rw [e1, e2] at h
      simp only [] at h
      refine ⟨m, n, rfl, rfl, by omega, by omega, by omega, ?_⟩
      simp only []
      rw [if_pos (by omega)]
      cases symsA n (-1) r with
      | none => rfl
      | some p => cases p; rfl
def bI (b : UInt8) : Int := if 65 ≤ b.toNat ∧ b.toNat ≤ 79 then (b.toNat : Int) - 65 else -1
set_option maxRecDepth 100000 in
theorem bI_idx (b : UInt8) : Lib.indexByte (lets.take 15) b = bI b := by
  have : ∀ k : Fin 256, Lib.indexByte (lets.take 15) (UInt8.ofNat k.val) = bI (UInt8.ofNat k.val) := by decide +kernel
  have h := this ⟨b.toNat, b.toNat_lt⟩
  simpa using h
theorem bI_cases (b : UInt8) : (bI b < 0 ∧ ¬ (65 ≤ b.toNat ∧ b.toNat ≤ 79)) ∨ (0 ≤ bI b ∧ bI b ≤ 14 ∧ (65 ≤ b.toNat ∧ b.toNat ≤ 79) ∧ bI b + 1 = (b.toNat : Int) - 64) := by
  unfold bI
  by_cases h : 65 ≤ b.toNat ∧ b.toNat ≤ 79
  · rw [if_pos h]; exact .inr ⟨by omega, by omega, h, by omega⟩
  · rw [if_neg h]; exact .inl ⟨by omega, h⟩
theorem symsA_no {j : Nat} {last : Int} {c b : UInt8} {r : List UInt8} (h : ¬ (last < (c.toNat : Int) ∧ okSym (c.toNat : Int) = true ∧ (65 ≤ b.toNat ∧ b.toNat ≤ 79))) : symsA (j + 1) last (c :: b :: r) = none := by
  unfold symsA
  rw [if_neg h]
theorem symsA_yes {j : Nat} {last : Int} {c b : UInt8} {r : List UInt8} (h : last < (c.toNat : Int) ∧ okSym (c.toNat : Int) = true ∧ (65 ≤ b.toNat ∧ b.toNat ≤ 79)) : symsA (j + 1) last (c :: b :: r) = (symsA j (c.toNat : Int) r).map fun x => (⟨(c.toNat : Int), (b.toNat : Int) - 64⟩ :: x.1, x.2) := by
  conv => lhs; unfold symsA
  rw [if_pos h]
theorem okSym_10 {c : UInt8} (h : c.toNat = 10) : okSym (c.toNat : Int) = true := by rw [h]; rfl
theorem okSym_not {c : UInt8} (h : c.toNat ≠ 10) : okSym (c.toNat : Int) = okByte c := by
  unfold okSym okByte
  rw [show ((c.toNat : Int) == 10) = false by rw [beq_eq_false_iff_ne]; omega, Bool.false_or]
theorem j_up2 {j : Nat} (gj : wrap64 ((j : Int) + 1) = (j : Int) + 1) : Value.int .i64 (wrap64 ((j : Int) + 1)) = .int .i64 ((j + 1 : Nat) : Int) := by rw [gj]; rfl
theorem n_meas {j n : Nat} (gj : wrap64 ((j : Int) + 1) = (j : Int) + 1) (h : j < n) : n - (intOf (.int .i64 (wrap64 ((j : Int) + 1)))).toNat < n - (intOf (.int .i64 (j : Int))).toNat := by
  rw [gj]
  simp only [intOf]
  omega
theorem eq10 {c : UInt8} (h : c.toNat = 10) : ((c.toNat : Int) == 10) = true ∧ ((c.toNat : Int) != 10) = false := by rw [h]; exact ⟨rfl, rfl⟩
theorem ne10 {c : UInt8} (h : c.toNat ≠ 10) : ((c.toNat : Int) == 10) = false ∧ ((c.toNat : Int) != 10) = true := by
  have : ((c.toNat : Int) == 10) = false := by rw [beq_eq_false_iff_ne]; omega
  exact ⟨this, by unfold bne; rw [this]; rfl⟩
theorem pass_facts {k n j : Nat} {B1 : Int} {c0 : UInt8} {r' : List UInt8} {l : List Pr} (hkn : k < n) (hj : n - k = j + 1) (hll : l.length = k) (hn : n ≤ 96) (hrk : r'.length + 1 + 1 ≤ 1496) (h2k : 2 * (n - k) ≤ r'.length + 1 + 1) (hB0 : 0 ≤ B1) (hB14 : B1 ≤ 14) :
    wrap64 (c0.toNat : Int) = (c0.toNat : Int) ∧ wrap64 (B1 + 1) = B1 + 1 ∧ (I64 (c0.toNat : Int) ∧ I64 (B1 + 1)) ∧ Hid ((l.length + 1) * Enc.by_ Pr ≤ 140737488355328) ∧ Hid (l.length + 1 ≤ 9223372036854775807) ∧ wrap64 ((k : Int) + 1) = (k : Int) + 1 ∧ Hid (n - (k + 1) = j) ∧ Hid (-1 ≤ (c0.toNat : Int) ∧ (c0.toNat : Int) < 256) ∧ Hid (r'.length ≤ 1496) ∧ Hid (2 * (n - (k + 1)) ≤ r'.length) := by
  have h256 : c0.toNat < 256 := c0.toNat_lt
  refine ⟨wrap64_in _ (by omega) (by omega), wrap64_in _ (by omega) (by omega), ⟨⟨by omega, by omega⟩, ⟨by omega, by omega⟩⟩, Lib.hid ?_, Lib.hid ?_, wrap64_in _ (by omega) (by omega), Lib.hid (by omega), Lib.hid ⟨by omega, by omega⟩, Lib.hid (by omega), Lib.hid (by omega)⟩
  · rw [hll]; simp only [Enc.by_]; omega
  · rw [hll]; omega
theorem formA_short {l : List UInt8} (h : l.length < 4) : formA l = none := by
  match l with
  | a :: b :: c :: d :: r => simp at h; omega
  | [] => rfl
  | [_] => rfl
  | [_, _] => rfl
  | [_, _, _] => rfl

end Go.Proofs.YthcfhmebikcfpaaGreatDoor

namespace Go.Proofs.YthcfhmebikcfpaaGreatDoor
open Go.RowKit

attribute [local go_sem] Holds.drew Holds.alloc Holds.drewN WB.holds Oper.semAt_some

def runeAt (s : ByteArray) (r : Int) : Int := if r < 128 then Lib.indexByte (bys s) r.toNat.toUInt8 else -1
theorem indexByte_no {l : List UInt8} {c : UInt8} (h : ∀ b ∈ l, b ≠ c) : Lib.indexByte l c = -1 := by
  induction l with
  | nil => rfl
  | cons b l ih =>
    have e : (b == c) = false := by rw [beq_eq_false_iff_ne]; exact h b (List.mem_cons_self ..)
    simp only [Lib.indexByte, e, ih (fun b hb => h b (List.mem_cons_of_mem _ hb))]
    rfl
theorem bys_get2 {s : ByteArray} {j : Nat} {x : UInt8} (h : j < s.size) (hx : At (bys s) j x) : s[j]'h = x := by
  have h1 : (bys s)[j]? = some x := hx
  rw [List.getElem?_eq_getElem (show j < (bys s).length from h)] at h1
  exact Option.some.inj h1
set_option maxRecDepth 100000 in
theorem nIndexRune_low (s : ByteArray) (r : Int) (h0 : 0 ≤ r) (h1 : r < 128) (w : World) :
    Calls Tryz.prog 90 #[.string s, .int .i32 r] w (PostV w (.int .i64 (Lib.indexByte (bys s) r.toNat.toUInt8))) := by
  have h := Any.strings_IndexRune_ascii (P := Tryz.prog) (ρ := Tryz.lays160_ren) { Tryz.lays160 with } s r w h0 h1
  exact h.mono fun _ _ ⟨e, hw⟩ => ⟨e, hw ▸ Below.refl _ _⟩
set_option maxRecDepth 100000 in
theorem nIndexRune_err (s : ByteArray) (hs : ∀ b ∈ bys s, b.toNat < 128) (w : World) :
    Calls Tryz.prog 90 #[.string s, .int .i32 65533] w (PostV w (.int .i64 (-1))) := by
  go_enter Tryz.func90, Tryz.ntmps90
  go_wp2
  go_loopw [] (fun w' => ∃ pos : Nat, w' = w.iter s pos) (fun w' => s.size - w'.iterPos w.heap.size)
  case atStart => exact ⟨0, rfl⟩
  case round =>
    obtain ⟨pos, rfl⟩ := hrel
    by_cases hp : pos < s.size
    · have hnx : ∀ ty, (Instr.next (.pointer (some ⟨w.heap.size, 0, none⟩)) true ty).run Tryz.prog (w.iter s pos) = _ := fun ty => run_next_any w s pos ty hp
      obtain ⟨x, hx⟩ := At.mk (show pos < (bys s).length from hp)
      have hsk : s[pos] = x := by
        have h1 : (bys s)[pos]? = some x := hx
        rw [List.getElem?_eq_getElem (show pos < (bys s).length from hp)] at h1
        exact Option.some.inj h1
      have hx1 := hs x hx.mem
      rw [decode_ascii s pos hp (by rw [hsk]; exact hx1), hsk] at hnx
      have g1 : (((x.toNat : Nat) : Int) == 65533) = false := by rw [beq_eq_false_iff_ne]; omega
      have g2 : ¬ ((x.toNat : Nat) : Int) = 65533 := by omega
      go_wp2
      go_roundw
      case rel => exact ⟨pos + 1, rfl⟩
      case measure => simp; omega
    · have hnx : ∀ ty, (Instr.next (.pointer (some ⟨w.heap.size, 0, none⟩)) true ty).run Tryz.prog (w.iter s pos) = _ := fun ty => run_next_end w s pos ty hp
      go_wp2
      go_ret
      exact ⟨rfl, (Below.refl _ _).alloc (Nat.le_refl _) _⟩
set_option maxRecDepth 100000 in
theorem nIndexRune_bad (s : ByteArray) (r : Int) (h1 : ¬ r < 128) (h2 : r ≠ 65533) (hv : Lib.validRune r = false) (w : World) :
    Calls Tryz.prog 90 #[.string s, .int .i32 r] w (PostV w (.int .i64 (-1))) := by
  have h0 : (0 : Int) ≤ r := by omega
  have g2 : (r == 65533) = false := by rw [beq_eq_false_iff_ne]; exact h2
  have cV := Tryz.utf8_ValidRune r w
  rw [hv] at cV
  replace cV := Lib.hid cV
  clear hv
  go_enter Tryz.func90, Tryz.ntmps90
  go_wp2_with (first | (go_at_call 111; refine cV.out.mono ?_; rintro e w2 ⟨rfl, hw2⟩; rw [hw2]))
  go_ret
  exact ⟨rfl, Below.refl _ _⟩
set_option maxRecDepth 100000 in
theorem nIndexRune_high (s : ByteArray) (hs : ∀ b ∈ bys s, b.toNat < 128) (h4 : 4 ≤ s.size) (h9 : s.size ≤ 1000) (r : Int) (h1 : ¬ r < 128) (h2 : r ≠ 65533) (hv : Lib.validRune r = true) (w : World) :
    Calls Tryz.prog 90 #[.string s, .int .i32 r] w (PostV w (.int .i64 (-1))) := by
  have h0 : (0 : Int) ≤ r := by omega
  have g2 : (r == 65533) = false := by rw [beq_eq_false_iff_ne]; exact h2
  have cV := Tryz.utf8_ValidRune r w
  rw [hv] at cV
  obtain ⟨e2, e4, eh⟩ := encode_facts r ((validRune_eq r).trans hv) (by omega)
  obtain ⟨nd, hnd⟩ : ∃ nd, Utf8.encode r = nd := ⟨_, rfl⟩
  rw [hnd] at e2 e4 eh
  obtain ⟨m, hm⟩ : ∃ m, m = nd.size - 1 := ⟨_, rfl⟩
  rw [← hm] at eh
  have hm1 : m < nd.size := by omega
  have hms : m < s.size := by omega
  have hwm : wrap64 ((nd.size : Int) - 1) = (m : Int) := by rw [wrap64_in _ (by omega) (by omega)]; omega
  obtain ⟨c, hc⟩ : ∃ c, nd[m] = c := ⟨_, rfl⟩
  have hc1 := eh hm1
  rw [hc] at hc1
  obtain ⟨x, hx⟩ : ∃ x, s[m] = x := ⟨_, rfl⟩
  have hx1 : x.toNat < 128 := by
    refine hs x ?_
    rw [← hx]
    exact Array.getElem_mem_toList (xs := s.data) hms
  have g3 : ((x.toNat : Int) == (c.toNat : Int)) = false := by rw [beq_eq_false_iff_ne]; omega
  have g4 : ((x.toNat : Int) != (c.toNat : Int)) = true := by rw [bne_iff_ne]; omega
  have hm0 : (0 : Int) ≤ (m : Int) := by omega
  have hmI : (m : Int) < (nd.size : Int) := by omega
  have hmS : (m : Int) < (s.size : Int) := by omega
  have hw1 : wrap64 ((m : Int) + 1) = (m : Int) + 1 := wrap64_in _ (by omega) (by omega)
  have hb0 : (0 : Int) ≤ (m : Int) + 1 := by omega
  have hb1 : (m : Int) + 1 ≤ (s.size : Int) := by omega
  have cI : ∀ W : World, Calls Tryz.prog 67 #[.string (s.extract (m + 1) s.size), .int .u8 (c.toNat : Int)] W fun e w' => e = .returned (.int .i64 (-1)) ∧ W = w' := fun W => by
    have h := Tryz.strings_IndexByte (s.extract (m + 1) s.size) (c.toNat : Int) W
    rw [indexByte_no (fun b hb hbc => by
      have h3 := hs b (mem_extract hb)
      rw [hbc] at h3
      have e : (c.toNat : Int).toNat.toUInt8 = c := by simp
      rw [e] at h3
      omega)] at h
    exact h.mono fun _ _ h => ⟨h.1, h.2.symm⟩
  have H0 : Holds (fun _ => none) w := ⟨fun b o e => by cases e⟩
  replace cV := Lib.hid cV
  clear hv eh e2 e4 hm hc1 hx1 hs
  go_enter Tryz.func90, Tryz.ntmps90
  go_wp2_with (first | (go_at_call 111; refine cV.out.mono ?_; rintro e w2 ⟨rfl, hw2⟩; rw [hw2]))
  refine wp_scope_straight ?_
  go_wp2
  rw [hwm]
  go_loopw [9, 10] (fun i f w' => i = .int .i64 (m : Int) ∧ w' = w) (fun _ _ _ => 0)
  case atStart => exact ⟨rfl, rfl⟩
  case round =>
    obtain ⟨rfl, rfl⟩ := hrel
    go_wp2
    refine wp_scope_straight ?_
    go_wp2
    refine wp_region_quietB (fun _ => none) (by kernel_rfl) (by kernel_rfl) H0 (fun hne => ?_)
    repeat go_big_quiet_step ((first | fail))
    refine wpQuiet_nil ?_
    rintro ⟨w2, hw2, hb2⟩
    clear hne
    go_wp2
    refine wp_region_quietB (fun _ => none) (by kernel_rfl) (by kernel_rfl) hw2 (fun hne => ?_)
    repeat go_big_quiet_step ((first | (go_at_call 67; exact Calls.quietS (cI _))))
    refine wpQuiet_nil ?_
    rintro ⟨w3, hw3, hb3⟩
    clear hne
    go_wp2
    repeat rw [Exit.noGoto_ret]
    go_ret
    exact ⟨rfl, hb2.trans (hb3.mono hb2.size)⟩
theorem nIndexRune_any (s : ByteArray) (hs : ∀ b ∈ bys s, b.toNat < 128) (h4 : 4 ≤ s.size) (h9 : s.size ≤ 1000) (r : Int) (h0 : 0 ≤ r) (w : World) :
    Calls Tryz.prog 90 #[.string s, .int .i32 r] w (PostV w (.int .i64 (runeAt s r))) := by
  unfold runeAt
  by_cases h1 : r < 128
  · rw [if_pos h1]; exact nIndexRune_low s r h0 h1 w
  · rw [if_neg h1]
    by_cases h2 : r = 65533
    · subst h2; exact nIndexRune_err s hs w
    · cases hv : Lib.validRune r
      · exact nIndexRune_bad s r h1 h2 hv w
      · exact nIndexRune_high s hs h4 h9 r h1 h2 hv w
set_option maxRecDepth 100000 in
theorem nContainsRune_any (s : ByteArray) (hs : ∀ b ∈ bys s, b.toNat < 128) (h4 : 4 ≤ s.size) (h9 : s.size ≤ 1000) (r : Int) (h0 : 0 ≤ r) (w : World) :
    Calls Tryz.prog 71 #[.string s, .int .i32 r] w (PostV w (.bool (decide (0 ≤ runeAt s r)))) := by
  have hc := nIndexRune_any s hs h4 h9 r h0 w
  replace hc := Lib.hid hc
  generalize runeAt s r = n at *
  go_enter Tryz.func71, Tryz.ntmps71
  go_wp2_with (first | (go_at_call 90; refine hc.out.mono ?_; rintro e w2 ⟨rfl, hb2⟩))
  go_ret
  exact ⟨rfl, hb2⟩

def sixS : ByteArray := ⟨#[65, 66, 67, 68, 69, 70, 71, 72, 73, 74, 75, 76, 77, 78, 79, 80, 81, 82, 83, 84, 85, 86, 87, 88, 89, 90, 97, 98, 99, 100, 101, 102, 103, 104, 105, 106, 107, 108, 109, 110, 111, 112, 113, 114, 115, 116, 117, 118, 119, 120, 121, 122, 48, 49, 50, 51, 52, 53, 54, 55, 56, 57, 43, 47]⟩
theorem sixS_low : ∀ b ∈ bys sixS, b.toNat < 128 := by
  show ∀ b ∈ lets, b.toNat < 128
  decide
set_option maxRecDepth 100000 in
theorem nParse1_any (r : Int) (h0 : 0 ≤ r) (w : World) : Calls Tryz.prog 70 #[.int .i32 r] w (PostV w (.bool (!decide (0 ≤ runeAt sixS r)))) := by
  have hc := nContainsRune_any sixS sixS_low (by decide) (by decide) r h0 w
  replace hc := Lib.hid hc
  generalize decide (0 ≤ runeAt sixS r) = n at *
  go_enter Tryz.func70, Tryz.ntmps70
  go_wp2_with (first | (go_at_call 71; refine hc.out.mono ?_; rintro e w2 ⟨rfl, hb2⟩))
  go_ret
  exact ⟨rfl, hb2⟩
theorem indexByte_idx (l : List UInt8) (c : UInt8) : Lib.indexByte l c = (match l.idxOf? c with | some n => (n : Int) | none => -1) := by
  induction l with
  | nil => rfl
  | cons b l ih =>
    rw [List.idxOf?_cons]
    simp only [Lib.indexByte]
    by_cases e : b = c
    · rw [if_pos (by rw [e]; exact beq_self_eq_true c), if_pos (by rw [e]; exact beq_self_eq_true c)]; rfl
    · have e2 : (b == c) = false := by rw [beq_eq_false_iff_ne]; exact e
      simp only [e2, Bool.false_eq_true, if_false]
      rw [ih]
      cases l.idxOf? c with
      | none => rfl
      | some n =>
        show (if ((n : Int) == -1) = true then (-1 : Int) else (n : Int) + 1) = _
        rw [if_neg (by rw [beq_iff_eq]; omega)]
        rfl
theorem letN_high {b : UInt8} (h : ¬ b.toNat < 128) : letN b = none := by
  unfold letN
  rw [List.idxOf?_eq_none_iff]
  intro hm
  have : ∀ b ∈ lets, b.toNat < 128 := by decide
  exact h (this b hm)
theorem rune_let (b : UInt8) : decide (0 ≤ runeAt sixS (b.toNat : Int)) = (letN b).isSome := by
  unfold runeAt
  by_cases h : b.toNat < 128
  · rw [if_pos (by omega), indexByte_idx]
    have e : ((b.toNat : Int).toNat).toUInt8 = b := by simp
    rw [e]
    show decide (0 ≤ (match letN b with | some n => (n : Int) | none => -1)) = _
    cases letN b with
    | none => rfl
    | some n => simp
  · rw [if_neg (by omega), letN_high h]; rfl
def noLet (x : Nat) : Bool := !decide (0 ≤ runeAt sixS (x : Int))
theorem noLet_byte (b : UInt8) : noLet b.toNat = !(letN b).isSome := by unfold noLet; rw [rune_let]
theorem noLet_high {x : Nat} (h : 128 ≤ x) : noLet x = true := by
  unfold noLet runeAt
  rw [if_neg (by omega)]; rfl
theorem idx_lets (s : ByteArray) : ∀ (f pos : Nat), s.size ≤ pos + f → decide (0 ≤ Lib.idxFuncFrom noLet true s f pos) = !((bys s).drop pos).all (fun b => (letN b).isSome)
  | 0, pos, h => by
    rw [List.drop_of_length_le (by rw [bys_len]; omega)]; rfl
  | f + 1, pos, h => by
    by_cases hp : pos < s.size
    · obtain ⟨x, hx⟩ := At.mk (show pos < (bys s).length from hp)
      have hsk : s[pos] = x := bys_get2 hp hx
      have hd : (bys s).drop pos = x :: (bys s).drop (pos + 1) := by
        have h1 : (bys s)[pos]? = some x := hx
        obtain ⟨h2, h3⟩ := List.getElem?_eq_some_iff.1 h1
        rw [List.drop_eq_getElem_cons h2, h3]
      rw [hd, List.all_cons]
      unfold Lib.idxFuncFrom
      rw [if_pos hp]
      by_cases ha : x.toNat < 128
      · rw [decode_ascii s pos hp (by rw [hsk]; exact ha), hsk]
        simp only [noLet_byte]
        cases hl : (letN x).isSome
        · simp
        · simp only [Bool.not_true, Bool.false_eq_true, if_false, Bool.true_and]
          exact idx_lets s f (pos + 1) (by omega)
      · have hh := decode_high s pos hp (by rw [hsk]; omega)
        rw [noLet_high hh.1, letN_high ha]
        simp
    · rw [Lib.idxFuncFrom_end _ _ _ _ _ hp, List.drop_of_length_le (by rw [bys_len]; omega)]; rfl
theorem idxFunc_lets (s : ByteArray) : decide (0 ≤ Lib.idxFunc noLet true s) = !(bys s).all (fun b => (letN b).isSome) := idx_lets s s.size 0 (by omega)
/-- strings.ContainsFunc with parse's closure: whether a byte is no letter. -/
theorem nNoLet_any (s : ByteArray) (w : World) :
    Calls Tryz.prog 69 #[.string s, .func (.func 70) #[] #[]] w (PostV w (.bool (!(bys s).all (fun b => (letN b).isSome)))) := by
  have h := Any.strings_ContainsFunc_grows Tryz.laysGw17 70 #[] (fun _ _ => by kernel_rfl) noLet s w (fun W x hx _ => nParse1_any (x : Int) (by omega) W)
  rw [idxFunc_lets] at h
  exact h
end Go.Proofs.YthcfhmebikcfpaaGreatDoor

namespace Go.Proofs.YthcfhmebikcfpaaGreatDoor
open Go.RowKit
open Go.ChangeMaps (setBlock heap_setBlock_same heap_setBlock_other)
attribute [local go_sem] Holds.drew Holds.alloc Holds.drewN WB.holds Oper.semAt_some

instance instEncByte : Enc UInt8 where
  sz := 1
  by_ := 1
  rep := fun _ b cs => cs = [.int .u8 (b.toNat : Int)]
  len := fun h => by rw [h]; rfl
  mono := fun _ h => h
  one := fun h u hu => by rw [h] at hu; simp at hu; subst hu; rfl
theorem eByte : ElemT Tryz.prog 49 5 UInt8 := .mk' (.int .u8 0) Tryz.underlying49 (by kernel_rfl) rfl (by decide)
theorem run_own_str {H : Snap} {base : Nat} {w : World} {v : Value} {l : List UInt8} (o : Own H base w 5 v l) : (convert 49 9 v).run Tryz.prog w = .ok (.string (strB l)) w := by
  obtain ⟨a, c, rfl, _, _⟩ := o.form
  cases a with
  | none =>
    have hl : l = [] := by
      cases l with
      | nil => rfl
      | cons x l =>
        obtain ⟨g, c', ds, e, _⟩ := o.getG (k := 0) (x := x) rfl
        cases e
    subst hl
    rw [run_convert_bytes_string w 49 9 5 none _ c Tryz.underlying49 Tryz.underlying5 Tryz.underlying9]
    rfl
  | some a =>
    refine run_convert_bytes_back w 49 9 5 a c l Tryz.underlying49 Tryz.underlying5 Tryz.underlying9 fun j hj => ?_
    obtain ⟨g, c', ds, e, hd, _, _, _, hc⟩ := o.getG (k := j) (x := l[j]) (by show l[j]? = _; rw [List.getElem?_eq_getElem hj])
    cases e
    have h := hc.1 0 (.int .u8 (l[j].toNat : Int)) (by rw [show ds = [.int .u8 (l[j].toNat : Int)] from hd]; rfl)
    have e1 : (Addr.mk g 0 none).add j = ⟨g, j * Enc.sz UInt8 + 0, none⟩ := by simp [Addr.add, Enc.sz]; omega
    rw [e1]
    exact h

theorem cells3 {H : Snap} {B : Nat} {a b c : Value} {t : TypeId} (h : H B = some (.cells #[a, b, c] t (0, 0))) :
    (∀ w, Holds H w → w.cell? ⟨B, 0, none⟩ = some a) ∧ (∀ w, Holds H w → w.cell? ⟨B, 1, none⟩ = some b) ∧ (∀ w, Holds H w → w.cell? ⟨B, 2, none⟩ = some c) :=
  ⟨fun w hw => by rw [cellH h hw]; rfl, fun w hw => by rw [cellH h hw]; rfl, fun w hw => by rw [cellH h hw]; rfl⟩
def ReadPost (w : World) (H : Snap) (o : Option (List ByteArray)) : Ending → World → Prop := fun e w' =>
  match o with
  | some l => ∃ v H', e = .returned (.tuple #[v, .bool true]) ∧ Ext w H w' H' ∧ Own H' w.heap.size w' 9 v l
  | none => ∃ x, e = .returned (.tuple #[x, .bool false]) ∧ Below w.heap.size w w'

/-! ### The codes that have been met -/

theorem nodup_of_map {α β : Type} {f : α → β} {l : List α} (h : (l.map f).Nodup) : l.Nodup := (List.pairwise_map.1 h).imp fun hne e => hne (by rw [e])
structure Met (l ks : List Pr) (left : Lit → Bool) : Prop where
  sub : ∀ p ∈ ks, p ∈ l
  nd : (ks.map Pr.s).Nodup
  lf : ∀ p ∈ l, left (.int .i64 p.s) = true ↔ p ∉ ks
theorem pr_eq {l : List Pr} (C : IsCode l) {p q : Pr} (hp : p ∈ l) (hq : q ∈ l) (h : p.s = q.s) : p = q := codeOf_inj C hp hq (by rw [h])
theorem Met.start {l : List Pr} {left : Lit → Bool} (h : ∀ p ∈ l, left (.int .i64 p.s) = true) : Met l [] left := ⟨by simp, by simp, fun p hp => by simp [h p hp]⟩
theorem Met.next {l ks : List Pr} {left : Lit → Bool} (m : Met l ks left) (C : IsCode l) {p : Pr} (hp : p ∈ l) (hl : left (.int .i64 p.s) = true) : p ∉ ks ∧ Met l (ks ++ [p]) (fun z => left z && !z.sameKey (.int .i64 p.s)) := by
  have hn := (m.lf p hp).1 hl
  refine ⟨hn, ⟨fun q hq => ?_, ?_, fun q hq => ?_⟩⟩
  · rcases List.mem_append.1 hq with h | h
    · exact m.sub q h
    · rw [List.mem_singleton.1 h]; exact hp
  · rw [List.map_append, List.nodup_append]
    refine ⟨m.nd, by simp, fun a ha b hb e => ?_⟩
    simp only [List.map_cons, List.map_nil, List.mem_singleton] at hb
    obtain ⟨q, hq, rfl⟩ := List.mem_map.1 ha
    have := pr_eq C (m.sub q hq) hp (by rw [e, hb])
    rw [this] at hq
    exact hn hq
  · have hk : Lit.sameKey (.int .i64 q.s) (.int .i64 p.s) = decide (q.s = p.s) := by simp [Lit.sameKey]
    rw [hk]
    by_cases e : q.s = p.s
    · have := pr_eq C hq hp e
      subst this
      simp
    · rw [decide_eq_false e]
      have : q ∉ [p] := fun h => e (by rw [List.mem_singleton.1 h])
      simp only [Bool.not_false, Bool.and_true, List.mem_append, not_or]
      exact ⟨fun h => ⟨(m.lf q hq).1 h, this⟩, fun h => (m.lf q hq).2 h.1⟩
theorem Met.perm {l ks : List Pr} {left : Lit → Bool} (m : Met l ks left) (C : IsCode l) (h : ∀ kl, left kl = false) : ks.Perm l := by
  have nd1 : ks.Nodup := nodup_of_map m.nd
  have nd2 : l.Nodup := nodup_of_map (f := Pr.s) (C.rise.imp fun h => by omega)
  refine (List.perm_ext_iff_of_nodup nd1 nd2).2 fun p => ⟨m.sub p, fun hp => ?_⟩
  cases hd : decide (p ∈ ks) with
  | true => exact of_decide_eq_true hd
  | false =>
    have := (m.lf p hp).2 (of_decide_eq_false hd)
    rw [h] at this
    cases this
theorem codeKV_fit {l m : List Pr} (C : IsCode l) (hp : m.Perm l) (hl : l.length ≤ 1000) : FitKV (codeKV l m) := by
  refine ⟨codeKV_keys C.rise hp, fun kv hkv => ?_, fun kv hkv => ?_, ?_⟩
  · unfold codeKV at hkv
    obtain ⟨p, hpm, rfl⟩ := List.mem_map.1 hkv
    have := C.pos p (hp.mem_iff.1 hpm)
    simp [Lit.wf, IntKind.min, IntKind.max, IntKind.signed, IntKind.bits]; omega
  · unfold codeKV at hkv
    obtain ⟨p, hpm, rfl⟩ := List.mem_map.1 hkv
    have := codeOf_len C.b15 p.s
    show (codeOf l p.s).length ≤ maxLen
    unfold maxLen; omega
  · unfold codeKV; rw [List.length_map, hp.length_eq]; unfold maxLen; omega
theorem symKV_snoc (l ks : List Pr) (p : Pr) : symKV l (ks ++ [p]) = symKV l ks ++ [(strB (codeOf l p.s), p.s)] := by unfold symKV; rw [List.map_append]; rfl

end Go.Proofs.YthcfhmebikcfpaaGreatDoor

namespace Go.Proofs.YthcfhmebikcfpaaGreatDoor
open Go.RowKit
open Go.ChangeMaps (setBlock heap_setBlock_same heap_setBlock_other)
attribute [local go_sem] Holds.drew Holds.alloc Holds.drewN WB.holds Oper.semAt_some

set_option maxRecDepth 100000 in
set_option maxHeartbeats 4000000 in
theorem nRead_any (many : Nat) (hmany : many ≤ 20) (l : List Pr) (hl : l.length ≤ 100) (s : ByteArray) (hr : s.size ≤ 1500) (hall : (bys s).all (fun b => (letN b).isSome) = true) (v : Value) (H : Snap) (w : World) (hw : Holds H w) (hs : Sl H v l) :
    Calls Tryz.prog 47 #[.agg #[.int .i64 (many : Int), v, .string s]] w (ReadPost w H (textsA many l (unsix (bys s)))) := by
  obtain ⟨va, vc, rfl, _, _⟩ := hs.form
  cases g : isCodeA l
  · have e : textsA many l (unsix (bys s)) = none := by unfold textsA; rw [g]; rfl
    rw [e]
    have hic : ∀ (H1 : Snap) (W : World), Holds H1 W → Sl H1 (.slice va l.length vc) l → Calls Tryz.prog 50 #[.slice va l.length vc] W (PostV W (.bool false)) := fun H1 W h s => by rw [← g]; exact nIsCode_any _ l (by omega) H1 W h s
    clear g e hall
    go_enter Tryz.func47, Tryz.ntmps47
    go_wp2_with (first | ((have hgd := hw1; clear hgd; go_at_call 50; go_must (refine (hic H1 _ hw1 (hs.mono hle)).mono ?_); rintro e w2 ⟨rfl, hb2⟩)) | ((refine wpList_boxF rfl _ rfl (Ext.refl hw) ?_; intro B w1 H1 hle hx hB hBw; obtain ⟨hc0, hc1, hc2⟩ := cells3 hB; clear hB; have hw1 := hx.holds)))
    go_ret2
    exact ⟨_, rfl, hx.below.trans (hb2.mono hx.below.size)⟩
  · have C := isCodeA_code g
    have hic : ∀ (H1 : Snap) (W : World), Holds H1 W → Sl H1 (.slice va l.length vc) l → Calls Tryz.prog 50 #[.slice va l.length vc] W (PostV W (.bool true)) := fun H1 W h s => by rw [← g]; exact nIsCode_any _ l (by omega) H1 W h s
    obtain ⟨R, hR⟩ : ∃ R, R = textsA many l (unsix (bys s)) := ⟨_, rfl⟩
    rw [← hR]
    have hR2 : R = (match decA many l ((unsix (bys s)).length + 1) [] [] (unsix (bys s)) with
        | none => none
        | some (out, z) => if restOk z then some out else none) := by rw [hR]; unfold textsA; rw [g]; rfl
    replace hR2 := Lib.hid hR2
    have hperm := sortA_perm l
    have F := codeKV_fit C hperm (by omega)
    clear hR g
    go_enter Tryz.func47, Tryz.ntmps47
    go_upto_region 3 with (first | (have hgd := hw1; clear hgd; go_at_call 50; go_must (refine (hic H1 _ hw1 (hs.mono hle)).mono ?_); rintro e w2 ⟨rfl, hb2⟩) | (refine wpList_boxF rfl _ rfl (Ext.refl hw) ?_; intro B w1 H1 hle hx hB hBw; obtain ⟨hc0, hc1, hc2⟩ := cells3 hB; clear hB; have hw1 := hx.holds))
    have hw2 := hw1.below hb2
    have x2 := hx.step (hb2.mono hx.below.size) hw2
    have hs1 := hs.mono hle
    have hmm := fun w => run_makeMap (P := Tryz.prog) 107 w
    have x3 := x2.alloc (.map #[] 0)
    have hS3 := heap_alloc_new w2 (.map #[] 0)
    have hSH : H1 w2.heap.size = none := hw2.none_of_ge (Nat.le_refl _)
    have hSw := x2.below.size
    clear hic hs
    go_upto_region 4 with fail
    generalize w2.heap.size = SB at *
    generalize w2.alloc (.map #[] 0) = w3 at *
    clear x2 hmm hx hw1 hw2 hb2 hBw
    have hw3 := x3.holds
    have hSl : SB < w3.heap.size := (Array.getElem?_eq_some_iff.1 hS3).1
    go_wp2_with (first | (at_range; have hgd := hM; clear hgd; refine wpList_range_own _ rfl _ 59 rfl 3 9 keyed_n Tryz.underlying59 (plainElem Tryz.prog 9) MB (codeKV l (sortA l)).length D rfl hown ?_; intro w5 hrg5 hg5 hs5) | (go_at_call 33; go_must (refine (nCoded_any _ l (by omega) C H1 _ hw3 hs1).mono ?_); rintro e w4 ⟨MB, rfl, y4, hMs, hM⟩; obtain ⟨D, hown, hD⟩ := F.owns hM))
    go_frame
    have hMH : H1 MB = none := hw3.none_of_ge hMs
    have hwM : w.heap.size ≤ MB := Nat.le_trans x3.below.size hMs
    have hS4 := (y4.below.block SB hSl).trans hS3
    have x4 := (x3.trans y4).freeze hwM hM
    have hle2 := Snap.le_put hMH (mapKV (codeKV l (sortA l)))
    have hM2 := Snap.put_same H1 MB (mapKV (codeKV l (sortA l)))
    have hSM : SB ≠ MB := Nat.ne_of_lt (Nat.lt_of_lt_of_le hSl hMs)
    have hSH2 : (H1.put MB (mapKV (codeKV l (sortA l)))) SB = none := (Snap.put_other H1 _ hSM).trans hSH
    generalize H1.put MB (mapKV (codeKV l (sortA l))) = H2 at *
    have hc0 := lift hle2 hc0
    have hc2 := lift hle2 hc2
    have x5 : Ext w H w5 H2 := ⟨x4.below.grown hg5 x4.below.size (fun _ e => by cases e), x4.holds.grown hg5 (fun _ e => by cases e), x4.same⟩
    have hSl4 : SB < w4.heap.size := Nat.lt_of_lt_of_le hSl y4.below.size
    have hS5 := (hg5.block SB hSl4 (by simp)).trans hS4
    have hr1 : H2 w4.heap.size = none := x4.holds.none_of_ge (Nat.le_refl _)
    have hr1b : w.heap.size ≤ w4.heap.size := x4.below.size
    have hSr : SB ≠ w4.heap.size := Nat.ne_of_lt hSl4
    have hst : Met l [] (Maps.has D) := Met.start fun p hp => (hD (p.s, strB (codeOf l p.s)) (List.mem_map.2 ⟨p, hperm.mem_iff.2 hp, rfl⟩)).1
    have hD2 := fun kv h => (hD kv h).2
    clear hD hg5 hs5 hS4 hS3 hSl hSl4 x3 x4 y4 hM hw3 hMs hMH hown hs1 hle2
    generalize w4.heap.size = RB at *
    generalize sortA l = ms at *
    go_loopw [] (fun wr => ∃ (left : Lit → Bool) (cnt : Nat) (ks : List Pr), wr.ranges Tryz.prog 3 (plainElem Tryz.prog 9) MB RB (codeKV l ms).length D left cnt ∧ Met l ks left ∧ wr.heap[SB]? = some (mapSK (symKV l ks)) ∧ Ext w H wr H2) (fun wr => wr.rangeLeft MB RB)
    case atStart => exact ⟨_, _, [], hrg5, hst, hS5, x5⟩
    case round =>
      clear hrg5 hst hS5 x5
      obtain ⟨left, cnt, ks, hrg, met, hSr2, xr⟩ := hrel
      have hwr := xr.holds
      have hMr := hwr.at_ MB _ hM2
      go_upto_region 6 with (at_next; refine wpList_nextKV rfl _ rfl F hD2 hMr rfl hrg ?_ ?_)
      · intro hcz hl0
        have hp := met.perm C hl0
        have x6 := xr.freeze (b := SB) hSw hSr2
        have hle3 := Snap.le_put hSH2 (mapSK (symKV l ks))
        have hS3 := Snap.put_same H2 SB (mapSK (symKV l ks))
        have hkeys := symKV_keys C met.sub met.nd
        generalize H2.put SB (mapSK (symKV l ks)) = H3 at *
        have hc0 := lift hle3 hc0
        have hc2 := lift hle3 hc2
        clear met hrg hMr hwr xr hSr2 hD2 F hM2 hr1 hSr hr1b hwM hSM hSH2 hcz hl0 hSH hc1 hle hle3
        have hbu := Bu.fresh wr
        have xb := x6.alloc (.cells #[.pointer none, .slice none 0 0] 51)
        have hlt3 := fun b o (e : H3 b = some o) => x6.holds.lt e
        have hBw := x6.below.size
        go_upto_region 9 with fail
        have hbl : wr.heap.size < (wr.alloc (.cells #[.pointer none, .slice none 0 0] 51)).heap.size := by simp
        generalize wr.alloc (.cells #[.pointer none, .slice none 0 0] 51) = wb at *
        generalize wr.heap.size = BB at *
        clear x6
        have hwb := xb.holds
        replace hlt3 := Lib.hid hlt3
        go_wp2
        go_loopw [38] (fun i wq => ∃ k : Nat, k ≤ s.size ∧ i = .int .i64 (k : Int) ∧ Bu BB BB (unsix ((bys s).take k)) wq ∧ Below BB wb wq) (fun i _ => s.size - (intOf i).toNat)
        case atStart => exact ⟨0, Nat.zero_le _, rfl, hbu, Below.refl _ _⟩
        case round =>
          clear hwb hbu
          obtain ⟨k, hk, rfl, hbq, hbelow⟩ := hrel
          have xr := xb.stepB hlt3.out hBw hbelow
          have hwr := xr.holds
          have hk0 : (0 : Int) ≤ (k : Int) := by omega
          by_cases hlk : k < s.size
          · obtain ⟨x, hx⟩ := At.mk (show k < (bys s).length from hlk)
            have hk1 : (k : Int) < (s.size : Int) := by omega
            have hsk : s[k] = x := by
              have h1 : (bys s)[k]? = some x := hx
              rw [List.getElem?_eq_getElem (show k < (bys s).length from hlk)] at h1
              exact Option.some.inj h1
            obtain ⟨n, hn⟩ : ∃ n, letN x = some n := Option.isSome_iff_exists.1 (List.all_eq_true.1 hall x hx.mem)
            have hn64 := letN_lt hn
            have cI : ∀ W : World, Calls Tryz.prog 67 #[.string sixS, .int .u8 (x.toNat : Int)] W fun e w' => e = .returned (.int .i64 (n : Int)) ∧ w' = W := fun W => by
              have h := Tryz.strings_IndexByte sixS (x.toNat : Int) W
              have e : (x.toNat : Int).toNat.toUInt8 = x := by simp
              rw [e, show sixS.data.toList = lets from rfl, indexByte_idx, show lets.idxOf? x = some n from hn] at h
              exact h
            have hnext : unsix ((bys s).take (k + 1)) = unsix ((bys s).take k) ++ binB n 6 := by rw [hx.take, unsix_snoc, hn]; rfl
            have hul : (unsix ((bys s).take k)).length ≤ 9000 := by rw [unsix_len, List.length_take, bys_len]; omega
            generalize unsix ((bys s).take k) = U at *
            replace hnext := Lib.hid hnext
            replace hul := Lib.hid hul
            have hg : wrap64 ((k : Int) + 1) = (k : Int) + 1 := wrap64_in _ (by omega) (by omega)
            clear hn hx
            go_wp2_with (first | (go_at_call 67; refine (cI _).mono ?_; rintro e w' ⟨rfl, rfl⟩))
            clear cI hsk
            have hbin := binB_len 6 n
            replace hbin := Lib.hid hbin
            replace hg := Lib.hid hg
            replace hk1 := Lib.hid hk1
            replace hk0 := Lib.hid hk0
            go_loopw [10] (fun i wq => ∃ j : Nat, j ≤ 6 ∧ i = .int .i64 ((j : Int) - 1) ∧ Bu BB BB (U ++ (binB n 6).take (6 - j)) wq ∧ Below BB wb wq) (fun i _ => (intOf i + 1).toNat)
            case atStart => exact ⟨6, Nat.le_refl _, rfl, by rw [Nat.sub_self, List.take_zero, List.append_nil]; exact hbq, hbelow⟩
            case round =>
              clear hbq hbelow xr hwr
              obtain ⟨j, hj, rfl, hbq, hbelow⟩ := hrel
              by_cases hj0 : 0 < j
              · obtain ⟨t, rfl⟩ : ∃ t, j = t + 1 := ⟨j - 1, by omega⟩
                have hti : ((t + 1 : Nat) : Int) - 1 = (t : Int) := by omega
                rw [hti]
                have ht0 : (0 : Int) ≤ (t : Int) := by omega
                have hdv : ((n / 2 ^ t : Nat) : Int) = (n : Int) / 2 ^ t := by simp
                have hand : bits BinOp.and IntKind.i64 ((n : Int) / 2 ^ t) 1 = ((n / 2 ^ t % 2 : Nat) : Int) := by
                  rw [← hdv]
                  exact Go.Proofs.and_one _ (Nat.lt_of_le_of_lt (Nat.div_le_self n (2 ^ t)) (Nat.lt_of_lt_of_le hn64 (by decide)))
                obtain ⟨c, hc⟩ : ∃ c : UInt8, c = (if n / 2 ^ t % 2 = 0 then 48 else 49) := ⟨_, rfl⟩
                have hbyte : (48 + bits BinOp.and IntKind.i64 ((n : Int) / 2 ^ t) 1 % 256) % 256 = (c.toNat : Int) := by
                  rw [hand, hc]
                  rcases Nat.mod_two_eq_zero_or_one (n / 2 ^ t) with h | h
                  · rw [h]; rfl
                  · rw [h]; rfl
                have hat : At (binB n 6) (6 - (t + 1)) c := by
                  have := binB_at 6 n t (by omega)
                  rw [show 6 - 1 - t = 6 - (t + 1) by omega, ← hc] at this
                  exact this
                have htk := hat.take
                rw [show 6 - (t + 1) + 1 = 6 - t by omega] at htk
                have hwt : wrap64 ((t : Int) - 1) = (t : Int) - 1 := wrap64_in _ (by omega) (by omega)
                have hlen : (U ++ (binB n 6).take (6 - (t + 1))).length ≤ 1000000 := by rw [List.length_append, List.length_take]; have := hul.out; have := hbin.out; omega
                replace htk := Lib.hid htk
                clear hand hdv hc hat
                go_wp2_with (first | (go_at_call 32; go_must (rw [hbyte]; refine (bu_byte c hbq hlen (Nat.le_trans (Nat.le_of_lt hbl) hbelow.size)).mono ?_); rintro e w3 ⟨rfl, hbu3, hb3⟩))
                go_roundw
                case rel => exact ⟨t, by omega, by go_num, by rw [htk.out, ← List.append_assoc]; exact hbu3, hbelow.trans hb3⟩
                case measure => simp [intOf] <;> omega
              · have hjj0 : j = 0 := by omega
                subst hjj0
                rw [Nat.sub_zero, List.take_of_length_le (Nat.le_of_eq hbin.out), ← hnext.out] at hbq
                go_wp2
                go_roundw
                case rel => exact ⟨k + 1, hlk, rfl, hbq, hbelow⟩
                case measure => simp [intOf] <;> omega
          · have hfin : (bys s).take k = bys s := List.take_of_length_le (by rw [bys_len]; omega)
            rw [hfin] at hbq
            clear hfin
            have hkn : ¬ (k : Int) < (s.size : Int) := by omega
            have hul : (unsix (bys s)).length ≤ 9000 := by rw [unsix_len, bys_len]; omega
            clear hr hall hlk hk0
            generalize unsix (bys s) = bits0 at *
            go_wp2_with (first | (go_at_call 36; refine (bu_str hbq (Nat.le_trans (Nat.le_of_lt hbl) hbelow.size)).mono ?_; rintro e w8 ⟨rfl, hb8⟩; have x8 := xb.stepB hlt3.out hBw (hbelow.trans hb8)))
            clear hbq hbelow xr hwr xb hbl hkn
            go_loopw [2, 11, 12] (fun tv bv ov wq => ∃ (f : Nat) (out : List ByteArray) (own : List UInt8) (t : ByteArray), bv = .string t ∧ Hid (t.size ≤ f ∧ f ≤ 9000 ∧ own.length + f ≤ 9000 ∧ out.length ≤ many) ∧ Ext w H wq H3 ∧ Own H3 w.heap.size wq 9 tv out ∧ Own H3 w.heap.size wq 5 ov own ∧ Hid (decA many l (bits0.length + 1) [] [] bits0 = decA many l (f + 1) out own (bys t))) (fun _ bv _ _ => strLen bv)
            case atStart => exact ⟨bits0.length, [], [], strB bits0, rfl, Lib.hid ⟨Nat.le_refl _, hul, by simpa using hul, Nat.zero_le _⟩, x8, Own.nil _ _ _ _, Own.nil _ _ _ _, Lib.hid rfl⟩
            case round =>
              clear x8 hul
              obtain ⟨f, out, own, t, rfl, hbnd, xr, oT, oB, hdec⟩ := hrel
              obtain ⟨ta, tc, htv, _, _⟩ := oT.form
              subst htv
              obtain ⟨ba, bc, hbv, _, _⟩ := oB.form
              subst hbv
              have hwr := xr.holds
              have htb : Hid (t = strB (bys t)) := Lib.hid rfl
              replace hdec := Lib.hid hdec
              by_cases hlt : out.length < many
              · have hltI : decide ((out.length : Int) < (many : Int)) = true := decide_eq_true (by omega)
                obtain ⟨M, hM⟩ : ∃ M : Nat, M = min t.size 15 := ⟨_, rfl⟩
                have hMI : min (t.size : Int) 15 = (M : Int) := by omega
                have hM1 : M ≤ t.size := by omega
                have hM2 : M ≤ 15 := by omega
                have hM3 : t.size ≤ M ∨ 15 ≤ M := by omega
                replace hM1 := Lib.hid hM1
                replace hM2 := Lib.hid hM2
                replace hM3 := Lib.hid hM3
                replace hlt := Lib.hid hlt
                clear hM
                go_wp2
                clear hMI hltI
                go_loopw [13] (fun i wq => ∃ j : Nat, 1 ≤ j ∧ j ≤ M + 1 ∧ i = .int .i64 (j : Int) ∧ wq = wr ∧ Hid (∀ k, 1 ≤ k → k < j → hasSK (symKV l ks) (strB ((bys t).take k)) = false)) (fun i _ => M + 1 - (intOf i).toNat)
                case atStart => exact ⟨1, Nat.le_refl _, by omega, rfl, rfl, Lib.hid (fun t h1 h2 => by omega)⟩
                case round =>
                  obtain ⟨j, hj1, hjM, rfl, hwe, hno⟩ := hrel
                  subst hwe
                  by_cases hjm : j ≤ M
                  · have hjI : decide ((j : Int) ≤ (M : Int)) = true := decide_eq_true (by omega)
                    have hx1 : t.extract 0 j = strB ((bys t).take j) := by have e := strB_extract (bys t) 0 j; rw [List.drop_zero] at e; exact e
                    have hjt : j ≤ t.size := by have := hM1.out; omega
                    have hjb : (j : Int) ≤ (t.size : Int) := by omega
                    have hjb0 : (0 : Int) ≤ (j : Int) := by omega
                    have hlook := run_lookSK (hwr.at_ SB _ hS3) hkeys (strB ((bys t).take j))
                    cases hh : hasSK (symKV l ks) (strB ((bys t).take j))
                    · rw [hh] at hlook
                      have hl2 := hlook.2
                      have hg : wrap64 ((j : Int) + 1) = (j : Int) + 1 := wrap64_in _ (by have := hM2.out; omega) (by have := hM2.out; omega)
                      clear hlook
                      have hj1h := Lib.hid hj1
                      have hjMh := Lib.hid hjM
                      have hjmh := Lib.hid hjm
                      clear hj1 hjM hjm
                      go_wp2
                      go_roundw
                      case rel => exact ⟨j + 1, Nat.succ_pos j, Nat.succ_le_succ hjmh.out, j_up2 hg, trivial, Lib.hid fun k h1 h2 => by
                        by_cases e : k = j
                        · rw [e]; exact hh
                        · exact hno.out k h1 (Nat.lt_of_le_of_ne (Nat.le_of_lt_succ h2) e)⟩
                      case measure => exact n_meas hg (Nat.lt_succ_of_le hjmh.out)
                    · rw [hh] at hlook
                      obtain ⟨i, hfi, hbi, hil, hli⟩ := sym_first C hp (by rw [bys_len]; exact hjt) hh
                      rw [hli] at hlook
                      obtain ⟨hl1, hl2⟩ := hlook
                      have hjI2 : ¬ (M : Int) < (j : Int) := by omega
                      have hjI3 : ¬ M < j := by omega
                      have hx2 : t.extract j t.size = strB ((bys t).drop j) := by have e := strB_extract (bys t) j t.size; rw [List.take_of_length_le (by rw [bys_len]; exact Nat.le_refl _)] at e; exact e
                      have hps : 0 ≤ symI l i ∧ symI l i < 256 := by
                        have hai : At l i l[i] := by show l[i]? = _; rw [List.getElem?_eq_getElem hil]
                        rw [symI_at hai]
                        exact C.pos _ (List.getElem_mem hil)
                      have hdec1 := hdec.out.out
                      have hnl : ¬ many ≤ out.length := by have := hlt.out; omega
                      obtain ⟨f', rfl⟩ : ∃ f', f = f' + 1 := ⟨f - 1, by have := hbnd.out; have := hbnd.out.1; omega⟩
                      have hbnd2 : ((bys t).drop j).length ≤ f' ∧ own.length + f' ≤ 8999 ∧ f' ≤ 8999 := by have := hbnd.out; rw [List.length_drop, bys_len]; omega
                      have hms : strLen (.string (strB ((bys t).drop j))) < strLen (.string t) := by
                        show ((bys t).drop j).length < t.size
                        rw [List.length_drop, bys_len]; omega
                      replace hms := Lib.hid hms
                      replace hbnd2 := Lib.hid hbnd2
                      have hol : out.length + 1 ≤ many := by have := hlt.out; omega
                      replace hol := Lib.hid hol
                      clear hbnd hdec hh hno hil hli hj1 hjM hjm hjt
                      by_cases h10 : symI l i = 10
                      · rw [decA_ten hnl hfi h10, hbi] at hdec1
                        replace hdec1 := Lib.hid hdec1
                        clear hfi hnl hps hbi
                        have hcv := run_own_str oB
                        have hb9 := hbnd2.out
                        have hrep : Enc.rep H3 (strB own) [.string (strB own)] := ⟨rfl, show own.length ≤ _ by omega⟩
                        have hnx : (strB ((bys t).drop j)).size ≤ f' ∧ f' ≤ 9000 ∧ ([] : List UInt8).length + f' ≤ 9000 ∧ (out ++ [strB own]).length ≤ many := ⟨hb9.1, by omega, by rw [List.length_nil]; omega, by rw [List.length_append]; exact hol.out⟩
                        have hbS : (out.length + 1) * Enc.by_ ByteArray ≤ 140737488355328 := by have := hol.out; simp only [Enc.by_]; omega
                        have hb63 : out.length + 1 ≤ 9223372036854775807 := by have := hol.out; omega
                        replace hrep := Lib.hid hrep
                        replace hnx := Lib.hid hnx
                        replace hbS := Lib.hid hbS
                        replace hb63 := Lib.hid hb63
                        clear hb9
                        go_wp2_with (first | (at_builtin; go_must (refine wpList_app1 (c := 1) eStr rfl _ _ rfl rfl oT rfl hrep.out xr.holds hbS.out hb63.out xr.below.size ?_); intro v' w' own' gw hw' _; have xr' := (xr.alloc _).grown gw (fun k hk => (oT.lt k hk).1) (fun k hk => oT.free k hk)))
                        go_roundw
                        case rel => exact ⟨f', out ++ [strB own], [], strB ((bys t).drop j), rfl, hnx, xr', own', Own.nil _ _ _ _, hdec1⟩
                        case measure => exact hms.out
                      · rw [decA_sym hnl hfi h10, hbi] at hdec1
                        obtain ⟨hy0, hy1⟩ := hps
                        have hcb := byte_conv hy0 hy1
                        generalize symI l i = y at *
                        generalize y.toNat.toUInt8 = x at *
                        replace hdec1 := Lib.hid hdec1
                        have h10b : (y == 10) = false := beq_eq_false_iff_ne.2 h10
                        clear hfi hnl hbi hy0 hy1
                        have hb9 := hbnd2.out
                        have hrep : Enc.rep H3 x [.int .u8 (x.toNat : Int)] := rfl
                        have hnx : (strB ((bys t).drop j)).size ≤ f' ∧ f' ≤ 9000 ∧ (own ++ [x]).length + f' ≤ 9000 ∧ out.length ≤ many := ⟨hb9.1, by omega, by rw [List.length_append, List.length_singleton]; omega, by have := hol.out; omega⟩
                        have hbS : (own.length + 1) * Enc.by_ UInt8 ≤ 140737488355328 := by simp only [Enc.by_]; omega
                        have hb63 : own.length + 1 ≤ 9223372036854775807 := by omega
                        replace hrep := Lib.hid hrep
                        replace hnx := Lib.hid hnx
                        replace hbS := Lib.hid hbS
                        replace hb63 := Lib.hid hb63
                        clear hb9
                        go_wp2_with (first | (at_builtin; go_must (refine wpList_app1 (c := 1) eByte rfl _ _ rfl rfl oB rfl hrep.out xr.holds hbS.out hb63.out xr.below.size ?_); intro v' w' own' gw hw' _; have xr' := (xr.alloc _).grown gw (fun k hk => (oB.lt k hk).1) (fun k hk => oB.free k hk); have oT' := Own.kept_other (oB.alloc _) gw (by decide) (oT.alloc _)))
                        go_roundw
                        case rel => exact ⟨f', out, own ++ [x], strB ((bys t).drop j), rfl, hnx, xr', oT', own', hdec1⟩
                        case measure => exact hms.out
                  · have hjI : ¬ (j : Int) ≤ (M : Int) := by omega
                    have hjI2 : (M : Int) < (j : Int) := by omega
                    have hjI3 : M < j := by omega
                    have hnone := sym_none C hp (bits := bys t) (fun k h1 h2 h3 => hno.out k h1 (by rw [bys_len] at h2; have := hM3.out; omega))
                    have hRn : R = none := by rw [hR2.out, hdec.out.out, decA_none (by have := hlt.out; omega) hnone]
                    subst hRn
                    clear hno hnone hdec hjM hjm hj1 hbnd
                    go_wp2
                    go_ret2
                    exact ⟨_, rfl, xr.below⟩
              · have hltI : ¬ (out.length : Int) < (many : Int) := by omega
                have hltN : ¬ out.length < many := hlt
                have hRn : R = if restOk (bys t) then some out else none := by rw [hR2.out, hdec.out.out, decA_done (by omega)]
                have htz : t.size ≤ 9223372036854775807 := by have := hbnd.out; omega
                clear hdec hR2 hbnd hlt
                have hTr : ∀ W, Calls Tryz.prog 72 #[.string t, .string ⟨#[48]⟩] W fun e w' => e = .returned (.string ⟨(Lib.trimB t.data.toList 48).toArray⟩) ∧ (w' = W ∨ w' = W.drew) := fun W => Tryz.strings_Trim_one t 48 (by decide) W htz
                by_cases h6 : t.size < 6
                · have h6I : (t.size : Int) < 6 := by omega
                  have hbt : bys t = t.data.toList := rfl
                  cases hal : (bys t).all (· == 48)
                  · have hne : ¬ (⟨(Lib.trimB t.data.toList 48).toArray⟩ : ByteArray) = ⟨#[]⟩ := fun e => by
                      have e2 : Lib.trimB t.data.toList 48 = [] := by simpa using congrArg (fun b => b.data.toList) e
                      have h2 := (trim_nil _).1 e2
                      rw [← hbt, hal] at h2
                      cases h2
                    have hq := beq_bytes_ne hne
                    have hqe : (⟨(Lib.trimB t.data.toList 48).toArray⟩ : ByteArray).toList.isEmpty = false := by
                      rw [ByteArray.toList_eq]
                      cases hl : (Lib.trimB t.data.toList 48) with
                      | nil => exact absurd (by rw [hl]) hne
                      | cons _ _ => rfl
                    have hRn2 : R = none := by
                      rw [hRn]
                      have : restOk (bys t) = false := by unfold restOk; rw [hal, Bool.and_false]
                      rw [this]; rfl
                    subst hRn2
                    generalize (⟨(Lib.trimB t.data.toList 48).toArray⟩ : ByteArray) = q at *
                    clear hRn hal hbt h6
                    replace hTr := Lib.hid hTr
                    go_wp2_with (first | (go_at_call 72; go_must (refine (hTr.out _).mono ?_); rintro e w9 ⟨rfl, hw9⟩; have x9 : Ext w H w9 H3 := (hw9.elim (fun e => e ▸ xr) (fun e => e ▸ xr.drew))))
                    go_ret2
                    exact ⟨_, rfl, x9.below⟩
                  · have he : (⟨(Lib.trimB t.data.toList 48).toArray⟩ : ByteArray) = ⟨#[]⟩ := by
                      rw [(trim_nil t.data.toList).2 (by rw [← hbt]; exact hal)]
                    have hRn2 : R = some out := by
                      rw [hRn]
                      have : restOk (bys t) = true := by unfold restOk; rw [hal, bys_len, decide_eq_true (by omega)]; rfl
                      rw [this]; rfl
                    subst hRn2
                    simp only [he] at hTr
                    clear hRn hal hbt h6 he
                    replace hTr := Lib.hid hTr
                    go_wp2_with (first | (go_at_call 72; go_must (refine (hTr.out _).mono ?_); rintro e w9 ⟨rfl, hw9⟩; have x9 : Ext w H w9 H3 := (hw9.elim (fun e => e ▸ xr) (fun e => e ▸ xr.drew)); have o9 : Own H3 w.heap.size w9 9 (.slice ta out.length tc) out := (hw9.elim (fun e => e ▸ oT) (fun e => e ▸ oT.drew))))
                    go_ret2
                    exact ⟨_, H3, rfl, x9, o9⟩
                · have h6I : ¬ (t.size : Int) < 6 := by omega
                  have hRn2 : R = none := by
                    rw [hRn]
                    have : restOk (bys t) = false := by unfold restOk; rw [bys_len, decide_eq_false (by omega)]; rfl
                    rw [this]; rfl
                  subst hRn2
                  clear hRn hTr
                  go_wp2
                  go_ret2
                  exact ⟨_, rfl, xr.below⟩
      · intro k s w7 cnt7 hks hlk hrg7 hlt hg7 hs7 hen7
        obtain ⟨p, hpm, e1, e2⟩ : ∃ p ∈ ms, p.s = k ∧ strB (codeOf l p.s) = s := by
          unfold codeKV at hks
          obtain ⟨p, h1, h2⟩ := List.mem_map.1 hks
          cases h2
          exact ⟨p, h1, rfl, rfl⟩
        have hpl := hperm.mem_iff.1 hpm
        subst e1 e2
        obtain ⟨hnk, met2⟩ := met.next C hpl hlk
        have hSl7 := (Array.getElem?_eq_some_iff.1 hSr2).1
        have hS7 := (hg7.block SB hSl7 (by simpa using hSr)).trans hSr2
        have hput := run_putSK hS7 (symKV_fresh C met.sub hpl hnk) p.s
        have hb8 := heap_setBlock_same hS7 (mapSK (symKV l ks ++ [(strB (codeOf l p.s), p.s)]))
        have hoff := fun k (h : k ≠ SB) => heap_setBlock_other hS7 (mapSK (symKV l ks ++ [(strB (codeOf l p.s), p.s)])) h
        have x7 : Ext w H w7 H2 := xr.grown hg7 (fun k e => by cases e; exact hr1b) (fun k e => by cases e; exact hr1)
        have x8 : Ext w H (setBlock w7 SB (mapSK (symKV l ks ++ [(strB (codeOf l p.s), p.s)]))) H2 := x7.step (below_setBlock hSw _) ⟨fun b o e => (hoff b (fun e2 => by rw [e2, hSH2] at e; cases e)).trans (x7.holds.at_ b o e)⟩
        have hrg8 := rangesKV_of hrg7 (hoff MB (fun e => hSM e.symm)) (hoff RB (fun e => hSr e.symm))
        have hml := hrg8.left_eq
        have hml2 := hrg.left_eq
        rw [← symKV_snoc] at hb8 hput x8 hrg8 hml
        clear hSr2 hks hlk hg7 hs7 hrg hMr hwr xr met hrg7 x7 hoff hS7
        generalize setBlock w7 SB (mapSK (symKV l (ks ++ [p]))) = w8 at *
        go_wp2
        go_roundw
        case rel => exact ⟨_, cnt7, ks ++ [p], hrg8, met2, hb8, x8⟩
        case measure => rw [hml, hml2]; exact hlt
end Go.Proofs.YthcfhmebikcfpaaGreatDoor
