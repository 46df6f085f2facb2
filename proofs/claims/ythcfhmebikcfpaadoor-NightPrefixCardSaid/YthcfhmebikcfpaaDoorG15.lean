/- Lemmas and walks on which the claims of this seat lean: NOpn2 NBof NLeaP. -/
import Derived.Test.YthcfhmebikcfpaaDoorG04
import Derived.Test.YthcfhmebikcfpaaDoorG07
import Derived.Test.YthcfhmebikcfpaaDoorG13

set_option linter.all false

namespace Go.Proofs.YthcfhmebikcfpaaDoor
open Go.RowKit Go.ChangeShapes Go.WideShapes Go.Deep Go.Joins

section
variable {H : Type} {enc : TypeId × Value → H} {W : World} {sp : Nat → Bool} {hd : Bool}

theorem str_reach {P : Program} {t : TypeId} {s : ByteArray} (hw : ∀ k ∈ (DataW.lit (H := H) (.string s.data.toList)).weights P t, k ≤ reachBytes) : s.size ≤ 140737488355328 := by
  have h1 := hw s.data.toList.length (by simp [DataW.weights])
  exact Nat.le_trans (show s.size ≤ reachBytes by simpa using h1) reach_le
theorem array2n {α : Type} {cs : Array α} (h : cs.size = 2) : ∃ a b, cs = #[a, b] := by
  obtain ⟨l⟩ := cs
  match l, h with
  | [a, b], _ => exact ⟨a, b, rfl⟩
set_option maxRecDepth 100000 in
theorem blot_opened {r : Reach} {b0 : Nat} {v : Value} {d : DataW H} {p : List MemPlace} (hv : Value.okWide Tryd.prog W r b0 55 v) (h : DataW.Trod enc Tryd.prog W 0 sp hd 55 v d p) :
    ∃ a b : Int, v = .agg #[.int .i64 a, .int .i64 b] ∧ I64 a ∧ I64 b := by
  obtain ⟨cs, rfl, hsz⟩ := okWide_struct Tryd.underlying55 hv
  obtain ⟨c0, c1, rfl⟩ := array2n (hsz.trans (by kernel_rfl))
  obtain ⟨fuel, hf⟩ := h
  obtain ⟨y0, y1, n, ex, _, h0, h1⟩ := trod_struct2 Tryd.underlying55 hf
  simp only [Value.cells, cells_n, List.drop_zero, List.drop_succ_cons, List.take_succ_cons, List.take_zero] at h0 h1
  obtain ⟨k0, e0, _, w0⟩ := DataW.trod_int Tryd.underlying3 h0
  obtain ⟨k1, e1, _, w1⟩ := DataW.trod_int Tryd.underlying3 h1
  simp at e0 e1
  subst e0; subst e1
  exact ⟨k0, k1, rfl, i64_wf w0, i64_wf w1⟩
end
end Go.Proofs.YthcfhmebikcfpaaDoor

namespace Go.Proofs.YthcfhmebikcfpaaDoor
open Go.RowKit

attribute [local go_sem] Holds.drew Holds.alloc Holds.drewN WB.holds Oper.semAt_some

def ownA (l : List Pr) (s o : Int) : Int := l.foldl (fun o p => if p.s = s then p.n else o) o
theorem ownA_cons (p : Pr) (l : List Pr) (s o : Int) : ownA (p :: l) s o = ownA l s (if p.s = s then p.n else o) := rfl
def bitsOfA (l : List Pr) : List UInt8 → Int
  | [] => 0
  | x :: m => ownA l x.toNat 1000000 + bitsOfA l m
theorem bitsOfA_snoc (l : List Pr) (x : UInt8) : ∀ m : List UInt8, bitsOfA l (m ++ [x]) = bitsOfA l m + ownA l x.toNat 1000000
  | [] => by simp [bitsOfA]
  | y :: m => by
    have := bitsOfA_snoc l x m
    rw [List.cons_append]
    unfold bitsOfA
    rw [this]; omega
theorem ownA_bd : ∀ {l : List Pr} {s o : Int}, Bits15 l → 0 ≤ o ∧ o ≤ 1000000 → 0 ≤ ownA l s o ∧ ownA l s o ≤ 1000000
  | [], _, _, _, h => h
  | p :: l, s, o, hb, h => by
    rw [ownA_cons]
    refine ownA_bd (fun q hq => hb q (by simp [hq])) ?_
    have := hb p (by simp)
    split <;> omega
theorem bitsOfA_bd {l : List Pr} (hb : Bits15 l) : ∀ m : List UInt8, 0 ≤ bitsOfA l m ∧ bitsOfA l m ≤ 1000000 * m.length
  | [] => by simp [bitsOfA]
  | x :: m => by
    have h1 := bitsOfA_bd hb m
    have h2 := ownA_bd (s := x.toNat) (o := 1000000) hb (by omega)
    unfold bitsOfA
    rw [List.length_cons]
    omega
set_option maxRecDepth 100000 in
set_option maxHeartbeats 1000000 in
theorem bitsOf14_any (s : ByteArray) (hsz : s.size ≤ 100000) (v : Value) (l : List Pr) (hl : l.length ≤ 1000) (h15 : Bits15 l) (H : Snap) (w : World) (hw : Holds H w) (hs : Sl H v l) :
    Calls Tryd.prog 23 #[.string s, v] w (PostV w (.int .i64 (bitsOfA l (bys s)))) := by
  obtain ⟨a, c, rfl, _, _⟩ := hs.form
  go_enter Tryd.func23, Tryd.ntmps23
  go_wp2
  go_loopw [5, 6] (fun nv i wr => ∃ k : Nat, k ≤ s.size ∧ i = .int .i64 (k : Int) ∧ nv = .int .i64 (bitsOfA l ((bys s).take k)) ∧ Ext w H wr H) (fun _ i _ => s.size - (intOf i).toNat)
  case atStart => exact ⟨0, Nat.zero_le _, rfl, rfl, Ext.refl hw⟩
  case round =>
    obtain ⟨k, hk, rfl, rfl, xr⟩ := hrel
    by_cases hlk : k < s.size
    · obtain ⟨x, hx⟩ := At.mk (show k < (bys s).length from hlk)
      have hk0 : (0 : Int) ≤ (k : Int) := by omega
      have hk1 : (k : Int) < (s.size : Int) := by omega
      have hsk : s[k] = x := by
        have h1 : (bys s)[k]? = some x := hx
        rw [List.getElem?_eq_getElem (show k < (bys s).length from hlk)] at h1
        exact Option.some.inj h1
      have hxl : x.toNat < 256 := x.toNat_lt
      have hwx : wrap64 (x.toNat : Int) = (x.toNat : Int) := wrap64_in _ (by omega) (by omega)
      have hwk : wrap64 ((k : Int) + 1) = (k : Int) + 1 := wrap64_in _ (by omega) (by omega)
      have hsn := bitsOfA_snoc l x ((bys s).take k)
      rw [← hx.take] at hsn
      have hbd := bitsOfA_bd h15 ((bys s).take k)
      rw [List.length_take, bys_len] at hbd
      have hob := ownA_bd (s := (x.toNat : Int)) (o := 1000000) h15 (by omega)
      have hsum : wrap64 (bitsOfA l ((bys s).take k) + ownA l (x.toNat : Int) 1000000) = bitsOfA l ((bys s).take (k + 1)) := by rw [hsn]; exact wrap64_in _ (by omega) (by omega)
      replace hsum := Lib.hid hsum
      clear hsn hbd hob
      generalize bitsOfA l ((bys s).take k) = n at *
      go_wp2_with fail
      go_loopw [7, 8] (fun ow j wq => ∃ (t : Nat) (o : Int), t ≤ l.length ∧ j = .int .i64 (t : Int) ∧ ow = .int .i64 o ∧ Hid (ownA (l.drop t) (x.toNat : Int) o = ownA l (x.toNat : Int) 1000000) ∧ Ext w H wq H) (fun _ j _ => l.length - (intOf j).toNat)
      case atStart => exact ⟨0, 1000000, Nat.zero_le _, rfl, rfl, rfl, xr⟩
      case round =>
        obtain ⟨t, o, ht, rfl, rfl, hown, xq⟩ := hrel
        have hwq := xq.holds
        by_cases hlt : t < l.length
        · obtain ⟨p, hp⟩ := At.mk hlt
          obtain ⟨b, o', c', he, ⟨i1, i2⟩, hr1, hr2⟩ := hs.pr hp
          cases he
          have hd : l.drop t = p :: l.drop (t + 1) := by
            rw [List.drop_eq_getElem_cons hlt]
            congr 1
            have := hp; unfold At at this; rw [List.getElem?_eq_getElem hlt] at this; exact Option.some.inj this
          have ho2 := hown.out
          rw [hd, ownA_cons] at ho2
          have ht0 : (0 : Int) ≤ (t : Int) := by omega
          have ht1 : (t : Int) < (l.length : Int) := by omega
          clear hd hown
          by_cases hps : p.s = (x.toNat : Int)
          · have hb1 : (p.s == (x.toNat : Int)) = true := by rw [beq_iff_eq]; exact hps
            rw [if_pos hps] at ho2
            replace ho2 := Lib.hid ho2
            clear hps
            go_upto_region 9 with fail
            refine wp_region_quietB H (by kernel_rfl) (by kernel_rfl) hwq (fun hne => ?_)
            repeat go_big_quiet_step ((first | fail))
            refine wpQuiet_nil ?_
            rintro ⟨w2, hw2, hb2⟩
            clear hne
            have xq2 := xq.step (hb2.mono xq.below.size) hw2
            go_wp2_with fail
            go_roundw
            case rel => exact ⟨t + 1, p.n, by omega, by go_num, rfl, ho2, xq2⟩
            case measure => simp [intOf]; omega
          · have hb1 : (p.s == (x.toNat : Int)) = false := by rw [beq_eq_false_iff_ne]; exact hps
            rw [if_neg hps] at ho2
            replace ho2 := Lib.hid ho2
            clear hps
            go_upto_region 9 with fail
            refine wp_region_quietB H (by kernel_rfl) (by kernel_rfl) hwq (fun hne => ?_)
            repeat go_big_quiet_step ((first | fail))
            refine wpQuiet_nil ?_
            rintro ⟨w2, hw2, hb2⟩
            clear hne
            have xq2 := xq.step (hb2.mono xq.below.size) hw2
            go_wp2_with fail
            go_roundw
            case rel => exact ⟨t + 1, o, by omega, by go_num, rfl, ho2, xq2⟩
            case measure => simp [intOf]; omega
        · have ho3 := hown.out
          rw [List.drop_of_length_le (by omega)] at ho3
          have ho4 : o = ownA l (x.toNat : Int) 1000000 := ho3
          clear ho3 hown
          subst ho4
          go_wp2_with fail
          go_roundw
          case rel => exact ⟨k + 1, by omega, by go_num, by rw [← hsum.out], xq⟩
          case measure => simp [intOf]; omega
    · have hall : (bys s).take k = bys s := List.take_of_length_le (by rw [bys_len]; omega)
      rw [hall]
      go_wp2_with fail
      go_ret
      exact ⟨rfl, xr.below⟩
end Go.Proofs.YthcfhmebikcfpaaDoor

namespace Go.Proofs.YthcfhmebikcfpaaDoor
open Go.RowKit

theorem bits_len_sum (l : List Pr) : ∀ m : List UInt8, (bitsA l m).length = sumOn (fun b => (codeOf l ((b : UInt8).toNat : Int)).length) m
  | [] => rfl
  | b :: m => by
    have : bitsA l (b :: m) = codeOf l (b.toNat : Int) ++ bitsA l m := by unfold bitsA; rw [List.flatMap_cons]
    rw [this, List.length_append, sumOn_cons, bits_len_sum l m]
theorem msg_sum (f : Nat → Nat) (m : List UInt8) : sumOn (fun b => f (b : UInt8).toNat) m = sumOn (fun c => cnt m c * f c) (List.range 256) := by
  have key : ∀ r : List UInt8, sumOn (fun b => f (b : UInt8).toNat) r = sumOn (fun c => cnt r.reverse c * f c) (List.range 256) := by
    intro r
    induction r with
    | nil =>
      have h0 : ∀ c ∈ List.range 256, cnt ([] : List UInt8).reverse c * f c = (fun _ => 0) c := fun c _ => by
        show cnt [] c * f c = 0
        unfold cnt; simp
      rw [sumOn_congr h0, sumOn_zero]
      rfl
    | cons x r ih =>
      rw [List.reverse_cons, sumOn_congr (g := fun c => cnt r.reverse c * f c + (if c = x.toNat then f c else 0)) fun c _ => by
        rw [cnt_snoc, Nat.add_mul]; congr 1; split <;> simp, sumOn_add, ← ih, sumOn_cons, sum_at x.toNat_lt]
      omega
  have h := key m.reverse
  rw [List.reverse_reverse] at h
  rw [← h]
  exact sumOn_perm (List.reverse_perm m).symm
theorem sum_idx {α : Type} (φ : Nat → Nat → Nat) (g h : α → Nat) : ∀ L : List α, sumOn (fun i => φ (bitAt (L.map g) i) (bitAt (L.map h) i)) (List.range L.length) = sumOn (fun p => φ (g p) (h p)) L
  | [] => rfl
  | p :: L => by
    rw [List.length_cons, List.range_succ_eq_map, sumOn_cons, sumOn_map, sumOn_cons, ← sum_idx φ g h L]
    rfl
theorem find_mem {l : List Pr} (C : IsCode l) {k : Nat} {p : Pr} (hp : At l k p) : findS l p.s = some k ∧ codeOf l p.s = codeAt l k := ⟨find_at C.rise hp, codeOf_at C.rise hp⟩
theorem least_code {m : List UInt8} (F : Fair m) {l : List Pr} (C : IsCode l) (hall : ∀ b ∈ m, ∃ k p, At l k p ∧ p.s = (b.toNat : Int)) : (bitsA (lensA m) m).length ≤ (bitsA l m).length := by
  rw [bits_cost F]
  have hin : ∀ p ∈ wtsA m, ∃ k q, At l k q ∧ q.s = p.s := fun p hp => by
    obtain ⟨c, _, hc, e⟩ := wts_mem hp
    obtain ⟨b, hb, hbc⟩ := cnt_mem hc
    obtain ⟨k, q, h1, h2⟩ := hall b hb
    exact ⟨k, q, h1, by rw [h2, e, hbc]⟩
  have hlen : ∀ p ∈ wtsA m, ∃ k, k < l.length ∧ findS l p.s = some k ∧ (codeOf l p.s).length = bitsN l k ∧ 1 ≤ bitsN l k ∧ bitsN l k ≤ 15 := fun p hp => by
    obtain ⟨k, q, h1, h2⟩ := hin p hp
    obtain ⟨h3, h4⟩ := find_mem C h1
    rw [h2] at h3 h4
    have hb := C.b15 q h1.mem
    have hbn : bitsN l k = q.n.toNat := bitsN_at h1
    exact ⟨k, h1.lt, h3, by rw [h4, codeAt_len], by omega, by omega⟩
  have hle := huff_least (ws := wsA m) (ls := (wtsA m).map fun p => (codeOf l p.s).length) (D := 15) (by rw [wsA_len, List.length_map])
    (fun b hb => by
      obtain ⟨p, hp, rfl⟩ := List.mem_map.1 hb
      obtain ⟨k, _, _, h1, _, h2⟩ := hlen p hp
      omega)
    (fun b hb => by
      obtain ⟨p, hp, rfl⟩ := List.mem_map.1 hb
      obtain ⟨k, _, _, h1, h2, _⟩ := hlen p hp
      omega) (by
    have e1 := sum_idx (fun _ b => 2 ^ (15 - b)) (fun _ : Pr => 0) (fun p => (codeOf l p.s).length) (wtsA m)
    rw [wsA_len]
    rw [e1]
    have e2 : sumOn (fun p => 2 ^ (15 - (codeOf l (p : Pr).s).length)) (wtsA m) = sumOn (pw l) ((wtsA m).map fun p => (findS l p.s).getD 0) := by
      rw [sumOn_map]
      refine sumOn_congr fun p hp => ?_
      obtain ⟨k, _, h1, h2, _⟩ := hlen p hp
      rw [h1, h2]
      rfl
    have hnd : ((wtsA m).map fun p => (findS l p.s).getD 0).Nodup := by
      have hr := List.pairwise_map.1 (wts_rise m)
      refine List.pairwise_map.2 (List.Pairwise.imp_of_mem (fun {p q} hp hq hlt e => ?_) hr)
      obtain ⟨k, q1, a1, b1⟩ := hin p hp
      obtain ⟨j, q2, a2, b2⟩ := hin q hq
      have f1 := (find_mem C a1).1
      have f2 := (find_mem C a2).1
      rw [b1] at f1
      rw [b2] at f2
      rw [f1, f2] at e
      have ekj : k = j := e
      subst ekj
      have := Option.some.inj (a1.symm.trans a2)
      subst this
      rw [← b1, ← b2] at hlt
      exact Int.lt_irrefl _ hlt
    have hlt : ∀ i ∈ (wtsA m).map fun p => (findS l p.s).getD 0, i < l.length := fun i hi => by
      obtain ⟨p, hp, rfl⟩ := List.mem_map.1 hi
      obtain ⟨k, h0, h1, _⟩ := hlen p hp
      rw [h1]; exact h0
    rw [e2, ← sum_mem hnd hlt]
    refine Nat.le_trans (sumOn_le (g := pw l) fun i _ => ?_) C.kraftN
    split
    · exact Nat.le_refl _
    · exact Nat.zero_le _)
  refine Nat.le_trans hle (Nat.le_of_eq ?_)
  have e3 : costB (wsA m) ((wtsA m).map fun p => (codeOf l p.s).length) = sumOn (fun p => (p : Pr).n.toNat * (codeOf l p.s).length) (wtsA m) := by
    unfold costB wsA
    rw [List.length_map]
    exact sum_idx (fun a b => a * b) (fun p : Pr => p.n.toNat) (fun p => (codeOf l p.s).length) (wtsA m)
  rw [e3, bits_len_sum, msg_sum (fun c => (codeOf l (c : Int)).length)]
  unfold wtsA wtsTo
  rw [sumOn_map]
  simp only [Int.toNat_natCast]
  refine sumOn_filter _ _ _ fun c _ h => ?_
  have : ¬ 0 < cnt m c := by simpa using h
  rw [show cnt m c = 0 by omega, Nat.zero_mul]

theorem ownA_out : ∀ {l : List Pr} {s o : Int}, (∀ p ∈ l, p.s ≠ s) → ownA l s o = o
  | [], _, _, _ => rfl
  | p :: l, s, o, h => by
    rw [ownA_cons, if_neg (h p (by simp)), ownA_out fun q hq => h q (by simp [hq])]
theorem ownA_in : ∀ {l : List Pr} {s o : Int}, (l.map Pr.s).Pairwise (· < ·) → ∀ {p : Pr}, p ∈ l → p.s = s → ownA l s o = p.n
  | q :: l, s, o, hr, p, hp, hs => by
    rw [List.map_cons, List.pairwise_cons] at hr
    rw [ownA_cons]
    rcases List.mem_cons.1 hp with e | hp
    · subst e
      rw [if_pos hs]
      exact ownA_out fun x hx e2 => by have := hr.1 x.s (List.mem_map.2 ⟨x, hx, rfl⟩); omega
    · rw [if_neg (fun e2 => by have := hr.1 p.s (List.mem_map.2 ⟨p, hp, rfl⟩); omega)]
      exact ownA_in hr.2 hp hs
theorem bitsOf_in {l : List Pr} (C : IsCode l) : ∀ {m : List UInt8}, (∀ b ∈ m, ∃ k p, At l k p ∧ p.s = (b.toNat : Int)) → bitsOfA l m = ((bitsA l m).length : Int)
  | [], _ => rfl
  | b :: m, h => by
    have ih := bitsOf_in C (m := m) fun x hx => h x (by simp [hx])
    obtain ⟨k, p, hp, hs⟩ := h b (by simp)
    have h1 : ownA l (b.toNat : Int) 1000000 = p.n := ownA_in C.rise hp.mem hs
    have h2 : codeOf l (b.toNat : Int) = codeAt l k := by rw [← hs]; exact (find_mem C hp).2
    have hb := C.b15 p hp.mem
    have hbn : bitsN l k = p.n.toNat := bitsN_at hp
    have e : bitsA l (b :: m) = codeOf l (b.toNat : Int) ++ bitsA l m := by unfold bitsA; rw [List.flatMap_cons]
    show ownA l (b.toNat : Int) 1000000 + bitsOfA l m = _
    rw [h1, ih, e, List.length_append, h2, codeAt_len, hbn]
    omega
theorem bitsOf_out {l : List Pr} (C : IsCode l) : ∀ {m : List UInt8} {b : UInt8}, b ∈ m → (∀ p ∈ l, p.s ≠ (b.toNat : Int)) → 1000000 ≤ bitsOfA l m
  | x :: m, b, hb, h => by
    show 1000000 ≤ ownA l (x.toNat : Int) 1000000 + bitsOfA l m
    rcases List.mem_cons.1 hb with e | hb
    · subst e
      rw [ownA_out h]
      have := (bitsOfA_bd C.b15 m).1
      omega
    · have h1 := bitsOf_out C hb h
      have h2 := ownA_bd (s := (x.toNat : Int)) (o := 1000000) C.b15 (by omega)
      omega
theorem lens_all {m : List UInt8} : ∀ b ∈ m, ∃ k p, At (lensA m) k p ∧ p.s = (b.toNat : Int) := fun b hb => by
  obtain ⟨k, _, _, n, hp⟩ := find_lens hb
  exact ⟨k, _, hp, rfl⟩
theorem bitsOf_lens {m : List UInt8} (F : Fair m) : bitsOfA (lensA m) m = ((bitsA (lensA m) m).length : Int) := bitsOf_in (lens_code F) lens_all
theorem bitsOf_least {m : List UInt8} (F : Fair m) {l : List Pr} (C : IsCode l) : ((bitsA (lensA m) m).length : Int) ≤ bitsOfA l m := by
  by_cases h : ∀ b ∈ m, ∃ k p, At l k p ∧ p.s = (b.toNat : Int)
  · rw [bitsOf_in C h]
    have := least_code F C h
    omega
  · have : ∃ b ∈ m, ∀ p ∈ l, p.s ≠ (b.toNat : Int) := by
      apply Classical.byContradiction
      intro hn
      refine h fun b hb => ?_
      apply Classical.byContradiction
      intro h2
      refine hn ⟨b, hb, fun p hp e => h2 ?_⟩
      obtain ⟨k, hk, e2⟩ := List.getElem_of_mem hp
      exact ⟨k, p, by show l[k]? = some p; rw [List.getElem?_eq_getElem hk, e2], e⟩
    obtain ⟨b, hb, hp⟩ := this
    have h1 := bitsOf_out C hb hp
    have h2 := bits_bound F
    have h3 := F.2
    omega
end Go.Proofs.YthcfhmebikcfpaaDoor
