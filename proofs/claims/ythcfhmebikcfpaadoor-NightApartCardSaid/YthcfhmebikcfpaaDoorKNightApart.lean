/- Proved here: NightApartCardSaid: the law NightApart returns true for all texts and any cut, and the texts read afterwards as they did. Conditions: none beyond those of the given statement. -/
import Derived.Test.YthcfhmebikcfpaaDoorG13
import Derived.Test.YthcfhmebikcfpaaDoorG14
import Derived.Test.YthcfhmebikcfpaaDoorG15
import Derived.Test.YthcfhmebikcfpaaDoorRows
import Derived.Test.YthcfhmebikcfpaaDoorTie
import Derived.Test.YthcfhmebikcfpaaDoorCards
import Derived.ProofKit
import Derived.SevenTiedAt

set_option linter.all false

namespace Go.Proofs.YthcfhmebikcfpaaDoor
open Go.RowKit
attribute [local go_sem] Holds.drew Holds.alloc Holds.drewN WB.holds Oper.semAt_some

theorem areE_mem {l : List ByteArray} (h : areE l = 0) {k : List ByteArray} (h1 : k.length ≤ l.length) (h2 : ∀ s ∈ k, s ∈ l) : areE k = 0 := by
  obtain ⟨g1, g2⟩ := areE_zero h
  unfold areE
  rw [if_neg (by omega), if_pos (List.all_eq_true.2 fun s hs => g2 s (h2 s hs))]
theorem Sl.dropN {H : Snap} {α : Type} [Enc α] {b o n c : Nat} {xs : List α} (h : Sl H (.slice (some ⟨b, o, none⟩) n c) xs) {k : Nat} (hk : k ≤ xs.length) : Sl H (.slice (some ⟨b, o + k * Enc.sz α, none⟩) (n - k) (c - k)) (xs.drop k) := by
  obtain ⟨a', c', e, h1, h2, h3, h4⟩ := h
  cases e
  have hlen : (xs.drop k).length = xs.length - k := by simp
  refine ⟨_, c - k, by rw [hlen], by omega, by omega, Nat.le_trans (Nat.mul_le_mul_right _ (by omega)) h3, ?_⟩
  rcases h4 with h4 | ⟨b', o', cur, e, fr, ha, hb, ho, hr⟩
  · subst h4; simp
  · cases ha
    have hsub : (xs.length - k) * Enc.sz α + k * Enc.sz α = xs.length * Enc.sz α := by rw [← Nat.add_mul, Nat.sub_add_cancel hk]
    refine .inr ⟨b, o + k * Enc.sz α, cur, e, fr, rfl, hb, by rw [hlen]; omega, ?_⟩
    have e1 : xs = xs.take k ++ xs.drop k := (List.take_append_drop k xs).symm
    rw [e1] at hr
    obtain ⟨c1, c2, e2, hr1, hr2⟩ := hr.split
    have hl1 := hr1.len
    rw [List.length_take, Nat.min_eq_left hk] at hl1
    have : ((cur.toList.drop (o + k * Enc.sz α)).take ((xs.drop k).length * Enc.sz α)) = c2 := by
      have h5 := congrArg (List.drop (k * Enc.sz α)) e2
      rw [← e1, ← hl1, List.drop_left, List.drop_take, List.drop_drop] at h5
      rw [hlen, ← h5, hl1]
      congr 1
      omega
    rw [this]; exact hr2
theorem sl_from {H : Snap} {a : Option Addr} {c : Nat} {l : List ByteArray} (h : Sl H (.slice a l.length c) l) (hlc : l.length ≤ c) (hcm : c ≤ 9223372036854775807) {k : Nat} (hk : k ≤ l.length) : Sl H (.slice (if c = k then a else Option.map (fun x => x.add k) a) (l.length - k) (c - k)) (l.drop k) := by
  by_cases hz : l.length = k
  · have e : l.drop k = [] := List.drop_of_length_le (by omega)
    rw [e, show l.length - k = 0 by omega]
    exact Sl.nil H _ (by omega)
  · rw [if_neg (by omega)]
    obtain ⟨x, hx⟩ := At.mk (show k < l.length by omega)
    obtain ⟨b, o, c', he, _, _⟩ := h.str hx
    cases he
    have h2 := Sl.dropN h hk
    have e1 : Option.map (fun x : Addr => x.add k) (some ⟨b, o, none⟩) = some ⟨b, o + k * Enc.sz ByteArray, none⟩ := by simp [Addr.add, Enc.sz]
    rw [e1]
    exact h2
theorem msg_split (l : List ByteArray) (k : Nat) : msgOf (l.take k) ++ msgOf (l.drop k) = msgOf l := by
  unfold msgOf
  rw [← List.flatMap_append, List.take_append_drop]
theorem msg_next {l : List ByteArray} {k : Nat} {x : ByteArray} (hx : At l k x) : msgOf (l.take (k + 1)) = msgOf (l.take k) ++ (bys x ++ [10]) := by
  unfold msgOf
  rw [hx.take, List.flatMap_append]
  simp
theorem bits_apart {m1 m2 : List UInt8} (F : Fair (m1 ++ m2)) (F1 : Fair m1) (F2 : Fair m2) : (bitsA (lensA m1) m1).length + (bitsA (lensA m2) m2).length ≤ (bitsA (lensA (m1 ++ m2)) (m1 ++ m2)).length := by
  have C := lens_code F
  have h1 := least_code F1 C (fun b hb => lens_all b (by simp [hb]))
  have h2 := least_code F2 C (fun b hb => lens_all b (by simp [hb]))
  have e := bitsA_append (lensA (m1 ++ m2)) m1 m2
  rw [e, List.length_append]
  omega
theorem bits_more {m1 m2 : List UInt8} (F : Fair (m1 ++ m2)) (F1 : Fair m1) : (bitsA (lensA m1) m1).length + m2.length ≤ (bitsA (lensA (m1 ++ m2)) (m1 ++ m2)).length := by
  have C := lens_code F
  have h1 := least_code F1 C (fun b hb => lens_all b (by simp [hb]))
  have h2 := code_pos C (m := m2) (fun b hb => by
    obtain ⟨k, p, h3, h4⟩ := lens_all (m := m1 ++ m2) b (by simp [hb])
    exact ⟨k, p.n, by rw [← h4]; exact h3⟩)
  rw [bitsA_append, List.length_append]
  omega
theorem apart_facts {B B1 B2 M : Nat} (h : B1 + B2 ≤ B) (hb : B ≤ 7 * M) (hm : M ≤ 980) :
    wrap64 ((B1 : Int) + (B2 : Int)) = (B1 : Int) + (B2 : Int) ∧ ¬ (B : Int) < (B1 : Int) + (B2 : Int) ∧ ¬ min (min (B : Int) (B1 : Int)) (B2 : Int) < 0 :=
  ⟨wrap64_in _ (by omega) (by omega), by omega, by omega⟩
theorem apart_k {k n : Nat} (h : k < n) (hn : n ≤ 20) : wrap64 ((k : Int) + 1) = (k : Int) + 1 ∧ (k : Int) < (n : Int) ∧ (k : Int) + 1 ≤ (n : Int) ∧ (0 : Int) ≤ (k : Int) + 1 :=
  ⟨wrap64_in _ (by omega) (by omega), by omega, by omega, by omega⟩
theorem apart_more {B1 B3 x M : Nat} (h : B1 + (x + 1) ≤ B3) (hb : B3 ≤ 7 * M) (hm : M ≤ 980) :
    wrap64 ((B1 : Int) + (x : Int)) = (B1 : Int) + (x : Int) ∧ wrap64 ((B1 : Int) + (x : Int) + 1) = (B1 : Int) + (x : Int) + 1 ∧ ¬ (B3 : Int) < (B1 : Int) + (x : Int) + 1 :=
  ⟨wrap64_in _ (by omega) (by omega), wrap64_in _ (by omega) (by omega), by omega⟩
set_option maxRecDepth 100000 in
set_option maxHeartbeats 2000000 in
theorem nightApart_any (v : Value) (l : List ByteArray) (cut : Int) (H : Snap) (w : World) (hw : Holds H w) (hs : Sl H v l) (_hz : I64 cut) :
    Calls Tryd.prog 7 #[v, .int .i64 cut] w (PostV w (.bool true)) := by
  have cW : ∀ (H' : Snap) (W : World), Holds H' W → Calls Tryd.prog 13 #[] W (PostV W (.bool true)) := fun H' W h => works14_any H' W h
  have cR := ready14_any v l H w hw hs
  obtain ⟨a, c, rfl, hlc, hcm⟩ := hs.form
  by_cases h0 : areE l = 0
  case neg =>
    rw [decide_eq_false h0] at cR
    replace cR := Lib.hid cR
    replace cW := Lib.hid cW
    clear h0
    go_enter Tryd.func7, Tryd.ntmps7
    go_wp2_with (first | ((have hgd := hw2; clear hgd; go_at_call 13; go_must (refine (cW.out H _ hw2).mono ?_); rintro e w3 ⟨rfl, hb3⟩)) | ((go_at_call 12; refine cR.out.mono ?_; rintro e w2 ⟨rfl, hb2⟩; have hw2 := hw.below hb2)))
    go_ret
    exact ⟨rfl, hb2.trans (hb3.mono hb2.size)⟩
  case pos =>
  rw [decide_eq_true h0] at cR
  replace cR := Lib.hid cR
  have cWi := fun W => within_any cut 0 (l.length : Int) W
  cases hw0 : within cut 0 (l.length : Int) with
  | false =>
    rw [hw0] at cWi
    replace cW := Lib.hid cW
    replace cWi := Lib.hid cWi
    clear h0 hw0
    go_enter Tryd.func7, Tryd.ntmps7
    go_wp2_with (first | ((have hgd := hw2; clear hgd; go_at_call 28; go_must (refine (cWi.out _).mono ?_); rintro e w3 ⟨rfl, rfl⟩)) | ((have hgd := hw2; clear hgd; go_at_call 13; go_must (refine (cW.out H _ hw2).mono ?_); rintro e w3 ⟨rfl, hb3⟩)) | ((go_at_call 12; refine cR.out.mono ?_; rintro e w2 ⟨rfl, hb2⟩; have hw2 := hw.below hb2)))
    go_ret
    exact ⟨rfl, hb2.trans (hb3.mono hb2.size)⟩
  | true =>
    rw [hw0] at cWi
    obtain ⟨hc0, hc1⟩ := within_iff.1 hw0
    obtain ⟨k, rfl⟩ := Int.eq_ofNat_of_zero_le hc0
    have hkl : k ≤ l.length := by omega
    have hkc : (k : Int) ≤ (c : Int) := by omega
    have hk0 : (0 : Int) ≤ (k : Int) := hc0
    replace cW := Lib.hid cW
    replace cWi := Lib.hid cWi
    clear hw0
    have ht0 := areE_mem h0 (k := l.take k) (by rw [List.length_take]; omega) (fun s hs => List.mem_of_mem_take hs)
    have hd0 := areE_mem h0 (k := l.drop k) (by rw [List.length_drop]; omega) (fun s hs => List.mem_of_mem_drop hs)
    have F := msg_ok h0
    have F1 := msg_ok ht0
    have F2 := msg_ok hd0
    have hbd := bits_bound F
    have hml := msgOf_len h0
    have hap : (bitsA (lensA (msgOf (l.take k))) (msgOf (l.take k))).length + (bitsA (lensA (msgOf (l.drop k))) (msgOf (l.drop k))).length ≤ (bitsA (lensA (msgOf l)) (msgOf l)).length := by
      have := bits_apart (m1 := msgOf (l.take k)) (m2 := msgOf (l.drop k)) (by rw [msg_split]; exact F) F1 F2
      rw [msg_split] at this
      exact this
    obtain ⟨aT, haT⟩ : ∃ aT, (if c = k then a else Option.map (fun x => x.add k) a) = aT := ⟨_, rfl⟩
    have sD := sl_from hs hlc hcm hkl
    rw [haT] at sD
    have sT := hs.take hkl
    have cB := bits14_any (.slice a l.length c) l h0 H
    have cBt := bits14_any (.slice a k c) (l.take k) ht0 H
    have cBd := bits14_any (.slice aT (l.length - k) (c - k)) (l.drop k) hd0 H
    generalize hB : (bitsA (lensA (msgOf l)) (msgOf l)).length = B at *
    generalize hB1 : (bitsA (lensA (msgOf (l.take k))) (msgOf (l.take k))).length = B1 at *
    generalize hB2 : (bitsA (lensA (msgOf (l.drop k))) (msgOf (l.drop k))).length = B2 at *
    obtain ⟨hg1, hg2, hg3⟩ := apart_facts hap hbd hml
    have hkn : k < l.length ∨ k = l.length := Nat.lt_or_eq_of_le hkl
    replace sT := Lib.hid sT
    replace sD := Lib.hid sD
    replace cB := Lib.hid cB
    replace cBt := Lib.hid cBt
    replace cBd := Lib.hid cBd
    replace hap := Lib.hid hap
    replace hB1 := Lib.hid hB1
    replace hbd := Lib.hid hbd
    replace hml := Lib.hid hml
    replace hkn := Lib.hid hkn
    clear hB hB2 F F2 hd0
    go_enter Tryd.func7, Tryd.ntmps7
    go_upto_region 3 with (first | (have hgd := x2; clear hgd; go_at_call 28; go_must (refine (cWi.out _).mono ?_); rintro e w3 ⟨rfl, rfl⟩) | (go_at_call 12; refine cR.out.mono ?_; rintro e w2 ⟨rfl, hb2⟩; have x2 := (Ext.refl hw).step hb2 (hw.below hb2)))
    clear hb2
    have hw2 := x2.holds
    refine wp_region_quietB H (by kernel_rfl) (by kernel_rfl) hw2 (fun hne => ?_)
    repeat go_big_quiet_step ((first | (go_at_call_of 22 (Value.slice a l.length c); exact Calls.quietB (cB.out _ (WB.holds _) hs)) | (go_at_call_of 22 (Value.slice a k c); exact Calls.quietB (cBt.out _ (WB.holds _) sT.out)) | (go_at_call 22; exact Calls.quietB (cBd.out _ (WB.holds _) sD.out))))
    refine wpQuiet_nil ?_
    rintro ⟨w5, hw5, hb5⟩
    clear hne
    have x5 := x2.step (hb5.mono x2.below.size) hw5
    clear x2
    go_upto_region 6 with fail
    all_goals
      rcases hkn.out with hlt | hke
      · obtain ⟨x, hx⟩ := At.mk hlt
        have hxz := areE_size h0 x hx.mem
        obtain ⟨hg4, hkk, hkI, hn1⟩ := apart_k hlt (areE_zero h0).1
        have hn0 := areE_mem h0 (k := l.take (k + 1)) (by rw [List.length_take]; exact Nat.min_le_right _ _) (fun s hs => List.mem_of_mem_take hs)
        have F1' := msg_ok hn0
        have F1 := msg_ok ht0
        have hmore : (bitsA (lensA (msgOf (l.take k))) (msgOf (l.take k))).length + (x.size + 1) ≤ (bitsA (lensA (msgOf (l.take (k + 1)))) (msgOf (l.take (k + 1)))).length := by
          rw [msg_next hx] at F1' ⊢
          have := bits_more F1' F1
          rw [List.length_append, bys_len] at this
          exact this
        have hml3 := msgOf_len hn0
        have hbd3 := bits_bound F1'
        have sN := hs.take (k := k + 1) hlt
        obtain ⟨b, o, c', he, hi, hr⟩ := hs.str hx
        cases he
        have cBn := bits14_any (.slice (some ⟨b, o, none⟩) (k + 1) c) (l.take (k + 1)) hn0 H
        rw [hB1.out] at hmore
        generalize (bitsA (lensA (msgOf (l.take (k + 1)))) (msgOf (l.take (k + 1)))).length = B3 at *
        obtain ⟨hs1, hs2, hs3⟩ := apart_more hmore hbd3 hml3
        have hk1c : (k : Int) + 1 ≤ (c : Int) := Int.le_trans hkI (Int.ofNat_le.2 hlc)
        replace sN := Lib.hid sN
        replace cBn := Lib.hid cBn
        clear hi hxz F1 F1' hmore hml3 hbd3 hn0 haT ht0 h0
        clear hcm hc0 hc1 hkl
        have hw5' := hw5
        refine wp_region_quietB H (by kernel_rfl) (by kernel_rfl) hw5' (fun hne => ?_)
        repeat go_big_quiet_step ((first | (go_at_call 22; exact Calls.quietB (cBn.out _ (WB.holds _) sN.out))))
        refine wpQuiet_nil ?_
        rintro ⟨w6, hw6, hb6⟩
        clear hne
        have x6 := x5.step (hb6.mono x5.below.size) hw6
        go_wp2_with (first | ((go_at_call 13; go_must (refine (cW.out H _ x6.holds).mono ?_); rintro e w7 ⟨rfl, hb7⟩)))
        go_ret
        exact ⟨rfl, x6.below.trans (hb7.mono x6.below.size)⟩
      · subst hke
        have hno : ¬ (l.length : Int) < (l.length : Int) := Int.lt_irrefl _
        clear haT ht0 h0 hcm hc0 hc1 hkl
        refine wp_region_quietB H (by kernel_rfl) (by kernel_rfl) hw5 (fun hne => ?_)
        repeat go_big_quiet_step ((fail))
        refine wpQuiet_nil ?_
        rintro ⟨w6, hw6, hb6⟩
        clear hne
        have x6 := x5.step (hb6.mono x5.below.size) hw6
        go_wp2_with (first | ((go_at_call 13; go_must (refine (cW.out H _ x6.holds).mono ?_); rintro e w7 ⟨rfl, hb7⟩)))
        go_ret
        exact ⟨rfl, x6.below.trans (hb7.mono x6.below.size)⟩
end Go.Proofs.YthcfhmebikcfpaaDoor

namespace Go.Proofs.YthcfhmebikcfpaaDoor
open Go.ChangeShapes Go.WideShapes Go.ChangeAt Go.RowKit

theorem nightApart_own : ownKnob Tryd.prog.godebug = none := by kernel_rfl
theorem nightApart_laid : laidOutB Tryd.prog = true := by kernel_rfl

set_option maxHeartbeats 1600000 in
set_option maxRecDepth 100000 in
theorem nightApart_lifted (os : Os) (started : os.Started) (H : Type) (enc : TypeId × Value → H) :
    ReturnsInHanded {} Tryd.checked os 7 .any (fun w args => (Rows.nightApartSpec.pre enc Tryd.prog Tryd.f7 [] false w args ∧ laidMetH Tryd.prog laidN w) ∧ sizedMet enc Tryd.prog Tryd.f7 (OpenSpec.ofChange Rows.nightApartSpec) false w args)
      (Rows.nightApartSpec.post enc Tryd.prog Tryd.f7 false true false false) := by
  refine returnsInHanded_of_change_and (C := Tryd.checked) (X := fun w _ => laidMetH Tryd.prog laidN w) (fun _ _ _ hh h => h.of_heap hh) nightApart_own started (by kernel_rfl) Tryd.func7
    (ChangeSpec.witness_shaped (enc := enc) (C := Tryd.checked) (os := os) (X := fun w _ => laidMetH Tryd.prog laidN w) false (doorN os) #[.slice none 0 0, .int .i64 0] 8 rfl (door_shaped os _) (by kernel_rfl) (by kernel_rfl) (by kernel_rfl) (door_met os _)) ?_
  intro W base args ds gs before hval0 hW _ hsz _ _
  have hval : ∀ (j : Nat) t v, Tryd.f7.params[j]? = some t → args[j]? = some v → Value.okWide Tryd.prog W .any base t v := hval0
  have hW' := hW
  obtain ⟨p, q, hA0, hV, rfl, _, _⟩ := hW
  have hA : DataW.TrodAll enc Tryd.prog W 0 (fun _ => true) true Tryd.f7.params.toList args.toList ds p := hA0
  have hS : (DataW.weightsEach Tryd.prog (Tryd.f7.params.toList ++ []) (ds ++ gs)).all (· ≤ reachBytes) = true := hsz
  rw [Tryd.params7] at hA hval hS
  obtain ⟨v0, v1, d0, d1, p0, p1, rfl, rfl, rfl, h0, h1⟩ := trodAll_two hA
  obtain ⟨rfl, rfl⟩ := trodVars_none hV
  clear hA0 hval0 hsz
  simp only [List.append_nil] at hW' hS
  have hlt : ∀ x ∈ p0 ++ p1, x.block < W.heap.size := fun x hx => by simpa using hW'.lt x hx
  have harg0 : ∀ W', Below W.heap.size W W' → DataW.Trod enc Tryd.prog W' 0 (fun b => decide (b < W.heap.size)) true 22 v0 d0 p0 := fun W' hb =>
    Below.trod nightApart_laid (by kernel_rfl) (of_decide_eq_true (by kernel_rfl)) h0 hb (fun x hx => hlt x (List.mem_append.2 (.inl hx)))
  have hw0 : ∀ k ∈ d0.weights Tryd.prog 22, k ≤ reachBytes := fun k hk => by
    simpa using List.all_eq_true.1 hS k (DataW.weights_mem_each (j := 0) rfl rfl k hk)
  obtain ⟨a0, l0, c0, rfl⟩ := okWide_slice Tryd.underlying22 (hval 0 22 v0 rfl rfl)
  obtain ⟨n0, h0'⟩ := h0
  obtain ⟨xs0, hx0⟩ := texts_opened (by simpa [Value.cells] using h0') hw0
  obtain ⟨z1, rfl, rfl, rfl, wz1⟩ := open_int Tryd.underlying3 (hval 1 3 v1 rfl rfl) h1
  have hz1 := i64_wf wz1
  refine (nightApart_any _ xs0 z1 (snapOf W) W (snapOf_holds W) hx0 hz1).mono fun e W' ⟨he, hb⟩ => ?_
  subst he
  refine ⟨_, rfl, _, _, _, [], _, [], hW', ?_, trodAll_mk2 (harg0 W' hb) (shut_int Tryd.underlying3 wz1), rfl, hb.frame _, fun h => by cases h⟩
  exact trodAll_mk1 (shut_bool Tryd.underlying4 _)

theorem nightApart_said : Rows.NightApartSaid :=
  OpenClaim.holds_of_wide 7 Tryd.f7 rfl rfl rfl rfl rfl rfl rfl ⟨rfl, rfl, rfl, rfl, rfl⟩ rfl rfl rfl rfl rfl (by kernel_rfl) Tryd.func7 (by kernel_rfl)
    (of_decide_eq_true (by kernel_rfl)) (by unfold Func.isWrapper; first | (rw [if_pos (by decide +kernel)]; kernel_rfl) | (rw [if_neg (by decide +kernel)]; exact ⟨rfl, rfl⟩))
    (fun os started H enc _ => nightApart_lifted os started H enc)
theorem nightApart_card : Rows.NightApartCardSaid :=
  Claim7.holds_tied_plain_at .later [] [.data, .pinned] true (true, "939a424db51006e050b52def13aedbed6d4c52175fd3e7427ddbb41609789fdc") false
    nightApart_said (fun _ h => by cases h) (by kernel_rfl) (fun _ h => by cases h) nightApart_row_tie rfl ⟨rfl, rfl⟩ (by kernel_rfl) rfl
    (fun f fn hf hfn => by
      obtain rfl : f = 7 := Option.some.inj ((show Tryd.prog.funcNamed "flong/flonglaw14.NightApart" = some 7 by kernel_rfl).symm.trans hf) |>.symm
      obtain rfl : fn = Tryd.f7 := (Option.some.inj (Tryd.func7.symm.trans hfn)).symm
      exact ⟨by kernel_rfl, fun j t ht => by
        rw [Tryd.params7] at ht
        have hm : t ∈ [22, 3] := by simpa using Array.mem_of_getElem? ht
        have hall : ([22, 3].all fun u => !Tryd.prog.wantsStandIn u) = true := by kernel_rfl
        exact (show Tryd.prog.wantsStandIn t = false by simpa using List.all_eq_true.1 hall t hm)⟩)
    (by kernel_rfl)
end Go.Proofs.YthcfhmebikcfpaaDoor
