/- Proved here: MachinesMoreSaid: the law MachinesMore returns true for every hall, set, machine and plate, and they read afterwards as they did. Conditions: none beyond those of the given statement. -/
import Derived.Test.YtngdppajailpcaaG24
import Derived.Test.YtngdppajailpcaaRows
import Derived.ProofKit

set_option linter.all false

namespace Go.Proofs.Ytngdppajailpcaa
open Go.RowKit

attribute [local go_sem] Holds.drew Holds.alloc Holds.drewN WB.holds Oper.semAt_some FW_fn FW_dep FW_round

/-- Counts and others, added for the first places. -/
def addTo (c d : Cnt) (n : Nat) : Cnt := mk12 fun k => gT c k + if k < n then gT d k else 0
theorem addTo_len (c d : Cnt) (n : Nat) : (addTo c d n).length = 12 := mk12_len _
theorem addTo_zero {c : Cnt} (d : Cnt) (hc : c.length = 12) : addTo c d 0 = c := gt_ext (mk12_len _) hc fun k hk => by
  unfold addTo; rw [gt_mk _ hk]; simp
theorem addTo_at (c d : Cnt) {n : Nat} (hn : n < 12) : gT (addTo c d n) n = gT c n := by unfold addTo; rw [gt_mk _ hn, if_neg (by omega)]; omega
theorem addTo_succ (c d : Cnt) {n : Nat} (_hn : n < 12) : (addTo c d n).set n (gT c n + gT d n) = addTo c d (n + 1) := by
  unfold addTo
  rw [mk12_set]
  refine mk12_congr fun k hk => ?_
  by_cases e : k = n
  · subst e; rw [if_pos rfl, if_pos (by omega)]
  · rw [if_neg e]
    by_cases e2 : k < n
    · rw [if_pos e2, if_pos (by omega)]
    · rw [if_neg e2, if_neg (by omega)]
theorem setOk_one {p : Plate} (h : okPlate p = true) : setOk [p] = true := setOk_iff.2 ⟨fun q hq => by rw [List.mem_singleton.1 hq]; exact h, by simp⟩
theorem one_counts {p : Plate} (h : okPlate p = true) : countsOf [p] = zero12.set (plc p).toNat p.mn := by
  have hp := okPlate_plc h
  show addP zero12 p = _
  unfold addP
  rw [gt_zero (by omega), Int.zero_add]
theorem addTo_all {c : Cnt} (hc : c.length = 12) {p : Plate} (h : okPlate p = true) (h1 : p.mn = 1) : addTo c (countsOf [p]) 12 = c.set (plc p).toNat (gT c (plc p).toNat + 1) := by
  have hp := okPlate_plc h
  rw [one_counts h, h1]
  refine gt_ext (mk12_len _) (by rw [List.length_set]; exact hc) fun k hk => ?_
  unfold addTo
  rw [gt_mk _ hk, if_pos hk, gt_set (by rw [Cn.zero.len]; omega), gt_set (by rw [hc]; omega), gt_zero hk]
  split
  · rename_i e; rw [e]
  · omega
theorem plate_lit {w0 w : World} {H0 H : Snap} (hx : Ext w0 H0 w H) (p : Plate) (h1 : I64 p.pg) (h2 : I64 p.br) (h3 : I64 p.mn) : ∃ H2, SLe H H2 ∧ Ext w0 H0 (w.alloc (.cells #[.int .i64 p.pg, .int .i64 p.br, .int .i64 p.mn] 64)) H2 ∧ Sl H2 (.slice (some ⟨w.heap.size, 0, none⟩) 1 1) [p] :=
  Ext.lit (xs := [p]) (cs := [.int .i64 p.pg, .int .i64 p.br, .int .i64 p.mn]) hx ⟨_, [], rfl, plateRep H p h1 h2 h3, rfl⟩ _ (by simp [Enc.by_]) (by simp)
/-- A set with one plate more. -/
def withO (set : List Plate) (p : Plate) : List Plate := setOf (addTo (countsOf set) (countsOf [p]) 12)

set_option maxRecDepth 100000 in
set_option maxHeartbeats 4000000 in
theorem with_no (vs : Value) (set : List Plate) (a b m : Int) (ha : I64 a) (hb : I64 b) (hbad : setOk [⟨a, b, 1⟩] = false) (H : Snap) (w : World) (hw : Holds H w) (hs : Sl H vs set) :
    Calls Try.prog 31 #[vs, .agg #[.int .i64 a, .int .i64 b, .int .i64 m]] w (PostV w (.tuple #[.slice none 0 0, .bool false])) := by
  go_enter Try.func31, Try.ntmps31
  go_upto_region 2 with fail
  have x1 := (Ext.refl hw).alloc (.cells #[.int .i64 a, .int .i64 b, .int .i64 1] 64)
  generalize hw1 : w.alloc (.cells #[.int .i64 a, .int .i64 b, .int .i64 1] 64) = w1 at *
  have hc0 : w1.cell? ⟨w.heap.size, 0, none⟩ = some (.int .i64 a) := by rw [← hw1, cell_of_row _ _ _ _ _ _ (heap_alloc_new w _)]; rfl
  have hc1 : w1.cell? ⟨w.heap.size, 1, none⟩ = some (.int .i64 b) := by rw [← hw1, cell_of_row _ _ _ _ _ _ (heap_alloc_new w _)]; rfl
  have hc2 : w1.cell? ⟨w.heap.size, 2, none⟩ = some (.int .i64 1) := by rw [← hw1, cell_of_row _ _ _ _ _ _ (heap_alloc_new w _)]; rfl
  clear hw1
  have hI1 : I64 (1 : Int) := by constructor <;> decide
  obtain ⟨H2, l2, x2, s2⟩ := plate_lit x1 ⟨a, b, 1⟩ ha hb hI1
  have hw2 := x2.holds
  go_wp2_with (first | (go_at_call 48; refine (isSet9_any _ [⟨a, b, 1⟩] H2 _ hw2 s2).mono ?_; rintro e w3 ⟨rfl, hb3⟩; rw [hbad]))
  go_ret2
  exact ⟨rfl, x2.below.trans (hb3.mono x2.below.size)⟩

set_option maxRecDepth 100000 in
set_option maxHeartbeats 8000000 in
theorem with_yes (vs : Value) (set : List Plate) (hset : setOk set = true) (a b m : Int) (ha : I64 a) (hb : I64 b) (hok : okPlate ⟨a, b, 1⟩ = true) (H : Snap) (w : World) (hw : Holds H w) (hs : Sl H vs set) :
    Calls Try.prog 31 #[vs, .agg #[.int .i64 a, .int .i64 b, .int .i64 m]] w (Post w H fun v H' => ∃ u, v = .tuple #[u, .bool (setOk (withO set ⟨a, b, 1⟩))] ∧ Sl H' u (withO set ⟨a, b, 1⟩)) := by
  have h1ok := setOk_one hok
  have hfc := countsOf_few hset
  have hfd := countsOf_few h1ok
  have hcn : Cn (addTo (countsOf set) (countsOf [⟨a, b, 1⟩]) 12) := Cn.mk12 fun k hk => by
    have := hfc.bd k hk; have := hfd.bd k hk; rw [if_pos hk]; omega
  have hW : withO set ⟨a, b, 1⟩ = setOf (addTo (countsOf set) (countsOf [⟨a, b, 1⟩]) 12) := rfl
  obtain ⟨sa, sc, rfl, _, _⟩ := hs.form
  rw [hW]
  clear hW
  go_enter Try.func31, Try.ntmps31
  go_upto_region 2 with fail
  have x1 := (Ext.refl hw).alloc (.cells #[.int .i64 a, .int .i64 b, .int .i64 1] 64)
  obtain ⟨PB, hPB⟩ : ∃ PB, PB = w.heap.size := ⟨_, rfl⟩
  have hrow := heap_alloc_new w (.cells #[.int .i64 a, .int .i64 b, .int .i64 1] 64)
  rw [← hPB] at hrow ⊢
  have hPb : w.heap.size ≤ PB := Nat.le_of_eq hPB.symm
  generalize w.alloc (.cells #[.int .i64 a, .int .i64 b, .int .i64 1] 64) = w1 at *
  have x1' := x1.freeze hPb hrow
  have hl1 := Snap.le_put (hw.none_of_ge hPb) (.cells #[.int .i64 a, .int .i64 b, .int .i64 1] 64 (0, 0))
  have hput := Snap.put_same H PB (.cells #[.int .i64 a, .int .i64 b, .int .i64 1] 64 (0, 0))
  generalize H.put PB (.cells #[.int .i64 a, .int .i64 b, .int .i64 1] 64 (0, 0)) = H1 at *
  have hc0 : ∀ w, Holds H1 w → w.cell? ⟨PB, 0, none⟩ = some (.int .i64 a) := fun w hw => cellH hput hw 0
  have hc1 : ∀ w, Holds H1 w → w.cell? ⟨PB, 1, none⟩ = some (.int .i64 b) := fun w hw => cellH hput hw 1
  have hc2 : ∀ w, Holds H1 w → w.cell? ⟨PB, 2, none⟩ = some (.int .i64 1) := fun w hw => cellH hput hw 2
  have hw1 := x1'.holds
  have hs1 := hs.mono hl1
  have hI1 : I64 (1 : Int) := by constructor <;> decide
  clear hput hrow hPB x1 hl1
  go_upto_region 4 with (obtain ⟨H2, l2, x2, s2⟩ := plate_lit x1' ⟨a, b, 1⟩ ha hb hI1; go_at_call 48; refine (isSet9_any _ [⟨a, b, 1⟩] H2 _ x2.holds s2).mono ?_; rintro e w3 ⟨rfl, hb3⟩; rw [h1ok]; have x3 := x2.step (hb3.mono x2.below.size) (x2.holds.below hb3))
  replace hc0 := lift l2 hc0
  replace hc1 := lift l2 hc1
  replace hc2 := lift l2 hc2
  have hs2 := hs1.mono l2
  have hw3 := x3.holds
  clear x2 x1' hw1 hb3 s2
  go_cut [6, 7] (fun c d wc => ∃ cp cq dp dq HD, c = .slice cp 12 cq ∧ d = .slice dp 12 dq ∧ SLe H2 HD ∧ Ext w H wc HD ∧ Own HD w.heap.size wc 3 (.slice cp 12 cq) (countsOf set) ∧ Sl HD (.slice dp 12 dq) (countsOf [⟨a, b, 1⟩]))
  case first =>
    refine wp_region_held_drew (S := (fun w' => Holds H2 w')) (by kernel_rfl) ?_ (fun hHeld0 => ?_)
    · (try dsimp only)
      exact hw3.drew
    refine wpAnyH_take (i := 0) (oi := ?oi1) (v := ?v1) ?hi1 (by kernel_rfl) (by kernel_rfl) (by kernel_rfl) ?hq1 ?hy1 (by assumption) ?rest1
    case hi1 => simp only [List.getElem?_toArray, List.getElem?_cons_zero] <;> rfl
    case hq1 => exact fun _ _ _ h => h
    case hy1 =>
      refine Or.inl ⟨by rfl, ?_⟩
      intro w hSw
      (try dsimp only at hSw)
      go_simp
      (try (with_reducible rfl))
    (try simp only [Act.put, List.setIfInBounds_toArray, List.set_cons_zero, List.set_cons_succ])
    refine wpAnyH_take (i := 2) (oi := ?oi2) (v := ?v2) ?hi2 (by kernel_rfl) (by kernel_rfl) (by kernel_rfl) ?hq2 ?hy2 (by assumption) ?rest2
    case hi2 => simp only [List.getElem?_toArray, List.getElem?_cons_succ, List.getElem?_cons_zero] <;> rfl
    case hq2 => exact fun _ _ _ h => h
    case hy2 =>
      refine Or.inl ⟨by rfl, ?_⟩
      intro w hSw
      (try dsimp only at hSw)
      go_simp
      (try (with_reducible rfl))
    (try simp only [Act.put, List.setIfInBounds_toArray, List.set_cons_zero, List.set_cons_succ])
    refine wpAnyH_ready (rs := [1, 3]) (by kernel_rfl) (by simp) ?_
    refine AllReadyH.cons (o := ?o3) ?ho3 (fun K hK => ?step3) ?more3
    case ho3 => simp only [List.getElem?_toArray, List.getElem?_cons_succ, List.getElem?_cons_zero] <;> rfl
    case step3 =>
      go_simp
      go_at_call 66
      refine (countsOf9_any _ set H2 _ hw3.drew hs2 hset).mono ?_
      rintro e w5 ⟨v5, H5, rfl, y5, o5⟩
      have x5 := x3.drew.trans y5
      have l5 := y5.le hw3.drew
      obtain ⟨p5, k5, e5, _, _⟩ := o5.form
      rw [countsOf_len] at e5
      subst e5
      (try (go_wp2_with fail))
      refine hK.out _ _ ?_ (fun hHeld1 => ?_)
      · (try dsimp only)
        exact x5.holds.mono l5
      clear hK K
      (try clear hHeld0)
      (try simp only [Act.put, List.setIfInBounds_toArray, List.set_cons_zero, List.set_cons_succ])
      refine wpAnyH_ready (rs := [3]) (by kernel_rfl) (by simp) ?_
      refine AllReadyH.cons (o := ?o4) ?ho4 (fun K hK => ?step4) ?more4
      case ho4 => simp only [List.getElem?_toArray, List.getElem?_cons_succ, List.getElem?_cons_zero] <;> rfl
      case step4 =>
        go_simp
        obtain ⟨HL, lL, yL, sL⟩ := plate_lit (Ext.refl x5.holds) ⟨a, b, 1⟩ ha hb hI1
        have xL := x5.trans yL
        have oL := o5.ext x5.holds yL
        refine hK.out _ _ ?_ (fun hHeld2 => ?_)
        · (try dsimp only)
          exact xL.holds.mono (l5.trans lL)
        clear hK K
        (try clear hHeld1)
        (try simp only [Act.put, List.setIfInBounds_toArray, List.set_cons_zero, List.set_cons_succ])
        refine wpAnyH_ready (rs := [4]) (by kernel_rfl) (by simp) ?_
        refine AllReadyH.cons (o := ?o5) ?ho5 (fun K hK => ?step5) ?more5
        case ho5 => simp only [List.getElem?_toArray, List.getElem?_cons_succ, List.getElem?_cons_zero] <;> rfl
        case step5 =>
          go_simp
          go_at_call 66
          refine (countsOf9_any _ [⟨a, b, 1⟩] HL _ xL.holds sL h1ok).mono ?_
          rintro e w6 ⟨v6, H6, rfl, y6, o6⟩
          obtain ⟨HD, yD, _, sD, _⟩ := o6.close y6
          have oC := oL.ext xL.holds yD
          have x6 := xL.trans yD
          have l6 := (l5.trans lL).trans (yD.le xL.holds)
          obtain ⟨p6, k6, e6, _, _⟩ := o6.form
          rw [countsOf_len] at e6
          subst e6
          (try (go_wp2_with fail))
          refine hK.out _ _ ?_ (fun hHeld3 => ?_)
          · (try dsimp only)
            exact x6.holds.mono l6
          clear hK K
          (try clear hHeld2)
          (try simp only [Act.put, List.setIfInBounds_toArray, List.set_cons_zero, List.set_cons_succ])
          refine wpAnyH_take (i := 5) (oi := ?oi6) (v := ?v6) ?hi6 (by kernel_rfl) (by kernel_rfl) (by kernel_rfl) ?hq6 ?hy6 (by assumption) ?rest6
          case hi6 => simp only [List.getElem?_toArray, List.getElem?_cons_succ, List.getElem?_cons_zero] <;> rfl
          case hq6 => exact fun _ _ _ h => h
          case hy6 =>
            refine Or.inl ⟨by rfl, ?_⟩
            intro w hSw
            (try dsimp only at hSw)
            go_simp
            (try (with_reducible rfl))
          (try simp only [Act.put, List.setIfInBounds_toArray, List.set_cons_zero, List.set_cons_succ])
          refine wpAnyH_take (i := 6) (oi := ?oi7) (v := ?v7) ?hi7 (by kernel_rfl) (by kernel_rfl) (by kernel_rfl) ?hq7 ?hy7 (by assumption) ?rest7
          case hi7 => simp only [List.getElem?_toArray, List.getElem?_cons_succ, List.getElem?_cons_zero] <;> rfl
          case hq7 => exact fun _ _ _ h => h
          case hy7 =>
            refine Or.inl ⟨by rfl, ?_⟩
            intro w hSw
            (try dsimp only at hSw)
            go_simp
            (try (with_reducible rfl))
          (try simp only [Act.put, List.setIfInBounds_toArray, List.set_cons_zero, List.set_cons_succ])
          refine wpAnyH_done (by kernel_rfl) ?_ _
          go_wp2_with fail
          go_meet
          exact ⟨_, _, _, _, HD, rfl, rfl, l6, x6, oC.weaken x3.drew.below.size, sD⟩
        exact AllReadyH.nil
      exact AllReadyH.nil
    refine AllReadyH.cons (o := ?o8) ?ho8 (fun K hK => ?step8) ?more8
    case ho8 => simp only [List.getElem?_toArray, List.getElem?_cons_succ, List.getElem?_cons_zero] <;> rfl
    case step8 =>
      go_simp
      obtain ⟨HL, lL, yL, sL⟩ := plate_lit (Ext.refl hw3.drew) ⟨a, b, 1⟩ ha hb hI1
      have xL := x3.drew.trans yL
      refine hK.out _ _ ?_ (fun hHeld1 => ?_)
      · (try dsimp only)
        exact xL.holds.mono lL
      clear hK K
      (try clear hHeld0)
      (try simp only [Act.put, List.setIfInBounds_toArray, List.set_cons_zero, List.set_cons_succ])
      refine wpAnyH_ready (rs := [1]) (by kernel_rfl) (by simp) ?_
      refine AllReadyH.cons (o := ?o9) ?ho9 (fun K hK => ?step9) ?more9
      case ho9 => simp only [List.getElem?_toArray, List.getElem?_cons_succ, List.getElem?_cons_zero] <;> rfl
      case step9 =>
        go_simp
        go_at_call 66
        refine (countsOf9_any _ set HL _ xL.holds (hs2.mono lL) hset).mono ?_
        rintro e w5 ⟨v5, H5, rfl, y5, o5⟩
        have x5 := xL.trans y5
        have l5 := lL.trans (y5.le xL.holds)
        have sL5 := sL.mono (y5.le xL.holds)
        obtain ⟨p5, k5, e5, _, _⟩ := o5.form
        rw [countsOf_len] at e5
        subst e5
        (try (go_wp2_with fail))
        refine hK.out _ _ ?_ (fun hHeld2 => ?_)
        · (try dsimp only)
          exact x5.holds.mono l5
        clear hK K
        (try clear hHeld1)
        (try simp only [Act.put, List.setIfInBounds_toArray, List.set_cons_zero, List.set_cons_succ])
        refine wpAnyH_ready (rs := [4]) (by kernel_rfl) (by simp) ?_
        refine AllReadyH.cons (o := ?o10) ?ho10 (fun K hK => ?step10) ?more10
        case ho10 => simp only [List.getElem?_toArray, List.getElem?_cons_succ, List.getElem?_cons_zero] <;> rfl
        case step10 =>
          go_simp
          go_at_call 66
          refine (countsOf9_any _ [⟨a, b, 1⟩] H5 _ x5.holds sL5 h1ok).mono ?_
          rintro e w6 ⟨v6, H6, rfl, y6, o6⟩
          obtain ⟨HD, yD, _, sD, _⟩ := o6.close y6
          have oC := o5.ext x5.holds yD
          have x6 := x5.trans yD
          have l6 := l5.trans (yD.le x5.holds)
          obtain ⟨p6, k6, e6, _, _⟩ := o6.form
          rw [countsOf_len] at e6
          subst e6
          (try (go_wp2_with fail))
          refine hK.out _ _ ?_ (fun hHeld3 => ?_)
          · (try dsimp only)
            exact x6.holds.mono l6
          clear hK K
          (try clear hHeld2)
          (try simp only [Act.put, List.setIfInBounds_toArray, List.set_cons_zero, List.set_cons_succ])
          refine wpAnyH_take (i := 5) (oi := ?oi11) (v := ?v11) ?hi11 (by kernel_rfl) (by kernel_rfl) (by kernel_rfl) ?hq11 ?hy11 (by assumption) ?rest11
          case hi11 => simp only [List.getElem?_toArray, List.getElem?_cons_succ, List.getElem?_cons_zero] <;> rfl
          case hq11 => exact fun _ _ _ h => h
          case hy11 =>
            refine Or.inl ⟨by rfl, ?_⟩
            intro w hSw
            (try dsimp only at hSw)
            go_simp
            (try (with_reducible rfl))
          (try simp only [Act.put, List.setIfInBounds_toArray, List.set_cons_zero, List.set_cons_succ])
          refine wpAnyH_take (i := 6) (oi := ?oi12) (v := ?v12) ?hi12 (by kernel_rfl) (by kernel_rfl) (by kernel_rfl) ?hq12 ?hy12 (by assumption) ?rest12
          case hi12 => simp only [List.getElem?_toArray, List.getElem?_cons_succ, List.getElem?_cons_zero] <;> rfl
          case hq12 => exact fun _ _ _ h => h
          case hy12 =>
            refine Or.inl ⟨by rfl, ?_⟩
            intro w hSw
            (try dsimp only at hSw)
            go_simp
            (try (with_reducible rfl))
          (try simp only [Act.put, List.setIfInBounds_toArray, List.set_cons_zero, List.set_cons_succ])
          refine wpAnyH_done (by kernel_rfl) ?_ _
          go_wp2_with fail
          go_meet
          exact ⟨_, _, _, _, HD, rfl, rfl, l6, x6, oC.weaken xL.below.size, sD⟩
        exact AllReadyH.nil
      exact AllReadyH.nil
    exact AllReadyH.nil
  case rest =>
    obtain ⟨cp, cq, dp, dq, HD, rfl, rfl, lD, x4, oC, sD⟩ := hcut
    have hw4 := x4.holds
    clear hc0 hc1 hc2 hs1 hs2 hs l2 hw3 x3
    go_wp2
    go_loopw [8] (fun i wr => ∃ k : Nat, k ≤ 12 ∧ i = .int .i64 k ∧ Own HD w.heap.size wr 3 (.slice cp 12 cq) (addTo (countsOf set) (countsOf [⟨a, b, 1⟩]) k) ∧ Ext w H wr HD) (fun i _ => 12 - (intOf i).toNat)
    case atStart => exact ⟨0, by omega, rfl, by rw [addTo_zero _ (countsOf_len _)]; exact oC, x4⟩
    case round =>
      clear oC x4 hw4
      obtain ⟨k, hk, rfl, oC, xr⟩ := hrel
      have hwr := xr.holds
      by_cases hlt : k < 12
      · have b1 := hfc.bd k hlt
        have b2 := hfd.bd k hlt
        have hsucc := addTo_succ (countsOf set) (countsOf [⟨a, b, 1⟩]) hlt
        have hcnk : Cn (addTo (countsOf set) (countsOf [⟨a, b, 1⟩]) k) := Cn.mk12 fun j hj => by
          have := hfc.bd j hj; have := hfd.bd j hj; split <;> omega
        have hat : At (addTo (countsOf set) (countsOf [⟨a, b, 1⟩]) k) k (gT (countsOf set) k) := (hcnk.gt hlt).1.trans (by rw [addTo_at _ _ hlt])
        have hat2 : At (countsOf [⟨a, b, 1⟩]) k (gT (countsOf [⟨a, b, 1⟩]) k) := ((countsOf_cn h1ok).gt hlt).1
        clear hcnk
        obtain ⟨g, cg, hev, _, hcl, hfz, hgb, hgH, hgl, hset2⟩ := oC.int_at hat
        obtain ⟨b', o', c', he', hi', hr'⟩ := sD.int hat2
        rw [addTo_len] at hev
        cases hev
        rw [countsOf_len] at he'
        cases he'
        have hcw : ∀ x : WB HD wr, x.w.cell? ⟨g, k, none⟩ = some (.int .i64 (gT (countsOf set) k)) := fun x => (x.old g k hgl).trans hcl
        generalize hy : gT (countsOf set) k = y at *
        generalize hz : gT (countsOf [⟨a, b, 1⟩]) k = z at *
        replace hsucc := Lib.hid hsucc
        replace hy := Lib.hid hy
        replace hz := Lib.hid hz
        have hk0 : (0 : Int) ≤ (k : Int) := by omega
        have hk1 : (k : Int) < 12 := by omega
        have hwrp : IntKind.i64.wrap (y + z) = y + z := by rw [IntKind.wrap_i64]; omega
        go_upto_region 8 with fail
        refine (wpIn_wide (n := 3)).1 ?_
        show Code.wpIn (FW none) 3 _ _ _ _ _
        have hnq : Nonempty (WB HD wr) := ⟨⟨wr, hwr, Below.refl _ _⟩⟩
        refine wpIn_region_qtail (C := fun w' => ∃ x : WB HD wr, w' = x.w) 10 (by kernel_rfl) (by kernel_rfl) (by kernel_rfl) ⟨⟨World.drew wr, Holds.drew hwr, (Below.refl _ _).drew⟩, rfl⟩ ?_
        simp only [List.take_succ_cons, List.take_zero, List.drop_succ_cons, List.drop_zero]
        repeat go_big_quiet_step ((first | (fail)))
        refine wpQuiet_nil ?_
        clear hnq
        rintro w2 ⟨⟨_, hw2, hb2⟩, rfl⟩
        have oC2 := oC.ext hwr ⟨hb2, hw2, fun _ _ => rfl⟩
        have hx2 : Ext w H w2 HD := xr.step (hb2.mono xr.below.size) hw2
        have hcl2 := (hb2.cell (p := ⟨g, k, none⟩) hgl).trans hcl
        have hfz2 := (hb2.frozen (p := ⟨g, k, none⟩) hgl).trans hfz
        have hset3 := Own.set_int oC2 hlt (addTo_len _ _ _) (y + z) (by unfold I64; omega)
        gi_wp2
        go_wp2
        go_roundw
        case rel => exact ⟨k + 1, by omega, by go_num, by rw [← hsucc.out]; exact hset3, hx2.setCell (a := ⟨g, k, none⟩) hgb hgH _⟩
        case measure => simp [intOf]; omega
      · obtain rfl : k = 12 := by omega
        obtain ⟨H5, x5, l5, s5, _⟩ := oC.close xr
        clear oC
        go_upto_region 10 with (go_at_call 67; refine (setOf9_any _ _ hcn H5 _ x5.holds s5).mono ?_; rintro e w6 ⟨v6, H6, rfl, y6, o6⟩)
        obtain ⟨H7, x7, l7, s7, _⟩ := (o6.weaken x5.below.size).close (x5.trans y6)
        go_wp2_with (first | (go_at_call 12; refine (isSetL_any _ _ H7 _ x7.holds s7).mono ?_; rintro e w8 ⟨rfl, hb8⟩))
        go_ret2
        have x8 := x7.step (hb8.mono x7.below.size) (x7.holds.below hb8)
        exact ⟨_, H7, rfl, x8, _, rfl, s7⟩

end Go.Proofs.Ytngdppajailpcaa

namespace Go.Proofs.Ytngdppajailpcaa
open Go.RowKit

attribute [local go_sem] Holds.drew Holds.alloc Holds.drewN WB.holds Oper.semAt_some FW_fn FW_dep FW_round

set_option maxRecDepth 100000 in
set_option maxHeartbeats 8000000 in
theorem machinesMore_any (vm vb vt vo ve vs : Value) (h : Hall) (set : List Plate) (stop a b m : Int) (H : Snap) (w : World) (hw : Holds H w) (hh : Hal H vm vb vt vo ve h) (hs : Sl H vs set) (hs64 : I64 stop) (ha : I64 a) (hb : I64 b) (hm : I64 m) :
    Calls Try.prog 8 #[halV vm vb vt vo ve h, .agg #[vs, .int .i64 stop], .agg #[.int .i64 a, .int .i64 b, .int .i64 m]] w (PostV w (.bool true)) := by
  obtain ⟨sa, sc, rfl, _, _⟩ := hs.form
  cases hr : ready9 h
  · go_enter Try.func8, Try.ntmps8
    go_wp2_with (first
      | (have hgd := x2; clear hgd; go_at_call 13; refine (works9_any H1 _ x2.holds).mono ?_; rintro e w3 ⟨rfl, hb3⟩; have x3 := x2.step (hb3.mono x2.below.size) (x2.holds.below hb3); have hw3 := x3.holds)
      | (have hgd := x1; clear hgd; go_at_call 11; refine (ready9_any _ _ _ _ _ _ H1 _ x1.holds (hh.mono hle)).mono ?_; rintro e w2 ⟨rfl, hb2⟩; rw [hr]; have x2 := x1.step (hb2.mono x1.below.size) (x1.holds.below hb2); have hw2 := x2.holds)
      | (have hgd := hxb; clear hgd; refine wpList_boxF rfl _ rfl hxb ?_; intro PB w1 H1 hle1 hx hP hPb; have hle := (hle0.trans hleb).trans hle1; obtain ⟨hc0, hc1, hc2, hc3, hc4, hc5⟩ := cellsHal (h := h) (hle1 _ _ (hleb _ _ hB)); have hX1 : H1 XB = some (.cells #[.slice sa set.length sc, .int .i64 stop] 62 (0, 0)) := hle1 _ _ hX; have hP1 : H1 PB = some (.cells #[.int .i64 a, .int .i64 b, .int .i64 m] 64 (0, 0)) := hP; have hX0 : ∀ w, Holds H1 w → w.cell? ⟨XB, 0, none⟩ = some (.slice sa set.length sc) := fun w hw => cellH hX1 hw 0; have hX2 : ∀ w, Holds H1 w → w.cell? ⟨XB, 1, none⟩ = some (.int .i64 stop) := fun w hw => cellH hX1 hw 1; have hP0 : ∀ w, Holds H1 w → w.cell? ⟨PB, 0, none⟩ = some (.int .i64 a) := fun w hw => cellH hP1 hw 0; have hP2 : ∀ w, Holds H1 w → w.cell? ⟨PB, 1, none⟩ = some (.int .i64 b) := fun w hw => cellH hP1 hw 1; have hP3 : ∀ w, Holds H1 w → w.cell? ⟨PB, 2, none⟩ = some (.int .i64 m) := fun w hw => cellH hP1 hw 2; clear hxb hB hX hP hX1 hP1 hle0 hleb hle1; have hw1 := hx.holds; have x1 := hx)
      | (have hgd := hx0; clear hgd; refine wpList_boxF rfl _ rfl hx0 ?_; intro XB wb Hb hleb hxb hX hXb; clear hx0)
      | (have hgd := hw; clear hgd; refine wpList_boxF rfl _ rfl (Ext.refl hw) ?_; intro B w0 H0 hle0 hx0 hB hBw; clear hw))
    go_ret
    exact ⟨rfl, x3.below⟩
  · have hv := ready9_valid hr
    cases hst : setOk set
    · go_enter Try.func8, Try.ntmps8
      go_wp2_with (first
        | (have hgd := x3; clear hgd; go_at_call 13; refine (works9_any H1 _ x3.holds).mono ?_; rintro e w4 ⟨rfl, hb4⟩; have x4 := x3.step (hb4.mono x3.below.size) (x3.holds.below hb4); have hw4 := x4.holds)
        | (have hgd := x2; clear hgd; go_at_call 12; refine (isSetL_any _ set H1 _ x2.holds (hs.mono hle)).mono ?_; rintro e w3 ⟨rfl, hb3⟩; rw [hst]; have x3 := x2.step (hb3.mono x2.below.size) (x2.holds.below hb3); have hw3 := x3.holds)
        | (have hgd := x1; clear hgd; go_at_call 11; refine (ready9_any _ _ _ _ _ _ H1 _ x1.holds (hh.mono hle)).mono ?_; rintro e w2 ⟨rfl, hb2⟩; rw [hr]; have x2 := x1.step (hb2.mono x1.below.size) (x1.holds.below hb2); have hw2 := x2.holds)
        | (have hgd := hxb; clear hgd; refine wpList_boxF rfl _ rfl hxb ?_; intro PB w1 H1 hle1 hx hP hPb; have hle := (hle0.trans hleb).trans hle1; obtain ⟨hc0, hc1, hc2, hc3, hc4, hc5⟩ := cellsHal (h := h) (hle1 _ _ (hleb _ _ hB)); have hX1 : H1 XB = some (.cells #[.slice sa set.length sc, .int .i64 stop] 62 (0, 0)) := hle1 _ _ hX; have hP1 : H1 PB = some (.cells #[.int .i64 a, .int .i64 b, .int .i64 m] 64 (0, 0)) := hP; have hX0 : ∀ w, Holds H1 w → w.cell? ⟨XB, 0, none⟩ = some (.slice sa set.length sc) := fun w hw => cellH hX1 hw 0; have hX2 : ∀ w, Holds H1 w → w.cell? ⟨XB, 1, none⟩ = some (.int .i64 stop) := fun w hw => cellH hX1 hw 1; have hP0 : ∀ w, Holds H1 w → w.cell? ⟨PB, 0, none⟩ = some (.int .i64 a) := fun w hw => cellH hP1 hw 0; have hP2 : ∀ w, Holds H1 w → w.cell? ⟨PB, 1, none⟩ = some (.int .i64 b) := fun w hw => cellH hP1 hw 1; have hP3 : ∀ w, Holds H1 w → w.cell? ⟨PB, 2, none⟩ = some (.int .i64 m) := fun w hw => cellH hP1 hw 2; clear hxb hB hX hP hX1 hP1 hle0 hleb hle1; have hw1 := hx.holds; have x1 := hx)
        | (have hgd := hx0; clear hgd; refine wpList_boxF rfl _ rfl hx0 ?_; intro XB wb Hb hleb hxb hX hXb; clear hx0)
        | (have hgd := hw; clear hgd; refine wpList_boxF rfl _ rfl (Ext.refl hw) ?_; intro B w0 H0 hle0 hx0 hB hBw; clear hw))
      go_ret
      exact ⟨rfl, x4.below⟩
    · cases hpo : okPlate ⟨a, b, 1⟩
      · have hbad : setOk [⟨a, b, 1⟩] = false := by
          cases e : setOk [⟨a, b, 1⟩]
          · rfl
          · have := (setOk_iff.1 e).1 ⟨a, b, 1⟩ (by simp)
            rw [hpo] at this; cases this
        go_enter Try.func8, Try.ntmps8
        go_wp2_with (first
          | (have hgd := x4; clear hgd; go_at_call 13; refine (works9_any H1 _ x4.holds).mono ?_; rintro e w5 ⟨rfl, hb5⟩; have x5 := x4.step (hb5.mono x4.below.size) (x4.holds.below hb5); have hw5 := x5.holds)
          | (have hgd := x3; clear hgd; go_at_call 31; refine (with_no _ set a b m ha hb hbad H1 _ x3.holds (hs.mono hle)).mono ?_; rintro e w4 ⟨rfl, hb4⟩; have x4 := x3.step (hb4.mono x3.below.size) (x3.holds.below hb4); have hw4 := x4.holds)
          | (have hgd := x2; clear hgd; go_at_call 12; refine (isSetL_any _ set H1 _ x2.holds (hs.mono hle)).mono ?_; rintro e w3 ⟨rfl, hb3⟩; rw [hst]; have x3 := x2.step (hb3.mono x2.below.size) (x2.holds.below hb3); have hw3 := x3.holds)
          | (have hgd := x1; clear hgd; go_at_call 11; refine (ready9_any _ _ _ _ _ _ H1 _ x1.holds (hh.mono hle)).mono ?_; rintro e w2 ⟨rfl, hb2⟩; rw [hr]; have x2 := x1.step (hb2.mono x1.below.size) (x1.holds.below hb2); have hw2 := x2.holds)
          | (have hgd := hxb; clear hgd; refine wpList_boxF rfl _ rfl hxb ?_; intro PB w1 H1 hle1 hx hP hPb; have hle := (hle0.trans hleb).trans hle1; obtain ⟨hc0, hc1, hc2, hc3, hc4, hc5⟩ := cellsHal (h := h) (hle1 _ _ (hleb _ _ hB)); have hX1 : H1 XB = some (.cells #[.slice sa set.length sc, .int .i64 stop] 62 (0, 0)) := hle1 _ _ hX; have hP1 : H1 PB = some (.cells #[.int .i64 a, .int .i64 b, .int .i64 m] 64 (0, 0)) := hP; have hX0 : ∀ w, Holds H1 w → w.cell? ⟨XB, 0, none⟩ = some (.slice sa set.length sc) := fun w hw => cellH hX1 hw 0; have hX2 : ∀ w, Holds H1 w → w.cell? ⟨XB, 1, none⟩ = some (.int .i64 stop) := fun w hw => cellH hX1 hw 1; have hP0 : ∀ w, Holds H1 w → w.cell? ⟨PB, 0, none⟩ = some (.int .i64 a) := fun w hw => cellH hP1 hw 0; have hP2 : ∀ w, Holds H1 w → w.cell? ⟨PB, 1, none⟩ = some (.int .i64 b) := fun w hw => cellH hP1 hw 1; have hP3 : ∀ w, Holds H1 w → w.cell? ⟨PB, 2, none⟩ = some (.int .i64 m) := fun w hw => cellH hP1 hw 2; clear hxb hB hX hP hX1 hP1 hle0 hleb hle1; have hw1 := hx.holds; have x1 := hx)
          | (have hgd := hx0; clear hgd; refine wpList_boxF rfl _ rfl hx0 ?_; intro XB wb Hb hleb hxb hX hXb; clear hx0)
          | (have hgd := hw; clear hgd; refine wpList_boxF rfl _ rfl (Ext.refl hw) ?_; intro B w0 H0 hle0 hx0 hB hBw; clear hw))
        go_ret
        exact ⟨rfl, x5.below⟩
      · have hwith := fun (S : Snap) (W : World) (hW : Holds S W) (hs : Sl S (.slice sa set.length sc) set) => with_yes (.slice sa set.length sc) set hst a b m ha hb hpo S W hW hs
        cases ho : setOk (withO set ⟨a, b, 1⟩)
        · rw [ho] at hwith
          generalize withO set ⟨a, b, 1⟩ = o at *
          replace hwith := Lib.hid hwith
          go_enter Try.func8, Try.ntmps8
          go_wp2_with (first
            | (have hgd := x4; clear hgd; go_at_call 13; refine (works9_any H4 _ x4.holds).mono ?_; rintro e w5 ⟨rfl, hb5⟩; have x5 := x4.step (hb5.mono x4.below.size) (x4.holds.below hb5); have hw5 := x5.holds)
            | (have hgd := x3; clear hgd; go_at_call 31; refine (hwith.out H1 _ x3.holds (hs.mono hle)).mono ?_; rintro e w4 ⟨v4, H4, rfl, y4, u4, rfl, s4⟩; obtain ⟨a4, c4, rfl, _, _⟩ := s4.form; have x4 := x3.trans y4; have l4 := y4.le x3.holds; have hw4 := x4.holds; replace hc0 := lift l4 hc0; replace hc1 := lift l4 hc1; replace hc2 := lift l4 hc2; replace hc3 := lift l4 hc3; replace hc4 := lift l4 hc4; replace hc5 := lift l4 hc5; replace hX0 := lift l4 hX0; replace hX2 := lift l4 hX2)
            | (have hgd := x2; clear hgd; go_at_call 12; refine (isSetL_any _ set H1 _ x2.holds (hs.mono hle)).mono ?_; rintro e w3 ⟨rfl, hb3⟩; rw [hst]; have x3 := x2.step (hb3.mono x2.below.size) (x2.holds.below hb3); have hw3 := x3.holds)
            | (have hgd := x1; clear hgd; go_at_call 11; refine (ready9_any _ _ _ _ _ _ H1 _ x1.holds (hh.mono hle)).mono ?_; rintro e w2 ⟨rfl, hb2⟩; rw [hr]; have x2 := x1.step (hb2.mono x1.below.size) (x1.holds.below hb2); have hw2 := x2.holds)
            | (have hgd := hxb; clear hgd; refine wpList_boxF rfl _ rfl hxb ?_; intro PB w1 H1 hle1 hx hP hPb; have hle := (hle0.trans hleb).trans hle1; obtain ⟨hc0, hc1, hc2, hc3, hc4, hc5⟩ := cellsHal (h := h) (hle1 _ _ (hleb _ _ hB)); have hX1 : H1 XB = some (.cells #[.slice sa set.length sc, .int .i64 stop] 62 (0, 0)) := hle1 _ _ hX; have hP1 : H1 PB = some (.cells #[.int .i64 a, .int .i64 b, .int .i64 m] 64 (0, 0)) := hP; have hX0 : ∀ w, Holds H1 w → w.cell? ⟨XB, 0, none⟩ = some (.slice sa set.length sc) := fun w hw => cellH hX1 hw 0; have hX2 : ∀ w, Holds H1 w → w.cell? ⟨XB, 1, none⟩ = some (.int .i64 stop) := fun w hw => cellH hX1 hw 1; have hP0 : ∀ w, Holds H1 w → w.cell? ⟨PB, 0, none⟩ = some (.int .i64 a) := fun w hw => cellH hP1 hw 0; have hP2 : ∀ w, Holds H1 w → w.cell? ⟨PB, 1, none⟩ = some (.int .i64 b) := fun w hw => cellH hP1 hw 1; have hP3 : ∀ w, Holds H1 w → w.cell? ⟨PB, 2, none⟩ = some (.int .i64 m) := fun w hw => cellH hP1 hw 2; clear hxb hB hX hP hX1 hP1 hle0 hleb hle1; have hw1 := hx.holds; have x1 := hx)
            | (have hgd := hx0; clear hgd; refine wpList_boxF rfl _ rfl hx0 ?_; intro XB wb Hb hleb hxb hX hXb; clear hx0)
            | (have hgd := hw; clear hgd; refine wpList_boxF rfl _ rfl (Ext.refl hw) ?_; intro B w0 H0 hle0 hx0 hB hBw; clear hw))
          go_ret
          exact ⟨rfl, x5.below⟩
        · have hfc := countsOf_few hst
          have hfo := countsOf_few ho
          have hpp := okPlate_plc hpo
          have hfd := countsOf_few (setOk_one hpo)
          have hco : countsOf (withO set ⟨a, b, 1⟩) = (countsOf set).set (plc ⟨a, b, 1⟩).toNat (gT (countsOf set) (plc ⟨a, b, 1⟩).toNat + 1) := by
            rw [← addTo_all (countsOf_len set) hpo rfl]
            exact countsOf_setOf (Cn.mk12 fun k hk => by
              have := hfc.bd k hk; have := hfd.bd k hk; rw [if_pos hk]; omega)
          have hle9 : ∀ k, gT (countsOf set) k ≤ gT (countsOf (withO set ⟨a, b, 1⟩)) k := fun k => by
            rw [hco, gt_set (by rw [countsOf_len]; omega)]
            split
            · rename_i e; subst e; omega
            · exact Int.le_refl _
          have hnum := numC_more hv hfc hfo (by omega) hco
          have hb1 := numC_bd hv hfc
          have hb2 := numC_bd hv hfo
          have hlk : ∀ x ∈ lacksA h (withO set ⟨a, b, 1⟩), x ∈ lacksA h set := fun x hx => lacks_more hv hst ho hle9 hx
          have hft : ∀ x ∈ fitA h stop set, x ∈ fitA h stop (withO set ⟨a, b, 1⟩) := fun x hx => fit_more ho hle9 hx
          have hfl : (fitA h stop set).length ≤ h.ed.length := by
            unfold fitA; split
            · exact fitTo_len _ _ _ _
            · simp
          rw [ho] at hwith
          clear hco hle9 hfd hpp hfc hfo
          generalize withO set ⟨a, b, 1⟩ = o at *
          have hk1 := fun (S : Snap) (W : World) (u : Value) (hW : Holds S W) (hh : Hal S vm vb vt vo ve h) (hs : Sl S u set) => lacksL9_any vm vb vt vo ve u h hv set hst S W hW hh hs
          have hk2 := fun (S : Snap) (W : World) (u : Value) (hW : Holds S W) (hh : Hal S vm vb vt vo ve h) (hs : Sl S u o) => lacksL9_any vm vb vt vo ve u h hv o ho S W hW hh hs
          have hE1 := fun (S : Snap) (W : World) (u : Value) (hW : Holds S W) (hh : Hal S vm vb vt vo ve h) (hs : Sl S u set) => extraL9_any vm vb vt vo ve u h hv set hst S W hW hh hs
          have hE2 := fun (S : Snap) (W : World) (u : Value) (hW : Holds S W) (hh : Hal S vm vb vt vo ve h) (hs : Sl S u o) => extraL9_any vm vb vt vo ve u h hv o ho S W hW hh hs
          have hF1 : isMachA h stop = true → ∀ (S : Snap) (W : World) (u : Value), Holds S W → Hal S vm vb vt vo ve h → Sl S u set → Calls Try.prog 32 #[halV vm vb vt vo ve h, .int .i64 stop, u] W (Post W S fun v H' => ∃ u, v = .tuple #[u, .int .i64 0] ∧ Sl H' u (fitA h stop set)) := fun hca S W u hW hh hs => by
            have := fitM_any _ _ _ _ _ _ h stop hs64 set S W hW hh hs
            rw [hca, hst, validHall_iff.2 hv] at this
            exact this
          have hF2 : isMachA h stop = true → ∀ (S : Snap) (W : World) (u : Value), Holds S W → Hal S vm vb vt vo ve h → Sl S u o → Calls Try.prog 32 #[halV vm vb vt vo ve h, .int .i64 stop, u] W (Post W S fun v H' => ∃ u, v = .tuple #[u, .int .i64 0] ∧ Sl H' u (fitA h stop o)) := fun hca S W u hW hh hs => by
            have := fitM_any _ _ _ _ _ _ h stop hs64 o S W hW hh hs
            rw [hca, ho, validHall_iff.2 hv] at this
            exact this
          obtain ⟨M, hM⟩ : ∃ N, numC h (countsOf set) = N := ⟨_, rfl⟩
          obtain ⟨N, hN⟩ : ∃ N, numC h (countsOf o) = N := ⟨_, rfl⟩
          have hcase : (M = 10000 ∧ N = 10000) ∨ (M < 10000 ∧ N = M) ∨ (M < 10000 ∧ N = M - 1) := by
            rw [hM, hN] at hnum
            rw [hM] at hb1
            by_cases hj : joinsH h = []
            · have h1 := numC_none hv (countsOf_cn hst) hj
              have h2 := numC_none hv (countsOf_cn ho) hj
              exact .inl ⟨by omega, by omega⟩
            · have := hb1.2.2 hj
              rcases hnum with e | ⟨e, _⟩
              · exact .inr (.inl ⟨by omega, e⟩)
              · exact .inr (.inr ⟨by omega, e⟩)
          rw [hM] at hE1 hb1
          rw [hN] at hE2 hb2
          have hM0 : 0 ≤ M ∧ M ≤ 10000 := ⟨hb1.1, hb1.2.1⟩
          have hN0 : 0 ≤ N ∧ N ≤ 10000 := ⟨hb2.1, hb2.2.1⟩
          clear hnum hb1 hb2 hM hN
          generalize lacksA h set = KL at *
          generalize lacksA h o = LL at *
          generalize fitA h stop set = FA at *
          generalize fitA h stop o = FB at *
          have hFl2 : decide (h.ed.length < FA.length) = false := decide_eq_false (by omega)
          replace hwith := Lib.hid hwith
          replace hcase := Lib.hid hcase
          replace hlk := Lib.hid hlk
          replace hft := Lib.hid hft
          replace hk1 := Lib.hid hk1
          replace hk2 := Lib.hid hk2
          replace hE1 := Lib.hid hE1
          replace hE2 := Lib.hid hE2
          replace hF1 := Lib.hid hF1
          replace hF2 := Lib.hid hF2
          clear hfl
          obtain ⟨ae, ce, rfl, he1, he2⟩ := hh.ed.form
          go_enter Try.func8, Try.ntmps8
          go_upto_region 4 with (first
            | (have hgd := x3; clear hgd; go_at_call 31; refine (hwith.out H1 _ x3.holds (hs.mono hle)).mono ?_; rintro e w4 ⟨v4, H4, rfl, y4, u4, rfl, s4⟩; obtain ⟨a4, c4, rfl, _, _⟩ := s4.form; have x4 := x3.trans y4; have l4 := y4.le x3.holds; have hw4 := x4.holds; replace hc0 := lift l4 hc0; replace hc1 := lift l4 hc1; replace hc2 := lift l4 hc2; replace hc3 := lift l4 hc3; replace hc4 := lift l4 hc4; replace hc5 := lift l4 hc5; replace hX0 := lift l4 hX0; replace hX2 := lift l4 hX2)
            | (have hgd := x2; clear hgd; go_at_call 12; refine (isSetL_any _ set H1 _ x2.holds (hs.mono hle)).mono ?_; rintro e w3 ⟨rfl, hb3⟩; rw [hst]; have x3 := x2.step (hb3.mono x2.below.size) (x2.holds.below hb3); have hw3 := x3.holds)
            | (have hgd := x1; clear hgd; go_at_call 11; refine (ready9_any _ _ _ _ _ _ H1 _ x1.holds (hh.mono hle)).mono ?_; rintro e w2 ⟨rfl, hb2⟩; rw [hr]; have x2 := x1.step (hb2.mono x1.below.size) (x1.holds.below hb2); have hw2 := x2.holds)
            | (have hgd := hxb; clear hgd; refine wpList_boxF rfl _ rfl hxb ?_; intro PB w1 H1 hle1 hx hP hPb; have hle := (hle0.trans hleb).trans hle1; obtain ⟨hc0, hc1, hc2, hc3, hc4, hc5⟩ := cellsHal (h := h) (hle1 _ _ (hleb _ _ hB)); have hX1 : H1 XB = some (.cells #[.slice sa set.length sc, .int .i64 stop] 62 (0, 0)) := hle1 _ _ hX; have hP1 : H1 PB = some (.cells #[.int .i64 a, .int .i64 b, .int .i64 m] 64 (0, 0)) := hP; have hX0 : ∀ w, Holds H1 w → w.cell? ⟨XB, 0, none⟩ = some (.slice sa set.length sc) := fun w hw => cellH hX1 hw 0; have hX2 : ∀ w, Holds H1 w → w.cell? ⟨XB, 1, none⟩ = some (.int .i64 stop) := fun w hw => cellH hX1 hw 1; have hP0 : ∀ w, Holds H1 w → w.cell? ⟨PB, 0, none⟩ = some (.int .i64 a) := fun w hw => cellH hP1 hw 0; have hP2 : ∀ w, Holds H1 w → w.cell? ⟨PB, 1, none⟩ = some (.int .i64 b) := fun w hw => cellH hP1 hw 1; have hP3 : ∀ w, Holds H1 w → w.cell? ⟨PB, 2, none⟩ = some (.int .i64 m) := fun w hw => cellH hP1 hw 2; clear hxb hB hX hP hX1 hP1 hle0 hleb hle1; have hw1 := hx.holds; have x1 := hx)
            | (have hgd := hx0; clear hgd; refine wpList_boxF rfl _ rfl hx0 ?_; intro XB wb Hb hleb hxb hX hXb; clear hx0)
            | (have hgd := hw; clear hgd; refine wpList_boxF rfl _ rfl (Ext.refl hw) ?_; intro B w0 H0 hle0 hx0 hB hBw; clear hw))
          have hh4 := (hh.mono hle).mono l4
          have ss4 := (hs.mono hle).mono l4
          clear hP0 hP2 hP3 hwith
          go_upto_region 10 with (first
            | (have hgd := x7; clear hgd; go_at_call 15; refine (hE2.out H6 _ _ x7.holds (hh4.mono (l5.trans l6)) (s4.mono (l5.trans l6))).mono ?_; rintro e w8 ⟨rfl, hb8⟩; have x8 := x7.step (hb8.mono x7.below.size) (x7.holds.below hb8); have hw8 := x8.holds)
            | (have hgd := x6; clear hgd; go_at_call 15; refine (hE1.out H6 _ _ x6.holds (hh4.mono (l5.trans l6)) (ss4.mono (l5.trans l6))).mono ?_; rintro e w7 ⟨rfl, hb7⟩; have x7 := x6.step (hb7.mono x6.below.size) (x6.holds.below hb7); have hw7 := x7.holds)
            | (have hgd := x5; clear hgd; go_at_call 16; refine (hk2.out H5 _ _ x5.holds (hh4.mono l5) (s4.mono l5)).mono ?_; rintro e w6 ⟨v6, H6, rfl, y6, u6, rfl, s6⟩; obtain ⟨a6, c6, rfl, _, _⟩ := s6.form; have x6 := x5.trans y6; have l6 := y6.le x5.holds; have hw6 := x6.holds; replace hc0 := lift l6 hc0; replace hc1 := lift l6 hc1; replace hc2 := lift l6 hc2; replace hc3 := lift l6 hc3; replace hc4 := lift l6 hc4; replace hc5 := lift l6 hc5; replace hX0 := lift l6 hX0; replace hX2 := lift l6 hX2)
            | (have hgd := x4; clear hgd; go_at_call 16; refine (hk1.out H4 _ _ x4.holds hh4 ss4).mono ?_; rintro e w5 ⟨v5, H5, rfl, y5, u5, rfl, s5⟩; obtain ⟨a5, c5, rfl, _, _⟩ := s5.form; have x5 := x4.trans y5; have l5 := y5.le x4.holds; have hw5 := x5.holds; replace hc0 := lift l5 hc0; replace hc1 := lift l5 hc1; replace hc2 := lift l5 hc2; replace hc3 := lift l5 hc3; replace hc4 := lift l5 hc4; replace hc5 := lift l5 hc5; replace hX0 := lift l5 hX0; replace hX2 := lift l5 hX2))
          have l46 := l5.trans l6
          have hh6 := hh4.mono l46
          have ss6 := ss4.mono l46
          have so6 := s4.mono l46
          have k6 := s5.mono l6
          clear hh4 ss4 x5 x6 x7 hw5 hw6 hw7 hk1 hk2 hE1 hE2
          go_cut [100] (fun p wc => p = .bool false ∧ Ext w H wc H6)
          case first =>
            rcases hcase.out with ⟨rfl, rfl⟩ | ⟨q1, rfl⟩ | ⟨q1, rfl⟩
            · go_wp2
              go_meet
              exact ⟨rfl, x8⟩
            · have q2 : (N == 10000) = false := by rw [beq_eq_false_iff_ne]; omega
              go_wp2
              go_meet
              exact ⟨rfl, x8⟩
            · have q2 : (M == 10000) = false := by rw [beq_eq_false_iff_ne]; omega
              have q3 : (M - 1 == 10000) = false := by rw [beq_eq_false_iff_ne]; omega
              have q4 : (M - 1 != M) = true := by rw [bne_iff_ne]; omega
              go_wp2
              go_meet
              exact ⟨rfl, x8⟩
          case rest =>
            obtain ⟨rfl, x9⟩ := hcut
            clear x8 hcase hM0 hN0
            go_wp2
            go_loopw [17] (fun i wr => ∃ k : Nat, k ≤ LL.length ∧ i = .int .i64 k ∧ Ext w H wr H6) (fun i _ => LL.length - (intOf i).toNat)
            case atStart => exact ⟨0, Nat.zero_le _, rfl, x9⟩
            case round =>
              clear x9
              obtain ⟨k, hk, rfl, xr⟩ := hrel
              have hwr := xr.holds
              by_cases hkl : k < LL.length
              · obtain ⟨x, hx⟩ := At.mk hkl
                obtain ⟨bl, ol, cl', hez, hib, hrb⟩ := s6.int hx
                cases hez
                have hdin : decide (x ∈ KL) = true := decide_eq_true (hlk.out x hx.mem)
                have hcin : ∀ (W : World), Holds H6 W → Calls Try.prog 21 #[.slice a5 KL.length c5, .int .i64 x] W (PostV W (.bool true)) := fun W hW => by
                  rw [← hdin]; exact in_any _ KL x H6 W hW k6
                replace hcin := Lib.hid hcin
                have hk0 : (0 : Int) ≤ (k : Int) := by omega
                have hk1 : (k : Int) < (LL.length : Int) := by omega
                clear hdin
                go_wp2_with (first | (go_at_call 21; refine (hcin.out _ hwr).mono ?_; rintro e w10 ⟨rfl, hb10⟩; have x10 := xr.step (hb10.mono xr.below.size) (hwr.below hb10)))
                go_roundw
                case rel => exact ⟨k + 1, by omega, by go_num, x10⟩
                case measure => simp [intOf]; omega
              · cases mm : within stop 0 ((h.hs.ms.length : Int) - 1)
                · go_wp2_with (first
                    | (have hgd := x10; clear hgd; go_at_call 13; refine (works9_any H6 _ x10.holds).mono ?_; rintro e w11 ⟨rfl, hb11⟩; have x11 := x10.step (hb11.mono x10.below.size) (x10.holds.below hb11); have hw11 := x11.holds)
                    | (have hgd := xr; clear hgd; go_at_call 22; refine (isMachine4_any _ _ _ _ stop H6 _ xr.holds hh6.hs).mono ?_; rintro e w10 ⟨rfl, hb10⟩; rw [mm]; have x10 := xr.step (hb10.mono xr.below.size) (xr.holds.below hb10); have hw10 := x10.holds))
                  go_ret
                  exact ⟨rfl, x11.below⟩
                · have hma : isMachA h stop = true := mm
                  replace hF1 := Lib.hid (hF1.out hma)
                  replace hF2 := Lib.hid (hF2.out hma)
                  replace hma := Lib.hid hma
                  go_upto_region 19 with (first
                    | (have hgd := xr; clear hgd; go_at_call 22; refine (isMachine4_any _ _ _ _ stop H6 _ xr.holds hh6.hs).mono ?_; rintro e w10 ⟨rfl, hb10⟩; rw [mm]; have x10 := xr.step (hb10.mono xr.below.size) (xr.holds.below hb10); have hw10 := x10.holds))
                  go_cut [18, 19] (fun f e wc => e = .int .i64 0 ∧ ∃ a c H9, f = .slice a FA.length c ∧ SLe H6 H9 ∧ Ext w H wc H9 ∧ Sl H9 (.slice a FA.length c) FA)
                  case first =>
                    go_region_held3 (fun w' => Holds H6 w' ∧ Ext w H w' H6) (first | assumption | exact ⟨by assumption, by assumption⟩ | (go_split_ands; exact ⟨Holds.drew (by assumption), Ext.drew (by assumption)⟩) | (go_split_ands; exact ⟨Holds.alloc (by assumption) _, Ext.alloc (by assumption) _⟩) | (go_split_ands; exact ⟨Holds.drew (Holds.alloc (by assumption) _), Ext.drew (Ext.alloc (by assumption) _)⟩)) (first | ((go_split_ands; go_at_call 20; refine (copySetP_any _ set H6 _ (by assumption) ss6).mono ?_; rintro e wq ⟨vq, Hq, rfl, xq, sq⟩; obtain ⟨aq, cq, rfl, _, _⟩ := sq.form; have lq := xq.le (by assumption); have kq := xq.holds; have xxq : Ext w H wq Hq := Ext.trans (by assumption) xq; have k1 : Holds H6 wq := xq.holds.mono lq; have k2 : Ext w H wq H6 := Ext.step (by assumption) (xq.below.mono (by assumption : Ext w H _ H6).below.size) k1)) | ((go_split_ands; go_at_call 32; refine (hF1.out Hq _ _ (by assumption) (hh6.mono lq) sq).mono ?_; rintro e wz ⟨vz, Hz, rfl, xz, uz, rfl, sz⟩; obtain ⟨az, cz, rfl, _, _⟩ := sz.form; have lz := xz.le kq; have xxz := xxq.trans xz; have k1 : Holds H6 wz := xz.holds.mono (lq.trans lz); have k2 : Ext w H wz H6 := Ext.step (by assumption) (xz.below.mono (by assumption : Ext w H _ H6).below.size) k1)))
                    all_goals
                      go_split_ands
                      go_wp2_with fail
                      go_meet
                      exact ⟨rfl, _, _, Hz, rfl, lq.trans lz, by first | exact xxz | exact xxz.drew, sz⟩
                  case rest =>
                    obtain ⟨rfl, af, cf, H9, rfl, l9, x12, s12⟩ := hcut
                    have hw12 := x12.holds
                    replace hc0 := lift l9 hc0
                    replace hc1 := lift l9 hc1
                    replace hc2 := lift l9 hc2
                    replace hc3 := lift l9 hc3
                    replace hc4 := lift l9 hc4
                    replace hc5 := lift l9 hc5
                    replace hX0 := lift l9 hX0
                    replace hX2 := lift l9 hX2
                    go_upto_region 21 with (first
                      | (have hgd := x12; clear hgd; go_at_call 32; refine (hF2.out H9 _ _ x12.holds (hh6.mono l9) (so6.mono l9)).mono ?_; rintro e w13 ⟨v13, H13, rfl, y13, u13, rfl, s13⟩; obtain ⟨a13, c13, rfl, _, _⟩ := s13.form; have x13 := x12.trans y13; have l13 := y13.le x12.holds; have hw13 := x13.holds; replace hc0 := lift l13 hc0; replace hc1 := lift l13 hc1; replace hc2 := lift l13 hc2; replace hc3 := lift l13 hc3; replace hc4 := lift l13 hc4; replace hc5 := lift l13 hc5; replace hX0 := lift l13 hX0; replace hX2 := lift l13 hX2))
                    have s14 := s12.mono l13
                    have hfal := s14.le
                    go_wp2
                    go_loopw [22] (fun i wr => ∃ k : Nat, k ≤ FA.length ∧ i = .int .i64 k ∧ Ext w H wr H13) (fun i _ => FA.length - (intOf i).toNat)
                    case atStart => exact ⟨0, Nat.zero_le _, rfl, x13⟩
                    case round =>
                      clear x13
                      obtain ⟨j, hj, rfl, xq⟩ := hrel
                      have hwq := xq.holds
                      by_cases hjl : j < FA.length
                      · obtain ⟨x, hx⟩ := At.mk hjl
                        obtain ⟨bl, ol, cl', hez, hib, hrb⟩ := s14.int hx
                        cases hez
                        have hdin : decide (x ∈ FB) = true := decide_eq_true (hft.out x hx.mem)
                        have hcin : ∀ (W : World), Holds H13 W → Calls Try.prog 21 #[.slice a13 FB.length c13, .int .i64 x] W (PostV W (.bool true)) := fun W hW => by
                          rw [← hdin]; exact in_any _ FB x H13 W hW s13
                        replace hcin := Lib.hid hcin
                        have hj0 : (0 : Int) ≤ (j : Int) := by omega
                        have hj1 : (j : Int) < (FA.length : Int) := by omega
                        clear hdin
                        go_wp2_with (first | (go_at_call 21; refine (hcin.out _ hwq).mono ?_; rintro e w14 ⟨rfl, hb14⟩; have x14 := xq.step (hb14.mono xq.below.size) (hwq.below hb14)))
                        go_roundw
                        case rel => exact ⟨j + 1, by omega, by go_num, x14⟩
                        case measure => simp [intOf]; omega
                      · go_wp2_with (first | (go_at_call 13; refine (works9_any H13 _ hwq).mono ?_; rintro e w15 ⟨rfl, hb15⟩))
                        go_ret
                        exact ⟨rfl, xq.below.trans (hb15.mono xq.below.size)⟩

end Go.Proofs.Ytngdppajailpcaa

namespace Go.Proofs.Ytngdppajailpcaa
open Go.ChangeShapes Go.WideShapes Go.ChangeAt Go.RowKit

theorem machinesMore_own : ownKnob Try.prog.godebug = none := by kernel_rfl
theorem machinesMore_laid : laidOutB Try.prog = true := by kernel_rfl

set_option maxHeartbeats 1600000 in
set_option maxRecDepth 100000 in
theorem machinesMore_lifted (os : Os) (started : os.Started) (H : Type) (enc : TypeId × Value → H) :
    ReturnsInHanded {} Try.checked os 8 .any (Rows.machinesMoreSpec.pre6 enc Try.prog Try.f8 Rows.machinesMoreRow.domain false) (Rows.machinesMoreSpec.post enc Try.prog Try.f8 false true false false) := by
  refine returnsInHanded_of_change_sized (C := Try.checked) machinesMore_own started (by kernel_rfl) Try.func8
    (ChangeSpec.witness6 (enc := enc) (C := Try.checked) false ⟨#[], #[.agg #[.slice none 0 0, .slice none 0 0, .slice none 0 0, .int .i64 0, .slice none 0 0, .slice none 0 0], .agg #[.slice none 0 0, .int .i64 0], .agg #[.int .i64 0, .int .i64 0, .int .i64 0]], []⟩ 8 (by kernel_rfl) (by kernel_rfl) (by kernel_rfl) (by kernel_rfl)) ?_
  intro W base args ds gs before hval0 hW _ hsz _
  have hval : ∀ (j : Nat) t v, Try.f8.params[j]? = some t → args[j]? = some v → Value.okWide Try.prog W .any base t v := hval0
  have hW' := hW
  obtain ⟨p, q, hA0, hV, rfl, _, _⟩ := hW
  have hA : DataW.TrodAll enc Try.prog W 0 (fun _ => true) true Try.f8.params.toList args.toList ds p := hA0
  have hS : (DataW.weightsEach Try.prog (Try.f8.params.toList ++ []) (ds ++ gs)).all (· ≤ reachBytes) = true := hsz
  rw [Try.params8] at hA hval hS
  obtain ⟨v0, vs0, d0, ds0, p0, q0, hargs, rfl, rfl, h0, r0⟩ := trodAll_cons hA
  obtain ⟨v1, vs1, d1, ds1, p1, q1, rfl, rfl, rfl, h1, r1⟩ := trodAll_cons r0
  obtain ⟨v2, vs2, d2, ds2, p2, q2, rfl, rfl, rfl, h2, r2⟩ := trodAll_cons r1
  obtain ⟨rfl, rfl, rfl⟩ := trodAll_nil r2
  obtain rfl : args = #[v0, v1, v2] := by cases args; simp_all
  obtain ⟨rfl, rfl⟩ := trodVars_none hV
  clear hA0 hval0 hsz
  simp only [List.append_nil] at hW' hS
  have hlt : ∀ x ∈ p0 ++ (p1 ++ p2), x.block < W.heap.size := fun x hx => by simpa using hW'.lt x hx
  have harg0 : ∀ W', Below W.heap.size W W' → DataW.Trod enc Try.prog W' 0 (fun b => decide (b < W.heap.size)) true 29 v0 d0 p0 := fun W' hb =>
    Below.trod machinesMore_laid (by kernel_rfl) (of_decide_eq_true (by kernel_rfl)) h0 hb (fun x hx => hlt x (List.mem_append.2 (.inl hx)))
  have hw0 : ∀ k ∈ d0.weights Try.prog 29, k ≤ reachBytes := fun k hk => by
    simpa using List.all_eq_true.1 hS k (DataW.weights_mem_each (j := 0) rfl rfl k hk)
  have harg1 : ∀ W', Below W.heap.size W W' → DataW.Trod enc Try.prog W' 0 (fun b => decide (b < W.heap.size)) true 62 v1 d1 p1 := fun W' hb =>
    Below.trod machinesMore_laid (by kernel_rfl) (of_decide_eq_true (by kernel_rfl)) h1 hb (fun x hx => hlt x (List.mem_append.2 (.inr (List.mem_append.2 (.inl hx)))))
  have hw1 : ∀ k ∈ d1.weights Try.prog 62, k ≤ reachBytes := fun k hk => by
    simpa using List.all_eq_true.1 hS k (DataW.weights_mem_each (j := 1) rfl rfl k hk)
  have harg2 : ∀ W', Below W.heap.size W W' → DataW.Trod enc Try.prog W' 0 (fun b => decide (b < W.heap.size)) true 64 v2 d2 p2 := fun W' hb =>
    Below.trod machinesMore_laid (by kernel_rfl) (of_decide_eq_true (by kernel_rfl)) h2 hb (fun x hx => hlt x (List.mem_append.2 (.inr (List.mem_append.2 (.inr hx)))))
  have hw2 : ∀ k ∈ d2.weights Try.prog 64, k ≤ reachBytes := fun k hk => by
    simpa using List.all_eq_true.1 hS k (DataW.weights_mem_each (j := 2) rfl rfl k hk)
  obtain ⟨vm, vb, vt, vo, ve, hs, rfl, hh⟩ := hall_opened (hval 0 29 v0 rfl rfl) h0 hw0
  obtain ⟨cv1, cs1, cn1, rfl, hx1, hz1⟩ := case_opened (hval 1 62 v1 rfl rfl) h1 hw1
  obtain ⟨ma2, mb2, mc2, rfl, hp2, hq2, hr2⟩ := plate_opened (hval 2 64 v2 rfl rfl) h2
  refine (machinesMore_any vm vb vt vo ve cv1 hs cs1 cn1 ma2 mb2 mc2 (snapOf W) W (snapOf_holds W) hh hx1 hz1 hp2 hq2 hr2).mono fun e W' ⟨he, hb⟩ => ?_
  subst he
  refine ⟨_, rfl, _, _, _, [], _, [], hW', ?_, trodAll_cons_mk (harg0 W' hb) (trodAll_cons_mk (harg1 W' hb) (trodAll_cons_mk (harg2 W' hb) trodAll_mk0)), rfl, hb.frame _, fun h => by cases h⟩
  exact trodAll_mk1 (shut_bool Try.underlying4 _)

theorem machinesMore_said : Rows.MachinesMoreSaid :=
  OpenClaim.holds_of_wide 8 Try.f8 rfl rfl rfl rfl rfl rfl rfl ⟨rfl, rfl, rfl, rfl, rfl⟩ rfl rfl rfl rfl rfl (by kernel_rfl) Try.func8 (by kernel_rfl)
    (of_decide_eq_true (by kernel_rfl)) (by unfold Func.isWrapper; first | (rw [if_pos (by decide +kernel)]; kernel_rfl) | (rw [if_neg (by decide +kernel)]; exact ⟨rfl, rfl⟩))
    (fun os started H enc _ => machinesMore_lifted os started H enc)

end Go.Proofs.Ytngdppajailpcaa
